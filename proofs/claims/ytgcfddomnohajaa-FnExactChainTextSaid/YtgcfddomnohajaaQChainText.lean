/- Plain lists and numbers: what the program's functions and the reference's compute. -/
import Derived.Test.YtgcfddomnohajaaPIe
import Derived.Test.YtgcfddomnohajaaPLawChainText
import Derived.Test.YtgcfddomnohajaaPSe
import Derived.Test.YtgcfddomnohajaaQChain
import Derived.Test.YtgcfddomnohajaaQChainLaws
import Derived.Test.YtgcfddomnohajaaQScaf
namespace Go.Proofs.Ytgcfddomnohajaa.Q
open Go.RowKit Go.Proofs.Ytgcfddomnohajaa.P Go.Proofs.YtgcfddomnohajaaW.PrintWords Go.Proofs.YtgcfddomnohajaaW.PrintLast Go.Proofs.YtgcfddomnohajaaW.PrintMore
set_option linter.unusedVariables false
set_option linter.unusedSimpArgs false

theorem strOfNums_append (a b : List Int) : strOfNums (a ++ b) = strOfNums a ++ strOfNums b := by
  unfold strOfNums
  apply ByteArray.ext
  rw [ByteArray.data_append]
  simp
theorem strOfNums_size (a : List Int) : (strOfNums a).size = a.length := by
  unfold strOfNums
  show (Array.size _) = _
  simp
theorem strOfNums_nil : strOfNums [] = (⟨#[]⟩ : ByteArray) := rfl
theorem l1Num_digit (x : Int) (h0 : 0 ≤ x) (h9 : x ≤ 9) (k : Nat) : spec_l1Num.f (k + 1) x = some (strOfNums [48 + x]) := by
  simp only [spec_l1Num.f]
  rw [if_pos (by omega), wrap_eq (by omega) (by omega), show (48 + x) % 256 = 48 + x by omega]
theorem l1Num_ev (x : Int) (h0 : 0 ≤ x) (h9 : x ≤ 9) : Ev (fun k => spec_l1Num.f k x) (strOfNums [48 + x]) :=
  ⟨1, fun k hk => by obtain ⟨k, rfl⟩ : ∃ m, k = m + 1 := ⟨k - 1, by omega⟩; exact l1Num_digit x h0 h9 k⟩
theorem haText_loop : ∀ (suf pre : List Int), (∀ n ∈ suf, 0 ≤ n ∧ n ≤ 9) → (pre ++ suf).length ≤ 1000000000 → Ev (fun k => spec_haText.l0 k (strOfNums (pre.map (48 + ·))) (pre ++ suf) ((pre ++ suf).length : Int) (pre.length : Int)) (strOfNums ((pre ++ suf).map (48 + ·))) := by
  intro suf
  induction suf with
  | nil =>
    intro pre h hl
    refine ⟨1, fun k hk => ?_⟩
    obtain ⟨k, rfl⟩ : ∃ m, k = m + 1 := ⟨k - 1, by omega⟩
    simp only [spec_haText.l0]
    rw [if_neg (by simp), List.append_nil]
  | cons x suf ih =>
    intro pre h hl
    have hlen : (pre ++ x :: suf).length = pre.length + suf.length + 1 := by simp; omega
    have h1 : (pre.length : Int) < ((pre ++ x :: suf).length : Int) := by omega
    have := ih (pre ++ [x]) (fun n hn => h n (by simp [hn])) (by simpa using hl)
    rw [List.append_assoc, show ((pre ++ [x]).length : Int) = ((pre.length + 1 : Nat) : Int) by simp, List.map_append, strOfNums_append] at this
    refine Ev.step (f := fun k => (spec_l1Num.f k x).bind fun t => if (strOfNums (pre.map (48 + ·))).size + t.size ≤ 9223372036854775807 then spec_haText.l0 k (strOfNums (pre.map (48 + ·)) ++ t) (pre ++ x :: suf) ((pre ++ x :: suf).length : Int) ((pre.length + 1 : Nat) : Int) else none) (fun k => ?_) (Ev.bind (l1Num_ev x (h x (by simp)).1 (h x (by simp)).2) ?_)
    · simp only [spec_haText.l0]
      rw [if_pos h1, if_pos (by omega), if_pos h1, rd_at, wrap_succ (by omega)]
    · refine Ev.congr (fun k => ?_) this
      rw [if_pos (by rw [strOfNums_size, strOfNums_size]; simp; omega)]
      rfl
theorem haText_ev (l : List Int) (h : ∀ n ∈ l, 0 ≤ n ∧ n ≤ 9) (hl : l.length ≤ 1000000000) : Ev (fun k => spec_haText.f k l) (strOfNums (l.map (48 + ·))) := haText_loop l [] h (by simpa using hl)
theorem chainText_loop : ∀ (suf pre : List Int), (∀ n ∈ suf, 0 ≤ n ∧ n ≤ 9) → (pre ++ suf).length ≤ 1000000000 → Ev (fun k => impl_chainText.l0 k (pre.map (48 + ·)) (pre ++ suf) ((pre ++ suf).length : Int) (pre.length : Int)) (strOfNums ((pre ++ suf).map (48 + ·))) := by
  intro suf
  induction suf with
  | nil =>
    intro pre h hl
    refine ⟨1, fun k hk => ?_⟩
    obtain ⟨k, rfl⟩ : ∃ m, k = m + 1 := ⟨k - 1, by omega⟩
    simp only [impl_chainText.l0]
    rw [if_neg (by simp), List.append_nil]
  | cons x suf ih =>
    intro pre h hl
    have hlen : (pre ++ x :: suf).length = pre.length + suf.length + 1 := by simp; omega
    have h1 : (pre.length : Int) < ((pre ++ x :: suf).length : Int) := by omega
    have hx := h x (by simp)
    have := ih (pre ++ [x]) (fun n hn => h n (by simp [hn])) (by simpa using hl)
    rw [List.append_assoc, show ((pre ++ [x]).length : Int) = ((pre.length + 1 : Nat) : Int) by simp, List.map_append] at this
    refine Ev.step (fun k => ?_) this
    simp only [impl_chainText.l0]
    rw [if_pos h1, if_pos (by omega), if_pos h1, rd_at, if_neg (by omega), if_pos (by simp; omega), wrap_succ (by omega), wrap_eq (by omega) (by omega), show (48 + x) % 256 = 48 + x by omega]
    rfl
theorem chainText_ev (l : List Int) (h : ∀ n ∈ l, 0 ≤ n ∧ n ≤ 9) (hl : l.length ≤ 1000000000) : Ev (fun k => impl_chainText.f k l) (strOfNums (l.map (48 + ·))) := chainText_loop l [] h (by simpa using hl)
theorem ChainText_same (l : List Int) (hl : l.length ≤ 1048576) : ∃ r, Ev (fun k => spec_ChainText.f k l) r ∧ Ev (fun k => impl_ChainText.f k l) r := by
  have h1 := haGood_ev l (by omega)
  have h2 := IsChain_ev l (by omega)
  cases hc : chainB l with
  | false =>
    rw [hc] at h1 h2
    exact ⟨(⟨#[]⟩, false), guard_ev h1 (fun h => by cases h) (fun _ => rfl), guard_ev h2 (fun h => by cases h) (fun _ => rfl)⟩
  | true =>
    rw [hc] at h1 h2
    have hi := chainB_in hc
    exact ⟨(strOfNums (l.map (48 + ·)), true), guard_ev h1 (fun _ => Ev.bind (haText_ev l hi (by omega)) (Ev.now _)) (fun h => by cases h), guard_ev h2 (fun _ => Ev.bind (chainText_ev l hi (by omega)) (Ev.now _)) (fun h => by cases h)⟩

end Go.Proofs.Ytgcfddomnohajaa.Q
