/- Plain lists and numbers: what the program's functions and the reference's compute. -/
import Derived.Test.YtdpimdaofikmjaaP0
import Derived.Test.YtdpimdaofikmjaaPIa
import Derived.Test.YtdpimdaofikmjaaPIb
import Derived.Test.YtdpimdaofikmjaaPIc
import Derived.Test.YtdpimdaofikmjaaPSa
import Derived.Test.YtdpimdaofikmjaaPSd
import Derived.Test.YtdpimdaofikmjaaQHand
import Derived.Test.YtdpimdaofikmjaaQScaf
namespace Go.Proofs.Ytdpimdaofikmjaa.Q
open Go.RowKit Go.Proofs.Ytdpimdaofikmjaa.P Go.Proofs.YtdpimdaofikmjaaW.PrintWords Go.Proofs.YtdpimdaofikmjaaW.PrintLast Go.Proofs.YtdpimdaofikmjaaW.PrintMore
set_option linter.unusedVariables false
set_option linter.unusedSimpArgs false

/-- The tile with two numbers. -/
def mkT (a b : Int) : S67 := ⟨if a < b then a else b, if a < b then b else a⟩
theorem tiOf_some (a b : Int) : spec_tiOf.f a b = some ((mkT a b).f0, (mkT a b).f1) := by
  unfold spec_tiOf.f spec_l1Least.f spec_l1Most.f mkT
  by_cases h : a < b
  · rw [if_pos h, if_neg (by omega), if_pos h, if_pos h]; rfl
  · rw [if_neg h, if_neg h, if_neg h]
    by_cases h2 : a > b
    · rw [if_pos h2]; rfl
    · rw [if_neg h2]; obtain rfl : a = b := by omega
      rfl
theorem tile_some (a b : Int) : impl_tile.f a b = some ((mkT a b).f0, (mkT a b).f1) := by
  unfold impl_tile.f mkT mn mx
  by_cases h : a < b
  · rw [if_neg (by omega), if_pos h, if_pos h]
  · rw [if_neg h, if_neg h]
    by_cases h2 : b < a
    · rw [if_pos h2]
    · obtain rfl : a = b := by omega
      rw [if_neg h2]
theorem mkT_comm (a b : Int) : mkT a b = mkT b a := by
  unfold mkT
  by_cases h : a < b
  · rw [if_pos h, if_pos h, if_neg (by omega), if_neg (by omega)]
  · rw [if_neg h, if_neg h]
    by_cases h2 : b < a
    · rw [if_pos h2, if_pos h2]
    · obtain rfl : a = b := by omega
      rw [if_neg h2]
theorem mkT_good (a b : Int) (ha : 0 ≤ a ∧ a ≤ 9) (hb : 0 ≤ b ∧ b ≤ 9) : goodT (mkT a b) = true := by
  rw [goodT_iff]; unfold mkT; simp only; split <;> omega
/-- The tiles of a list of numbers. -/
def tilesT : List Int → List S67
  | [] => []
  | [_] => []
  | a :: b :: r => mkT a b :: tilesT (b :: r)
theorem tilesT_length : ∀ l : List Int, (tilesT l).length = l.length - 1
  | [] => rfl
  | [_] => rfl
  | a :: b :: r => by simp [tilesT, tilesT_length (b :: r)]
theorem rd_at (pre : List Int) (x : Int) (suf : List Int) : rd (pre ++ x :: suf) (pre.length : Int) = x := rd_nat _ _ _ (by simp)
theorem haTiles_loop : ∀ (suf pre : List Int) (a : Int) (acc : List S67), (pre ++ a :: suf).length ≤ 1000000000 → acc.length ≤ pre.length → Ev (fun k => spec_haTiles.l0 k (pre ++ a :: suf) acc ((pre.length + 1 : Nat) : Int)) (acc ++ tilesT (a :: suf)) := by
  intro suf
  induction suf with
  | nil =>
    intro pre a acc hl ha
    refine ⟨1, fun k hk => ?_⟩
    obtain ⟨k, rfl⟩ : ∃ m, k = m + 1 := ⟨k - 1, by omega⟩
    simp only [spec_haTiles.l0]
    rw [if_neg (by simp)]
    simp [tilesT]
  | cons b suf ih =>
    intro pre a acc hl ha
    have hlen : (pre ++ a :: b :: suf).length = pre.length + suf.length + 2 := by simp; omega
    have := ih (pre ++ [a]) b (acc ++ [mkT a b]) (by simpa using hl) (by simp; omega)
    rw [List.append_assoc, List.append_assoc] at this
    have e0 : (((pre ++ [a]).length + 1 : Nat) : Int) = ((pre.length + 1 + 1 : Nat) : Int) := by simp
    rw [e0] at this
    have w1 : wrap64 (((pre.length + 1 : Nat) : Int) - 1) = (pre.length : Int) := by rw [wrap_eq (by omega) (by omega)]; omega
    have r2 : rd (pre ++ a :: b :: suf) ((pre.length + 1 : Nat) : Int) = b := rd_nat _ _ _ (by simp)
    refine Ev.step (fun k => ?_) this
    simp only [spec_haTiles.l0]
    rw [if_pos (by omega), w1, if_pos (by omega), if_pos (by omega), if_pos (by omega), rd_at, r2, tiOf_some, Option.bind_some, if_pos (by omega), wrap_succ (by omega)]
    rfl
theorem haTiles_ev (l : List Int) (hl : l.length ≤ 1000000000) : Ev (fun k => spec_haTiles.f k l) (tilesT l) := by
  cases l with
  | nil => exact ⟨1, fun k hk => by obtain ⟨k, rfl⟩ : ∃ m, k = m + 1 := ⟨k - 1, by omega⟩; rfl⟩
  | cons a suf => exact haTiles_loop suf [] a [] (by simpa using hl) (by simp)
theorem tilesOf_loop : ∀ (suf pre : List Int) (a : Int) (acc : List S67), (pre ++ a :: suf).length ≤ 1000000000 → acc.length ≤ pre.length → Ev (fun k => impl_tilesOf.l0 k (pre ++ a :: suf) acc ((pre.length + 1 : Nat) : Int)) (acc ++ tilesT (a :: suf)) := by
  intro suf
  induction suf with
  | nil =>
    intro pre a acc hl ha
    refine ⟨1, fun k hk => ?_⟩
    obtain ⟨k, rfl⟩ : ∃ m, k = m + 1 := ⟨k - 1, by omega⟩
    simp only [impl_tilesOf.l0]
    rw [if_neg (by simp)]
    simp [tilesT]
  | cons b suf ih =>
    intro pre a acc hl ha
    have hlen : (pre ++ a :: b :: suf).length = pre.length + suf.length + 2 := by simp; omega
    have := ih (pre ++ [a]) b (acc ++ [mkT a b]) (by simpa using hl) (by simp; omega)
    rw [List.append_assoc, List.append_assoc] at this
    have e0 : (((pre ++ [a]).length + 1 : Nat) : Int) = ((pre.length + 1 + 1 : Nat) : Int) := by simp
    rw [e0] at this
    have w1 : wrap64 (((pre.length + 1 : Nat) : Int) - 1) = (pre.length : Int) := by rw [wrap_eq (by omega) (by omega)]; omega
    have r2 : rd (pre ++ a :: b :: suf) ((pre.length + 1 : Nat) : Int) = b := rd_nat _ _ _ (by simp)
    refine Ev.step (fun k => ?_) this
    simp only [impl_tilesOf.l0]
    rw [if_pos (by omega), w1, if_pos (by omega), if_pos (by omega), if_pos (by omega), rd_at, r2, tile_some, Option.bind_some, if_pos (by omega), wrap_succ (by omega)]
    rfl
theorem tilesOf_ev (l : List Int) (hl : l.length ≤ 1000000000) : Ev (fun k => impl_tilesOf.f k l) (tilesT l) := by
  cases l with
  | nil => exact ⟨1, fun k hk => by obtain ⟨k, rfl⟩ : ∃ m, k = m + 1 := ⟨k - 1, by omega⟩; rfl⟩
  | cons a suf => exact tilesOf_loop suf [] a [] (by simpa using hl) (by simp)
/-- All numbers lie in 0..9. -/
def inB (l : List Int) : Bool := l.all fun n => decide (0 ≤ n) && decide (n ≤ 9)
theorem inB_iff (l : List Int) : inB l = true ↔ ∀ n ∈ l, 0 ≤ n ∧ n ≤ 9 := by
  unfold inB; simp
theorem l1All_loop : ∀ (suf pre : List Int), (pre ++ suf).length ≤ 1000000000 → Ev (fun k => spec_l1All.l0 k 0 9 (pre ++ suf) ((pre ++ suf).length : Int) (pre.length : Int)) (inB suf) := by
  intro suf
  induction suf with
  | nil =>
    intro pre hl
    refine ⟨1, fun k hk => ?_⟩
    obtain ⟨k, rfl⟩ : ∃ m, k = m + 1 := ⟨k - 1, by omega⟩
    simp only [spec_l1All.l0]
    rw [if_neg (by simp)]
    rfl
  | cons x suf ih =>
    intro pre hl
    have hlen : (pre ++ x :: suf).length = pre.length + suf.length + 1 := by simp; omega
    have h1 : (pre.length : Int) < ((pre ++ x :: suf).length : Int) := by omega
    have hin : spec_l1In.f x 0 9 = some (decide (0 ≤ x) && decide (x ≤ 9)) := by
      unfold spec_l1In.f
      by_cases h : x ≥ 0
      · rw [if_pos h]; simp [h]
      · rw [if_neg h]; simp [h]
    cases c : (decide (0 ≤ x) && decide (x ≤ 9)) with
    | true =>
      rw [c] at hin
      have := ih (pre ++ [x]) (by simpa using hl)
      rw [List.append_assoc, show ((pre ++ [x]).length : Int) = ((pre.length + 1 : Nat) : Int) by simp] at this
      rw [show inB (x :: suf) = inB suf by unfold inB; rw [List.all_cons, c, Bool.true_and]]
      refine Ev.step (fun k => ?_) this
      simp only [spec_l1All.l0]
      rw [if_pos h1, if_pos (by omega), if_pos h1, rd_at, hin, Option.bind_some, if_pos rfl, wrap_succ (by omega)]
      rfl
    | false =>
      rw [c] at hin
      rw [show inB (x :: suf) = false by unfold inB; rw [List.all_cons, c, Bool.false_and]]
      refine Ev.step (f := fun _ => some false) (fun k => ?_) (Ev.now _)
      simp only [spec_l1All.l0]
      rw [if_pos h1, if_pos (by omega), if_pos h1, rd_at, hin, Option.bind_some, if_neg (by decide)]
theorem l1All_ev (l : List Int) (hl : l.length ≤ 1000000000) : Ev (fun k => spec_l1All.f k l 0 9) (inB l) := l1All_loop l [] (by simpa using hl)
/-- All tiles of the double nine. -/
def set9 : List S67 := (List.range 10).flatMap fun (a : Nat) => ((List.range 10).filter fun (b : Nat) => decide (a ≤ b)).map fun (b : Nat) => ⟨((a : Nat) : Int), ((b : Nat) : Int)⟩
theorem set9_mem (t : S67) (h : goodT t = true) : t ∈ set9 := by
  rw [goodT_iff] at h
  unfold set9
  rw [List.mem_flatMap]
  refine ⟨t.f0.toNat, by simp; omega, ?_⟩
  rw [List.mem_map]
  refine ⟨t.f1.toNat, by simp; omega, ?_⟩
  rw [tile_ext]; simp only; omega
theorem set9_length : set9.length = 55 := by decide
theorem nodup_le : ∀ (l s : List S67), l.Nodup → (∀ x ∈ l, x ∈ s) → l.length ≤ s.length
  | [], s, _, _ => by simp
  | x :: l, s, hn, hs => by
    rw [List.nodup_cons] at hn
    have hx : x ∈ s := hs x (by simp)
    have := nodup_le l (s.erase x) hn.2 (fun y hy => by
      rw [List.mem_erase_of_ne (by rintro rfl; exact hn.1 hy)]
      exact hs y (by simp [hy]))
    rw [List.length_erase_of_mem hx] at this
    have : 0 < s.length := List.length_pos_of_mem hx
    simp only [List.length_cons]
    omega
theorem tilesT_good : ∀ l : List Int, inB l = true → ∀ x ∈ tilesT l, goodT x = true
  | [], _ => by simp [tilesT]
  | [_], _ => by simp [tilesT]
  | a :: b :: r, h => by
    rw [inB_iff] at h
    intro x hx
    rw [tilesT, List.mem_cons] at hx
    rcases hx with rfl | hx
    · exact mkT_good a b (h a (by simp)) (h b (by simp))
    · exact tilesT_good (b :: r) ((inB_iff _).2 fun n hn => h n (by simp at hn ⊢; right; exact hn)) x hx
/-- A chain, as the document has it. -/
def chainB (l : List Int) : Bool := decide (0 < l.length) && (inB l && decide (tilesT l).Nodup)
theorem chainB_len {l : List Int} (h : chainB l = true) : 0 < l.length ∧ l.length ≤ 56 := by
  unfold chainB at h
  simp only [Bool.and_eq_true, decide_eq_true_eq] at h
  have h2 := nodup_le (tilesT l) set9 h.2.2 (fun x hx => set9_mem x (tilesT_good l h.2.1 x hx))
  rw [set9_length, tilesT_length] at h2
  exact ⟨h.1, by omega⟩
theorem chainB_in {l : List Int} (h : chainB l = true) : ∀ n ∈ l, 0 ≤ n ∧ n ≤ 9 := by
  unfold chainB at h
  simp only [Bool.and_eq_true, decide_eq_true_eq] at h
  exact (inB_iff l).1 h.2.1
theorem chainB_nodup {l : List Int} (h : chainB l = true) : (tilesT l).Nodup := by
  unfold chainB at h
  simp only [Bool.and_eq_true, decide_eq_true_eq] at h
  exact h.2.2
theorem handB_tiles {l : List Int} (h0 : 0 < l.length) (hi : inB l = true) (hl : l.length ≤ 56) : handB (tilesT l) = chainB l := by
  unfold handB chainB
  have hg : (tilesT l).all goodT = true := List.all_eq_true.2 (tilesT_good l hi)
  rw [hg, hi, decide_eq_true h0, decide_eq_true (by rw [tilesT_length]; omega)]
theorem haGood_ev (l : List Int) (hl : l.length ≤ 1000000000) : Ev (fun k => spec_haGood.f k l) (chainB l) := by
  unfold spec_haGood.f
  have hin : spec_l1In.f (l.length : Int) 1 56 = some (decide (1 ≤ l.length) && decide (l.length ≤ 56)) := by
    unfold spec_l1In.f
    by_cases h : (l.length : Int) ≥ 1
    · rw [if_pos h, decide_eq_true (p := 1 ≤ l.length) (by omega), Bool.true_and]; congr 1; rw [decide_eq_decide]; omega
    · rw [if_neg h, decide_eq_false (p := 1 ≤ l.length) (by omega), Bool.false_and]
  cases c : (decide (1 ≤ l.length) && decide (l.length ≤ 56)) with
  | false =>
    rw [c] at hin
    have hf : chainB l = false := by
      cases hc : chainB l with
      | false => rfl
      | true => have := chainB_len hc; simp at c; omega
    rw [hf]
    exact ev_const (fun k => by rw [hin, Option.bind_some, if_neg (by decide)])
  | true =>
    rw [c] at hin
    simp only [Bool.and_eq_true, decide_eq_true_eq] at c
    refine Ev.congr (fun k => by rw [hin, Option.bind_some, if_pos rfl]) (Ev.bind (l1All_ev l hl) ?_)
    cases hi : inB l with
    | false =>
      rw [show chainB l = false by unfold chainB; rw [hi]; simp]
      exact ev_const (fun k => by rw [if_neg (by decide)])
    | true =>
      refine Ev.congr (fun k => by rw [if_pos rfl]) (Ev.bind (haTiles_ev l hl) ?_)
      have := tiHand_ev (tilesT l)
      rw [handB_tiles (by omega) hi c.2] at this
      exact Ev.bind this (Ev.now _)
theorem IsChain_ev (l : List Int) (hl : l.length ≤ 1000000000) : Ev (fun k => impl_IsChain.f k l) (chainB l) := by
  unfold impl_IsChain.f
  by_cases h0 : (l.length : Int) > 0
  · refine Ev.congr (fun k => by rw [if_pos h0]) ?_
    have ha : impl_areWithin.f l 0 9 = some (inB l) := rfl
    cases hi : inB l with
    | false =>
      rw [hi] at ha
      rw [show chainB l = false by unfold chainB; rw [hi]; simp]
      exact ev_const (fun k => by rw [ha, Option.bind_some, if_neg (by decide)])
    | true =>
      rw [hi] at ha
      refine Ev.congr (fun k => by rw [ha, Option.bind_some, if_pos rfl]) (Ev.bind (tilesOf_ev l hl) ?_)
      have := different_ev (tilesT l) (by rw [tilesT_length]; omega)
      rw [show chainB l = decide (tilesT l).Nodup by unfold chainB; rw [hi, decide_eq_true (by omega)]; simp]
      exact Ev.bind this (Ev.now _)
  · rw [show chainB l = false by unfold chainB; rw [decide_eq_false (by omega)]; simp]
    exact ev_const (fun k => by rw [if_neg h0])
theorem rd_zero (l : List Int) (h : 0 < l.length) : rd l 0 = l[0] := by
  have := rd_nat l 0 l[0] (List.getElem?_eq_getElem h)
  simpa using this
theorem rd_last (l : List Int) (h : 0 < l.length) (hl : l.length ≤ 1000000000) : wrap64 ((l.length : Int) - 1) = ((l.length - 1 : Nat) : Int) ∧ rd l ((l.length - 1 : Nat) : Int) = l[l.length - 1] := by
  refine ⟨by rw [wrap_eq (by omega) (by omega)]; omega, ?_⟩
  exact rd_nat l _ _ (List.getElem?_eq_getElem (by omega))

end Go.Proofs.Ytdpimdaofikmjaa.Q
