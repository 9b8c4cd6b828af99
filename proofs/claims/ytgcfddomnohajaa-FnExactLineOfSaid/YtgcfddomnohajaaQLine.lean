/- Plain lists and numbers: what the program's functions and the reference's compute. -/
import Derived.Test.YtgcfddomnohajaaP0
import Derived.Test.YtgcfddomnohajaaPFLineOf
import Derived.Test.YtgcfddomnohajaaPIa
import Derived.Test.YtgcfddomnohajaaPIc
import Derived.Test.YtgcfddomnohajaaQChain
import Derived.Test.YtgcfddomnohajaaQScaf
import Derived.Test.YtgcfddomnohajaaQTimes
namespace Go.Proofs.Ytgcfddomnohajaa.Q
open Go.RowKit Go.Proofs.Ytgcfddomnohajaa.P Go.Proofs.YtgcfddomnohajaaW.PrintWords Go.Proofs.YtgcfddomnohajaaW.PrintLast Go.Proofs.YtgcfddomnohajaaW.PrintMore
set_option linter.unusedVariables false
set_option linter.unusedSimpArgs false

/-- The plays of tiles at one arm. -/
def playsT (l : List S60) (arm : Int) : List S90 := l.map fun t => ⟨t, arm⟩
theorem specLine_loop (arm : Int) : ∀ (suf pre : List Int) (a : Int) (acc : List S90), (pre ++ a :: suf).length ≤ 1000 → acc.length ≤ pre.length → Ev (fun k => spec_LineOf.l0 k (pre ++ a :: suf) arm acc ((pre.length + 1 : Nat) : Int)) (acc ++ playsT (tilesT (a :: suf)) arm, true) := by
  intro suf
  induction suf with
  | nil =>
    intro pre a acc hl ha
    refine ⟨1, fun k hk => ?_⟩
    obtain ⟨k, rfl⟩ : ∃ m, k = m + 1 := ⟨k - 1, by omega⟩
    simp only [spec_LineOf.l0]
    rw [if_neg (by simp)]
    simp [tilesT, playsT]
  | cons b suf ih =>
    intro pre a acc hl ha
    have hlen : (pre ++ a :: b :: suf).length = pre.length + suf.length + 2 := by simp; omega
    have := ih (pre ++ [a]) b (acc ++ [⟨mkT a b, arm⟩]) (by simpa using hl) (by simp; omega)
    rw [List.append_assoc, List.append_assoc] at this
    have e0 : (((pre ++ [a]).length + 1 : Nat) : Int) = ((pre.length + 1 + 1 : Nat) : Int) := by simp
    rw [e0] at this
    have w1 : wrap64 (((pre.length + 1 : Nat) : Int) - 1) = (pre.length : Int) := by rw [wrap_eq (by omega) (by omega)]; omega
    have r2 : rd (pre ++ a :: b :: suf) ((pre.length + 1 : Nat) : Int) = b := rd_nat _ _ _ (by simp)
    refine Ev.step (fun k => ?_) this
    simp only [spec_LineOf.l0]
    rw [if_pos (by omega), w1, if_pos (by omega), if_pos (by omega), if_pos (by omega), rd_at, r2, tiOf_some, Option.bind_some, if_pos (by omega), wrap_succ (by omega)]
    rfl
theorem implLine_loop (arm : Int) (ha : 0 ≤ arm ∧ arm ≤ 1) : ∀ (suf pre : List S60) (acc : List S90), 0 < pre.length → (pre ++ suf).length ≤ 1000 → acc.length ≤ pre.length → Ev (fun k => impl_LineOf.l0 k arm acc (pre ++ suf) ((pre ++ suf).length : Int) (pre.length : Int)) (acc ++ playsT suf arm, true) := by
  intro suf
  induction suf with
  | nil =>
    intro pre acc hp hl hacc
    refine ⟨1, fun k hk => ?_⟩
    obtain ⟨k, rfl⟩ : ∃ m, k = m + 1 := ⟨k - 1, by omega⟩
    simp only [impl_LineOf.l0]
    rw [if_neg (by simp)]
    simp [playsT]
  | cons x suf ih =>
    intro pre acc hp hl hacc
    have hlen : (pre ++ x :: suf).length = pre.length + suf.length + 1 := by simp; omega
    have h1 : (pre.length : Int) < ((pre ++ x :: suf).length : Int) := by omega
    have := ih (pre ++ [x]) (acc ++ [⟨x, arm⟩]) (by simp) (by simpa using hl) (by simp; omega)
    rw [List.append_assoc, show ((pre ++ [x]).length : Int) = ((pre.length + 1 : Nat) : Int) by simp, List.append_assoc] at this
    have hb : impl_bit.f (decide ((pre.length : Int) > 0)) = some 1 := by unfold impl_bit.f; rw [decide_eq_true (by omega), if_pos rfl]
    refine Ev.step (fun k => ?_) this
    simp only [impl_LineOf.l0]
    rw [if_pos h1, if_pos (by omega), if_pos h1, hb, Option.bind_some, if_pos (by omega), rdT_mid, Int.mul_one, wrap_eq (by omega) (by omega), wrap_succ (by omega)]
    rfl
theorem LineOf_same (l : List Int) (hl : l.length ≤ 1048576) : ∃ r, Ev (fun k => spec_LineOf.f k l) r ∧ Ev (fun k => impl_LineOf.f k l) r ∧ r.1.length ≤ 1048576 := by
  have h1 := haGood_ev l (by omega)
  have h2 := IsChain_ev l (by omega)
  have sbad : Ev (fun k => spec_LineOf.j0 k l true) ([], false) := ⟨1, fun k hk => by obtain ⟨k, rfl⟩ : ∃ m, k = m + 1 := ⟨k - 1, by omega⟩; simp only [spec_LineOf.j0, ↓reduceIte]⟩
  have ibad : Ev (fun k => impl_LineOf.j0 k l true) ([], false) := ⟨1, fun k hk => by obtain ⟨k, rfl⟩ : ∃ m, k = m + 1 := ⟨k - 1, by omega⟩; simp only [impl_LineOf.j0, ↓reduceIte]⟩
  cases hc : chainB l with
  | false =>
    rw [hc] at h1 h2
    exact ⟨([], false), Ev.bind h1 (Ev.congr (fun k => by rw [if_neg (by decide)]) sbad), Ev.bind h2 (Ev.congr (fun k => by rw [if_neg (by decide)]) ibad), by simp⟩
  | true =>
    rw [hc] at h1 h2
    have hn := chainB_len hc
    have w1 : wrap64 ((l.length : Int) - 1) = (l.length : Int) - 1 := wrap_eq (by omega) (by omega)
    have hw := within_f ((l.length : Int) - 1) 1 28
    by_cases hb : 2 ≤ l.length ∧ l.length ≤ 29
    · have hwt : (decide ((1 : Int) ≤ (l.length : Int) - 1) && decide ((l.length : Int) - 1 ≤ 28)) = true := by
        rw [decide_eq_true (by omega), decide_eq_true (by omega)]; rfl
      rw [hwt] at hw
      match l, hb, hn, hl, h1, h2, w1, hw, sbad, ibad with
      | a :: b :: r, hb, hn, hl, h1, h2, w1, hw, _, _ =>
        have r0 : rd (a :: b :: r) 0 = a := rd_zero _ (by simp)
        have r1 : rd (a :: b :: r) 1 = b := rd_nat (a :: b :: r) 1 b rfl
        have hll : (a :: b :: r).length = r.length + 2 := by simp
        refine ⟨(⟨mkT a b, 0⟩ :: playsT (tilesT (b :: r)) (if b < a then 0 else 1), true), Ev.bind h1 ?_, Ev.bind h2 ?_, by simp [playsT, tilesT_length]; omega⟩
        · have hloop := specLine_loop (if b < a then 0 else 1) r [a] b [⟨mkT a b, 0⟩] (by simp; omega) (by simp)
          have hj1 : Ev (fun k => spec_LineOf.j1 k (a :: b :: r) (if b < a then 0 else 1)) (⟨mkT a b, 0⟩ :: playsT (tilesT (b :: r)) (if b < a then 0 else 1), true) := by
            refine Ev.step (fun k => ?_) hloop
            simp only [spec_LineOf.j1]
            rw [if_pos (by omega), if_pos (by omega), r0, r1, tiOf_some, Option.bind_some]
            rfl
          have hj0 : Ev (fun k => spec_LineOf.j0 k (a :: b :: r) false) (⟨mkT a b, 0⟩ :: playsT (tilesT (b :: r)) (if b < a then 0 else 1), true) := by
            refine Ev.step (fun k => ?_) hj1
            simp only [spec_LineOf.j0, Bool.false_eq_true, ↓reduceIte]
            rw [if_pos (by omega), if_pos (by omega), r0, r1]
            by_cases hba : b < a
            · rw [if_pos hba, if_pos hba]
            · rw [if_neg hba, if_neg hba]
          refine Ev.congr (fun k => ?_) hj0
          rw [if_pos rfl, if_neg (by omega), w1, decide_eq_false (by omega)]
        · have ha1 : (0 : Int) ≤ (if b < a then 0 else 1) ∧ (if b < a then (0 : Int) else 1) ≤ 1 := by split <;> omega
          have hloop := implLine_loop (if b < a then 0 else 1) ha1 (tilesT (b :: r)) [mkT a b] [⟨mkT a b, 0⟩] (by simp) (by simp [tilesT_length]; omega) (by simp)
          have hbit : impl_bit.f (decide (b ≥ a)) = some (if b < a then 0 else 1) := by
            unfold impl_bit.f
            by_cases hba : b < a
            · rw [decide_eq_false (by omega), if_neg (by decide), if_pos hba]
            · rw [decide_eq_true (by omega), if_pos rfl, if_neg hba]
          have hl0 : Ev (fun k => impl_LineOf.l0 k (if b < a then 0 else 1) [] (tilesT (a :: b :: r)) ((tilesT (a :: b :: r)).length : Int) 0) (⟨mkT a b, 0⟩ :: playsT (tilesT (b :: r)) (if b < a then 0 else 1), true) := by
            have hb0 : impl_bit.f (decide ((0 : Int) > 0)) = some 0 := rfl
            have ht : tilesT (a :: b :: r) = [] ++ mkT a b :: tilesT (b :: r) := rfl
            have hpos : (0 : Int) < ((tilesT (a :: b :: r)).length : Int) := by rw [tilesT_length]; simp
            refine Ev.step (fun k => ?_) hloop
            simp only [impl_LineOf.l0]
            rw [if_pos hpos, if_pos (by omega), if_pos hpos, hb0, Option.bind_some, if_pos (by simp)]
            have rt : rd_T60 (tilesT (a :: b :: r)) 0 = mkT a b := rdT_nat _ 0 _ rfl
            rw [rt, Int.mul_zero, show wrap64 0 = 0 from wrap_eq (by omega) (by omega), show wrap64 (0 + 1) = 1 from wrap_eq (by omega) (by omega)]
            rfl
          have hj0 : Ev (fun k => impl_LineOf.j0 k (a :: b :: r) false) (⟨mkT a b, 0⟩ :: playsT (tilesT (b :: r)) (if b < a then 0 else 1), true) := by
            refine Ev.step (f := fun k => (impl_tilesOf.f k (a :: b :: r)).bind fun t => impl_LineOf.l0 k (if b < a then 0 else 1) [] t (t.length : Int) 0) (fun k => ?_) (Ev.bind (tilesOf_ev _ (by omega)) hl0)
            simp only [impl_LineOf.j0, Bool.false_eq_true, ↓reduceIte]
            rw [if_pos (by omega), if_pos (by omega), r0, r1, hbit, Option.bind_some]
          refine Ev.congr (fun k => ?_) hj0
          rw [if_pos rfl, w1, hw, Option.bind_some]
          rfl
    · have hwt : (decide ((1 : Int) ≤ (l.length : Int) - 1) && decide ((l.length : Int) - 1 ≤ 28)) = false := by
        rw [Bool.and_eq_false_iff, decide_eq_false_iff_not, decide_eq_false_iff_not]; omega
      rw [hwt] at hw
      refine ⟨([], false), Ev.bind h1 ?_, Ev.bind h2 (Ev.congr (fun k => by rw [if_pos rfl, w1, hw, Option.bind_some]; rfl) ibad), by simp⟩
      refine Ev.congr (fun k => ?_) sbad
      rw [if_pos rfl]
      by_cases h2' : (l.length : Int) < 2
      · rw [if_pos h2']
      · rw [if_neg h2', w1, decide_eq_true (by omega)]

end Go.Proofs.Ytgcfddomnohajaa.Q
