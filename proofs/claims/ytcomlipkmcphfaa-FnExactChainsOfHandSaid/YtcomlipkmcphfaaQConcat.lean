/- Plain lists and numbers: what the program's functions and the reference's compute. -/
import Derived.Test.YtcomlipkmcphfaaP0
import Derived.Test.YtcomlipkmcphfaaPIw
import Derived.Test.YtcomlipkmcphfaaQBaseF
namespace Go.Proofs.Ytcomlipkmcphfaa.Q
open Go.RowKit Go.Proofs.Ytcomlipkmcphfaa.P Go.Proofs.YtcomlipkmcphfaaW.PrintWords Go.Proofs.YtcomlipkmcphfaaW.PrintLast Go.Proofs.YtcomlipkmcphfaaW.PrintMore
set_option linter.unusedVariables false
set_option linter.unusedSimpArgs false

theorem rdL_at (pre : List (List Int)) (x : List Int) (suf : List (List Int)) : rd_L5 (pre ++ x :: suf) (pre.length : Int) = x := by
  show (pre ++ x :: suf).getD (pre.length : Int).toNat _ = x
  rw [Int.toNat_natCast, List.getD_eq_getElem?_getD]; simp
theorem Grow_some (n : Nat) (h : n ≤ 1000000000) : slices_Grow_int.f (n : Int) = some [] := by
  unfold slices_Grow_int.f
  rw [if_pos (by omega), if_pos (by omega)]
def lens (l : List (List Int)) : Nat := (l.map List.length).sum
theorem lens_cons (x : List Int) (l : List (List Int)) : lens (x :: l) = x.length + lens l := by simp [lens]
theorem concat1_loop : ∀ (suf pre : List (List Int)) (acc : List Int), (pre ++ suf).length ≤ 1000000000 → acc.length + lens suf ≤ 1000000000 → Ev (fun k => slices_Concat_int.l1 k acc (pre ++ suf) ((pre ++ suf).length : Int) (pre.length : Int)) (acc ++ suf.flatten) := by
  intro suf
  induction suf with
  | nil =>
    intro pre acc hl ha
    refine ⟨1, fun k hk => ?_⟩
    obtain ⟨k, rfl⟩ : ∃ m, k = m + 1 := ⟨k - 1, by omega⟩
    simp only [slices_Concat_int.l1]
    rw [if_neg (by simp)]
    simp
  | cons x suf ih =>
    intro pre acc hl ha
    rw [lens_cons] at ha
    have hlen : (pre ++ x :: suf).length = pre.length + suf.length + 1 := by simp; omega
    have h1 : (pre.length : Int) < ((pre ++ x :: suf).length : Int) := by omega
    have := ih (pre ++ [x]) (acc ++ x) (by simpa using hl) (by simp; omega)
    rw [List.append_assoc, show ((pre ++ [x]).length : Int) = ((pre.length + 1 : Nat) : Int) by simp, List.append_assoc] at this
    refine Ev.step (fun k => ?_) this
    simp only [slices_Concat_int.l1]
    rw [if_pos h1, if_pos (by omega), if_pos h1, rdL_at, if_pos (by omega), wrap_succ (by omega)]
    rfl
theorem concat0_loop (l : List (List Int)) (hll : lens l ≤ 1000000000) : ∀ (suf pre : List (List Int)) (acc : Nat), l = pre ++ suf → l.length ≤ 1000000000 → acc + lens suf ≤ 1000000000 → Ev (fun k => slices_Concat_int.l0 k l (acc : Int) l (l.length : Int) (pre.length : Int)) l.flatten := by
  intro suf
  induction suf with
  | nil =>
    intro pre acc he hl ha
    have := concat1_loop l [] [] (by simpa using hl) (by simpa using hll)
    rw [List.nil_append, List.nil_append] at this
    refine Ev.step (fun k => ?_) this
    simp only [slices_Concat_int.l0]
    rw [if_neg (by rw [he]; simp), Grow_some _ (by omega)]
    rfl
  | cons x suf ih =>
    intro pre acc he hl ha
    rw [lens_cons] at ha
    have hlen : l.length = pre.length + suf.length + 1 := by rw [he]; simp; omega
    have h1 : (pre.length : Int) < (l.length : Int) := by omega
    have := ih (pre ++ [x]) (acc + x.length) (by rw [he]; simp) hl (by omega)
    rw [show ((pre ++ [x]).length : Int) = ((pre.length + 1 : Nat) : Int) by simp] at this
    have r1 : rd_L5 l (pre.length : Int) = x := by rw [he]; exact rdL_at _ _ _
    have w1 : wrap64 ((acc : Int) + (x.length : Int)) = ((acc + x.length : Nat) : Int) := by rw [wrap_eq (by omega) (by omega)]; omega
    refine Ev.step (fun k => ?_) this
    simp only [slices_Concat_int.l0]
    rw [if_pos h1, if_pos (by omega), if_pos h1, r1, w1, if_neg (by omega), wrap_succ (by omega)]
theorem concat_ev (l : List (List Int)) (hl : l.length ≤ 1000000000) (hll : lens l ≤ 1000000000) : Ev (fun k => slices_Concat_int.f k l) l.flatten :=
  concat0_loop l hll l [] 0 rfl hl (by omega)
theorem concat2_ev (a b : List Int) (h : a.length + b.length ≤ 1000000000) : Ev (fun k => slices_Concat_int.f k [a, b]) (a ++ b) := by
  have := concat_ev [a, b] (by simp) (by simp [lens]; omega)
  simpa using this

end Go.Proofs.Ytcomlipkmcphfaa.Q
