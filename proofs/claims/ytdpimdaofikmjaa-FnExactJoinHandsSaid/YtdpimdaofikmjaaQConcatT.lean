/- Plain lists and numbers: what the program's functions and the reference's compute. -/
import Derived.Test.YtdpimdaofikmjaaP0
import Derived.Test.YtdpimdaofikmjaaPIh
import Derived.Test.YtdpimdaofikmjaaQScaf
namespace Go.Proofs.Ytdpimdaofikmjaa.Q
open Go.RowKit Go.Proofs.Ytdpimdaofikmjaa.P Go.Proofs.YtdpimdaofikmjaaW.PrintWords Go.Proofs.YtdpimdaofikmjaaW.PrintLast Go.Proofs.YtdpimdaofikmjaaW.PrintMore
set_option linter.unusedVariables false
set_option linter.unusedSimpArgs false

theorem rdL_atT (pre : List (List S67)) (x : List S67) (suf : List (List S67)) : rd_L3 (pre ++ x :: suf) (pre.length : Int) = x := by
  show (pre ++ x :: suf).getD (pre.length : Int).toNat _ = x
  rw [Int.toNat_natCast, List.getD_eq_getElem?_getD]; simp
theorem Grow_someT (n : Nat) (h : n ≤ 1000000000) : slices_Grow_Tile.f (n : Int) = some [] := by
  unfold slices_Grow_Tile.f
  rw [if_pos (by omega), if_pos (by omega)]
def lensT (l : List (List S67)) : Nat := (l.map List.length).sum
theorem lens_consT (x : List S67) (l : List (List S67)) : lensT (x :: l) = x.length + lensT l := by simp [lensT]
theorem concat1_loopT : ∀ (suf pre : List (List S67)) (acc : List S67), (pre ++ suf).length ≤ 1000000000 → acc.length + lensT suf ≤ 1000000000 → Ev (fun k => slices_Concat_Tile.l1 k acc (pre ++ suf) ((pre ++ suf).length : Int) (pre.length : Int)) (acc ++ suf.flatten) := by
  intro suf
  induction suf with
  | nil =>
    intro pre acc hl ha
    refine ⟨1, fun k hk => ?_⟩
    obtain ⟨k, rfl⟩ : ∃ m, k = m + 1 := ⟨k - 1, by omega⟩
    simp only [slices_Concat_Tile.l1]
    rw [if_neg (by simp)]
    simp
  | cons x suf ih =>
    intro pre acc hl ha
    rw [lens_consT] at ha
    have hlen : (pre ++ x :: suf).length = pre.length + suf.length + 1 := by simp; omega
    have h1 : (pre.length : Int) < ((pre ++ x :: suf).length : Int) := by omega
    have := ih (pre ++ [x]) (acc ++ x) (by simpa using hl) (by simp; omega)
    rw [List.append_assoc, show ((pre ++ [x]).length : Int) = ((pre.length + 1 : Nat) : Int) by simp, List.append_assoc] at this
    refine Ev.step (fun k => ?_) this
    simp only [slices_Concat_Tile.l1]
    rw [if_pos h1, if_pos (by omega), if_pos h1, rdL_atT, if_pos (by omega), wrap_succ (by omega)]
    rfl
theorem concat0_loopT (l : List (List S67)) (hll : lensT l ≤ 1000000000) : ∀ (suf pre : List (List S67)) (acc : Nat), l = pre ++ suf → l.length ≤ 1000000000 → acc + lensT suf ≤ 1000000000 → Ev (fun k => slices_Concat_Tile.l0 k l (acc : Int) l (l.length : Int) (pre.length : Int)) l.flatten := by
  intro suf
  induction suf with
  | nil =>
    intro pre acc he hl ha
    have := concat1_loopT l [] [] (by simpa using hl) (by simpa using hll)
    rw [List.nil_append, List.nil_append] at this
    refine Ev.step (fun k => ?_) this
    simp only [slices_Concat_Tile.l0]
    rw [if_neg (by rw [he]; simp), Grow_someT _ (by omega)]
    rfl
  | cons x suf ih =>
    intro pre acc he hl ha
    rw [lens_consT] at ha
    have hlen : l.length = pre.length + suf.length + 1 := by rw [he]; simp; omega
    have h1 : (pre.length : Int) < (l.length : Int) := by omega
    have := ih (pre ++ [x]) (acc + x.length) (by rw [he]; simp) hl (by omega)
    rw [show ((pre ++ [x]).length : Int) = ((pre.length + 1 : Nat) : Int) by simp] at this
    have r1 : rd_L3 l (pre.length : Int) = x := by rw [he]; exact rdL_atT _ _ _
    have w1 : wrap64 ((acc : Int) + (x.length : Int)) = ((acc + x.length : Nat) : Int) := by rw [wrap_eq (by omega) (by omega)]; omega
    refine Ev.step (fun k => ?_) this
    simp only [slices_Concat_Tile.l0]
    rw [if_pos h1, if_pos (by omega), if_pos h1, r1, w1, if_neg (by omega), wrap_succ (by omega)]
theorem concat_evT (l : List (List S67)) (hl : l.length ≤ 1000000000) (hll : lensT l ≤ 1000000000) : Ev (fun k => slices_Concat_Tile.f k l) l.flatten :=
  concat0_loopT l hll l [] 0 rfl hl (by omega)
theorem concat2_evT (a b : List S67) (h : a.length + b.length ≤ 1000000000) : Ev (fun k => slices_Concat_Tile.f k [a, b]) (a ++ b) := by
  have := concat_evT [a, b] (by simp) (by simp [lensT]; omega)
  simpa using this

end Go.Proofs.Ytdpimdaofikmjaa.Q
