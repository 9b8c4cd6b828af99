/- Plain lists and numbers: what the program's functions and the reference's compute. -/
import Derived.Test.YtdpimdaofikmjaaP0
import Derived.Test.YtdpimdaofikmjaaPIb
import Derived.Test.YtdpimdaofikmjaaPIg
import Derived.Test.YtdpimdaofikmjaaQPick
import Derived.Test.YtdpimdaofikmjaaQSetN
import Derived.Test.YtdpimdaofikmjaaQSorted
namespace Go.Proofs.Ytdpimdaofikmjaa.Q
open Go.RowKit Go.Proofs.Ytdpimdaofikmjaa.P Go.Proofs.YtdpimdaofikmjaaW.PrintWords Go.Proofs.YtdpimdaofikmjaaW.PrintLast Go.Proofs.YtdpimdaofikmjaaW.PrintMore
set_option linter.unusedVariables false
set_option linter.unusedSimpArgs false

theorem setN_good (n : Nat) (h : n < 10) : ∀ x ∈ setN n, goodT x = true := by
  have H : ∀ m : Fin 10, (setN m.val).all goodT = true := by decide +kernel
  exact List.all_eq_true.1 (H ⟨n, h⟩)
theorem setN_sorted (n : Nat) (h : n < 10) : (setN n).Pairwise fun a b => leT a b = true ∧ a ≠ b := by
  have H : ∀ m : Fin 10, ((setN m.val).map pairT).Pairwise (fun a b => a.1 < b.1 ∨ (a.1 = b.1 ∧ a.2 < b.2)) := by decide +kernel
  have H := H ⟨n, h⟩
  rw [List.pairwise_map] at H
  refine H.imp ?_
  intro a b h
  simp only [pairT] at h
  refine ⟨by rw [leT_iff]; omega, fun e => ?_⟩
  subst e
  omega
theorem setN_nodup (n : Nat) (h : n < 10) : (setN n).Nodup := (setN_sorted n h).imp fun h => h.2
/-- A sorted list of different tiles is its own sorting. -/
theorem sortN_self {l : List S67} (h : ∀ x ∈ l, goodT x = true) (hs : l.Pairwise fun a b => leT a b = true) (hn : l.Nodup) : sortN l = l := by
  refine List.Perm.eq_of_pairwise (le := fun a b => leT a b = true) (fun a b _ _ => leT_anti a b) (sortN_sorted l) hs ?_
  rw [List.perm_ext_iff_of_nodup (sortN_nodup l) hn]
  exact mem_sortN h
theorem sortN_filter (l : List S67) (p : S67 → Bool) : sortN ((sortN l).filter p) = (sortN l).filter p :=
  sortN_self (fun x hx => sortN_good l x (List.mem_filter.1 hx).1) ((sortN_sorted l).sublist List.filter_sublist) ((sortN_nodup l).sublist List.filter_sublist)
theorem sortN_setN (n : Nat) (h : n < 10) : sortN (setN n) = setN n := sortN_self (setN_good n h) ((setN_sorted n h).imp fun h => h.1) (setN_nodup n h)
theorem sortN_perm {l : List S67} (h : ∀ x ∈ l, goodT x = true) (hn : l.Nodup) : (sortN l).Perm l := by
  rw [List.perm_ext_iff_of_nodup (sortN_nodup l) hn]
  exact mem_sortN h
theorem sortN_congr {a b : List S67} (h : ∀ x, x ∈ a ↔ x ∈ b) : sortN a = sortN b := by
  unfold sortN
  apply List.filter_congr
  intro x _
  by_cases c : x ∈ a
  · rw [decide_eq_true c, decide_eq_true ((h x).1 c)]
  · rw [decide_eq_false c, decide_eq_false (fun d => c ((h x).2 d))]

end Go.Proofs.Ytdpimdaofikmjaa.Q
