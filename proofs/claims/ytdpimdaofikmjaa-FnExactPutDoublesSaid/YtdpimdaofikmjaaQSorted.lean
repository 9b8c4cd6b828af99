/- Plain lists and numbers: what the program's functions and the reference's compute. -/
import Derived.Test.YtdpimdaofikmjaaP0
import Derived.Test.YtdpimdaofikmjaaPIb
import Derived.Test.YtdpimdaofikmjaaPIg
import Derived.Test.YtdpimdaofikmjaaQHand
import Derived.Test.YtdpimdaofikmjaaQPick
import Derived.Test.YtdpimdaofikmjaaQSetN
namespace Go.Proofs.Ytdpimdaofikmjaa.Q
open Go.RowKit Go.Proofs.Ytdpimdaofikmjaa.P Go.Proofs.YtdpimdaofikmjaaW.PrintWords Go.Proofs.YtdpimdaofikmjaaW.PrintLast Go.Proofs.YtdpimdaofikmjaaW.PrintMore
set_option linter.unusedVariables false
set_option linter.unusedSimpArgs false

theorem mem_setN9 (t : S67) : t ∈ setN 9 ↔ goodT t = true := by
  rw [goodT_iff]
  unfold setN
  simp only [List.mem_flatMap, List.mem_map, List.mem_filter, List.mem_range, decide_eq_true_eq]
  constructor
  · rintro ⟨a, ha, b, ⟨hb, hab⟩, rfl⟩
    refine ⟨?_, ?_, ?_⟩ <;> simp only <;> omega
  · rintro ⟨h1, h2, h3⟩
    refine ⟨t.f0.toNat, by omega, t.f1.toNat, ⟨by omega, by omega⟩, ?_⟩
    rw [tile_ext]
    simp only
    omega
theorem setN9_sorted : (setN 9).Pairwise fun a b => leT a b = true ∧ a ≠ b := by
  have H : ((setN 9).map pairT).Pairwise (fun a b => a.1 < b.1 ∨ (a.1 = b.1 ∧ a.2 < b.2)) := by decide +kernel
  rw [List.pairwise_map] at H
  refine H.imp ?_
  intro a b h
  simp only [pairT] at h
  refine ⟨by rw [leT_iff]; omega, fun e => ?_⟩
  subst e
  omega
theorem sortN_sorted (l : List S67) : (sortN l).Pairwise fun a b => leT a b = true := (setN9_sorted.imp fun h => h.1).sublist List.filter_sublist
theorem sortN_nodup (l : List S67) : (sortN l).Nodup := (setN9_sorted.imp fun h => h.2).sublist List.filter_sublist
theorem mem_sortN {l : List S67} (h : ∀ x ∈ l, goodT x = true) (t : S67) : t ∈ sortN l ↔ t ∈ l := by
  unfold sortN
  rw [List.mem_filter, mem_setN9]
  simp only [beq_iff_eq, decide_eq_true_eq]
  exact ⟨fun h => h.2, fun ht => ⟨h t ht, ht⟩⟩
theorem mergeSort_eq {l : List S67} (h : ∀ x ∈ l, goodT x = true) (hn : l.Nodup) : l.mergeSort leT = sortN l := by
  refine List.Perm.eq_of_pairwise (le := fun a b => leT a b = true) (fun a b _ _ => leT_anti a b) (List.pairwise_mergeSort leT_trans leT_total l) (sortN_sorted l) ?_
  refine (List.mergeSort_perm l leT).trans ?_
  rw [List.perm_ext_iff_of_nodup hn (sortN_nodup l)]
  intro t
  exact (mem_sortN h t).symm
theorem good_in {x : S67} (h : goodT x = true) : inT x := by
  rw [goodT_iff] at h
  unfold inT
  omega
theorem sorted_some {l : List S67} (h : ∀ x ∈ l, goodT x = true) (hn : l.Nodup) (hl : l.length ≤ 1000000000) : impl_sorted.f l = some (sortN l) := by
  unfold impl_sorted.f
  rw [if_pos ⟨by omega, fun x hx => good_in (h x hx)⟩, mergeSort_eq h hn]
theorem sortN_good (l : List S67) : ∀ x ∈ sortN l, goodT x = true := by
  intro x hx
  exact (mem_setN9 x).1 (List.mem_filter.1 hx).1

end Go.Proofs.Ytdpimdaofikmjaa.Q
