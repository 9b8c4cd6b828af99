/- Plain lists and numbers: what the program's functions and the reference's compute. -/
import Derived.Test.YtcomlipkmcphfaaP0
import Derived.Test.YtcomlipkmcphfaaPIf
import Derived.Test.YtcomlipkmcphfaaQBaseF
namespace Go.Proofs.Ytcomlipkmcphfaa.Q
open Go.RowKit Go.Proofs.Ytcomlipkmcphfaa.P Go.Proofs.YtcomlipkmcphfaaW.PrintWords Go.Proofs.YtcomlipkmcphfaaW.PrintLast Go.Proofs.YtcomlipkmcphfaaW.PrintMore
set_option linter.unusedVariables false
set_option linter.unusedSimpArgs false

theorem conn_touch {h : List S41} {a b : Int} (c : Conn h a b) : a = b ∨ ((∃ t ∈ h, t.f0 = a ∨ t.f1 = a) ∧ ∃ t ∈ h, t.f0 = b ∨ t.f1 = b) := by
  induction c with
  | refl => exact .inl rfl
  | fwd t _ ht ih =>
    rcases ih with e | e
    · exact .inr ⟨⟨t, ht, .inl e.symm⟩, ⟨t, ht, .inr rfl⟩⟩
    · exact .inr ⟨e.1, ⟨t, ht, .inr rfl⟩⟩
  | bwd t _ ht ih =>
    rcases ih with e | e
    · exact .inr ⟨⟨t, ht, .inr e.symm⟩, ⟨t, ht, .inl rfl⟩⟩
    · exact .inr ⟨e.1, ⟨t, ht, .inl rfl⟩⟩
theorem groups_small (l : List Int) (h : List S41) : (groupsN l (numsT h)).length ≤ 1000 ∧ ∀ g ∈ groupsN l (numsT h), g.length ≤ 1000 := by
  unfold groupsN groupsP
  constructor
  · refine Nat.le_trans (List.length_filter_le _ _) ?_
    rw [List.length_map, upI_length]; omega
  · intro g hg
    obtain ⟨a, _, rfl⟩ := List.mem_map.1 (List.mem_filter.1 hg).1
    have := numsT_len h
    exact Nat.le_trans (List.length_filter_le _ _) (by omega)

end Go.Proofs.Ytcomlipkmcphfaa.Q
