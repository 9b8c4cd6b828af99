/- Plain lists and numbers: what the program's functions and the reference's compute. -/
import Derived.Test.YtepccigcdbimaaaP0
import Derived.Test.YtepccigcdbimaaaPFAddPlay
import Derived.Test.YtepccigcdbimaaaPIz
import Derived.Test.YtepccigcdbimaaaPSz
import Derived.Test.YtepccigcdbimaaaPslicesClonePlay
import Derived.Test.YtepccigcdbimaaaPspeclyStateadd
import Derived.Test.YtepccigcdbimaaaQSpread
namespace Go.Proofs.Ytepccigcdbimaaa.Q
open Go.RowKit Go.Proofs.Ytepccigcdbimaaa.P Go.Proofs.YtepccigcdbimaaaW.PrintWords Go.Proofs.YtepccigcdbimaaaW.PrintLast Go.Proofs.YtepccigcdbimaaaW.PrintMore
set_option linter.unusedVariables false
set_option linter.unusedSimpArgs false

theorem AddPlay_same (l : List S61) (a b c : Int) (hbig : l.length ≤ 1048576) : ∃ r, Ev (fun k => spec_AddPlay.f k l a b c) r ∧ Ev (fun k => impl_AddPlay.f k l a b c) r ∧ r.1.length ≤ 1048576 := by
  have hm := spread_more l ⟨⟨a, b⟩, c⟩
  have hcl : slices_Clone_Play.f l = some l := by unfold slices_Clone_Play.f; rw [if_pos (by omega)]
  have himpl : ∀ k, 40 ≤ k → impl_AddPlay.f k l a b c = if (runS (l ++ [⟨⟨a, b⟩, c⟩]) S0S).isSome = true then some (l ++ [⟨⟨a, b⟩, c⟩], true) else some ([], false) := by
    intro k hk
    unfold impl_AddPlay.f
    rw [hcl, Option.bind_some, Option.bind_some, if_pos (by simp only [List.length_singleton]; omega), Option.bind_some]
    unfold impl_IsSpread.f
    rw [if_pos hk, Option.bind_some]
  by_cases h : ((readL l).bind fun u => addL u ⟨a, b⟩ c).isSome = true
  · obtain ⟨u', hu'⟩ := Option.isSome_iff_exists.1 h
    obtain ⟨u, hu, -⟩ := Option.bind_eq_some_iff.1 hu'
    have hl := spread_long hu
    refine ⟨(l ++ [⟨⟨a, b⟩, c⟩], true), ⟨40, fun k hk => ?_⟩, ⟨40, fun k hk => ?_⟩, by show (l ++ [_]).length ≤ _; rw [List.length_append, List.length_singleton]; omega⟩
    · dsimp only
      unfold spec_AddPlay.f spec_AddPlayR.f
      rw [if_pos hk, Option.bind_some, hu, if_pos (show (some u).isSome = true from rfl)]
      unfold spec_AddPlayA.f
      rw [if_pos hk, h, Option.bind_some, if_pos rfl, Option.bind_some, if_pos (by simp only [List.length_nil]; omega), Option.bind_some, Option.bind_some, if_pos (by simp only [List.nil_append, List.length_singleton]; omega), List.nil_append]
    · show impl_AddPlay.f k l a b c = _
      rw [himpl k hk, hm, if_pos h]
  · refine ⟨([], false), ⟨40, fun k hk => ?_⟩, ⟨40, fun k hk => ?_⟩, by simp⟩
    · dsimp only
      unfold spec_AddPlay.f spec_AddPlayR.f
      rw [if_pos hk, Option.bind_some]
      by_cases h2 : (readL l).isSome = true
      · rw [if_pos h2]
        unfold spec_AddPlayA.f
        rw [if_pos hk, Option.bind_some, if_neg h]
      · rw [if_neg h2]
    · show impl_AddPlay.f k l a b c = _
      rw [himpl k hk, hm, if_neg h]

end Go.Proofs.Ytepccigcdbimaaa.Q
