/- Plain lists and numbers: what the program's functions and the reference's compute. -/
import Derived.Test.YtepccigcdbimaaaP0
import Derived.Test.YtepccigcdbimaaaPFTakeBack
import Derived.Test.YtepccigcdbimaaaPIa
import Derived.Test.YtepccigcdbimaaaPIz
import Derived.Test.YtepccigcdbimaaaPSa
import Derived.Test.YtepccigcdbimaaaPSz
import Derived.Test.YtepccigcdbimaaaPslicesClonePlay
import Derived.Test.YtepccigcdbimaaaQScafC
import Derived.Test.YtepccigcdbimaaaQSpread
namespace Go.Proofs.Ytepccigcdbimaaa.Q
open Go.RowKit Go.Proofs.Ytepccigcdbimaaa.P Go.Proofs.YtepccigcdbimaaaW.PrintWords Go.Proofs.YtepccigcdbimaaaW.PrintLast Go.Proofs.YtepccigcdbimaaaW.PrintMore
set_option linter.unusedVariables false
set_option linter.unusedSimpArgs false

theorem spread_is (l : List S61) : (runS l S0S).isSome = (readL l).isSome := by
  rcases spread_both l with ⟨h1, h2⟩ | ⟨s, u, h1, h2, h3, h4⟩ <;> rw [h1, h2] <;> rfl
theorem TakeBack_same (l : List S61) (n : Int) : ∃ r, Ev (fun k => spec_TakeBack.f k l n) r ∧ Ev (fun k => impl_TakeBack.f k l n) r ∧ r.1.length ≤ 1048576 := by
  by_cases h : (readL l).isSome = true
  case neg =>
    have h' : (readL l).isSome = false := by simpa using h
    refine ⟨([], false), ⟨40, fun k hk => ?_⟩, ⟨40, fun k hk => ?_⟩, by simp⟩
    · dsimp only
      unfold spec_TakeBack.f spec_TakeBackR.f
      rw [if_pos hk, h', Option.bind_some, if_neg (by decide)]
    · dsimp only
      unfold impl_TakeBack.f impl_IsSpread.f
      rw [if_pos hk, spread_is, h', Option.bind_some, if_neg (by decide)]
  obtain ⟨u, hu⟩ := Option.isSome_iff_exists.1 h
  have hl := spread_long hu
  by_cases c : 0 ≤ n ∧ n ≤ l.length
  case neg =>
    have f1 : spec_l1In.f n 0 (l.length : Int) = some false := by
      unfold spec_l1In.f
      by_cases c1 : n ≥ 0
      · rw [if_pos c1, decide_eq_false (by omega)]
      · rw [if_neg c1]
    have f2 : impl_within.f n 0 (l.length : Int) = some false := by
      unfold impl_within.f
      by_cases c1 : 0 ≤ n
      · rw [if_pos c1, decide_eq_false (by omega)]
      · rw [if_neg c1]
    refine ⟨([], false), ⟨40, fun k hk => ?_⟩, ⟨40, fun k hk => ?_⟩, by simp⟩
    · dsimp only
      unfold spec_TakeBack.f spec_TakeBackR.f
      rw [if_pos hk, h, Option.bind_some, if_pos rfl, f1, Option.bind_some, if_neg (by decide)]
    · dsimp only
      unfold impl_TakeBack.f impl_IsSpread.f
      rw [if_pos hk, spread_is, h, Option.bind_some, if_pos rfl, f2, Option.bind_some, if_neg (by decide)]
  have f1 : spec_l1In.f n 0 (l.length : Int) = some true := by
    unfold spec_l1In.f
    rw [if_pos c.1, decide_eq_true c.2]
  have f2 : impl_within.f n 0 (l.length : Int) = some true := by
    unfold impl_within.f
    rw [if_pos c.1, decide_eq_true c.2]
  have hw : wrap64 ((l.length : Int) - n) = (l.length : Int) - n := wrap_eq (by omega) (by omega)
  have ht : (l.take ((l.length : Int) - n).toNat).length ≤ 28 := by rw [List.length_take]; omega
  refine ⟨(l.take ((l.length : Int) - n).toNat, true), ⟨40, fun k hk => ?_⟩, ⟨40, fun k hk => ?_⟩, by show (l.take _).length ≤ _; omega⟩
  · dsimp only
    unfold spec_TakeBack.f spec_TakeBackR.f
    rw [if_pos hk, h, Option.bind_some, if_pos rfl, f1, Option.bind_some, if_pos rfl, Option.bind_some, hw, if_pos (by omega), if_pos (by omega), Option.bind_some, if_pos (by simp only [List.length_nil]; omega), List.nil_append]
  · dsimp only
    unfold impl_TakeBack.f impl_IsSpread.f
    rw [if_pos hk, spread_is, h, Option.bind_some, if_pos rfl, f2, Option.bind_some, if_pos rfl, hw, if_pos (by omega), if_pos (by omega)]
    unfold slices_Clone_Play.f
    rw [if_pos (by omega), Option.bind_some]

end Go.Proofs.Ytepccigcdbimaaa.Q
