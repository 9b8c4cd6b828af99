/- Plain lists and numbers: what the program's functions and the reference's compute. -/
import Derived.Test.YtgcfddomnohajaaP0
import Derived.Test.YtgcfddomnohajaaPIa
import Derived.Test.YtgcfddomnohajaaPIb
import Derived.Test.YtgcfddomnohajaaPLawIsHand
import Derived.Test.YtgcfddomnohajaaPLawPipsOf
import Derived.Test.YtgcfddomnohajaaPLawTimesOf
import Derived.Test.YtgcfddomnohajaaPSa
import Derived.Test.YtgcfddomnohajaaQHand
import Derived.Test.YtgcfddomnohajaaQScaf
import Derived.Test.YtgcfddomnohajaaQTimes
namespace Go.Proofs.Ytgcfddomnohajaa.Q
open Go.RowKit Go.Proofs.Ytgcfddomnohajaa.P Go.Proofs.YtgcfddomnohajaaW.PrintWords Go.Proofs.YtgcfddomnohajaaW.PrintLast Go.Proofs.YtgcfddomnohajaaW.PrintMore
set_option linter.unusedVariables false
set_option linter.unusedSimpArgs false

theorem IsHand_same (l : List S60) : ∃ r, Ev (fun k => spec_IsHand.f k l) r ∧ Ev (fun k => impl_IsHand.f k l) r :=
  ⟨handB l, Ev.bind (tiHand_ev l) (Ev.now _), IsHand_ev l⟩
theorem PipsOf_same (l : List S60) : ∃ r, Ev (fun k => spec_PipsOf.f k l) r ∧ Ev (fun k => impl_PipsOf.f k l) r := by
  have h1 := tiHand_ev l
  have h2 := IsHand_ev l
  cases h : handB l with
  | true =>
    have hl := handB_len h
    rw [h] at h1 h2
    exact ⟨(pipsT l 0, true), Ev.bind h1 (Ev.congr (fun k => by rw [if_pos rfl]) (Ev.bind (tiPips_ev l (by omega)) (Ev.now _))), Ev.bind h2 (Ev.congr (fun k => by rw [if_pos rfl]) (Ev.bind (pips_ev l (by omega)) (Ev.now _)))⟩
  | false =>
    rw [h] at h1 h2
    exact ⟨(0, false), Ev.bind h1 (ev_const (fun k => by rw [if_neg (by decide)])), Ev.bind h2 (ev_const (fun k => by rw [if_neg (by decide)]))⟩
theorem isNumber_eq (n : Int) : impl_isNumber.f n = spec_tiNumber.f n := by
  unfold impl_isNumber.f impl_within.f spec_tiNumber.f spec_l1In.f
  rfl
theorem tiNumber_some (n : Int) : spec_tiNumber.f n = some (decide (0 ≤ n) && decide (n ≤ 9)) := by
  unfold spec_tiNumber.f spec_l1In.f
  by_cases h : n ≥ 0
  · rw [if_pos h]; simp [h]
  · rw [if_neg h]; simp [h]
theorem TimesOf_same (l : List S60) (n : Int) : ∃ r, Ev (fun k => spec_TimesOf.f k l n) r ∧ Ev (fun k => impl_TimesOf.f k l n) r := by
  have h1 := tiHand_ev l
  have h2 := IsHand_ev l
  have h3 := tiNumber_some n
  cases h : handB l with
  | true =>
    have hl := handB_len h
    rw [h] at h1 h2
    cases hn : (decide (0 ≤ n) && decide (n ≤ 9)) with
    | true =>
      rw [hn] at h3
      exact ⟨(timesT l n, true), Ev.bind h1 (Ev.congr (fun k => by rw [if_pos rfl, h3, Option.bind_some, if_pos rfl]) (Ev.bind (tiTimes_ev l n (by omega)) (Ev.now _))), Ev.bind h2 (Ev.congr (fun k => by rw [if_pos rfl, isNumber_eq, h3, Option.bind_some, if_pos rfl]) (Ev.bind (times_ev l n (by omega)) (Ev.now _)))⟩
    | false =>
      rw [hn] at h3
      exact ⟨(0, false), Ev.bind h1 (ev_const (fun k => by rw [if_pos rfl, h3, Option.bind_some, if_neg (by decide)])), Ev.bind h2 (ev_const (fun k => by rw [if_pos rfl, isNumber_eq, h3, Option.bind_some, if_neg (by decide)]))⟩
  | false =>
    rw [h] at h1 h2
    exact ⟨(0, false), Ev.bind h1 (ev_const (fun k => by rw [if_neg (by decide)])), Ev.bind h2 (ev_const (fun k => by rw [if_neg (by decide)]))⟩

end Go.Proofs.Ytgcfddomnohajaa.Q
