/- Plain lists and numbers: what the program's functions and the reference's compute. -/
import Derived.Test.YtgcfddomnohajaaPFIsRing
import Derived.Test.YtgcfddomnohajaaPFSpinRing
import Derived.Test.YtgcfddomnohajaaPIa
import Derived.Test.YtgcfddomnohajaaPIc
import Derived.Test.YtgcfddomnohajaaPSa
import Derived.Test.YtgcfddomnohajaaQChain
import Derived.Test.YtgcfddomnohajaaQChainLaws
import Derived.Test.YtgcfddomnohajaaQConcat
import Derived.Test.YtgcfddomnohajaaQHand
import Derived.Test.YtgcfddomnohajaaQScaf
namespace Go.Proofs.Ytgcfddomnohajaa.Q
open Go.RowKit Go.Proofs.Ytgcfddomnohajaa.P Go.Proofs.YtgcfddomnohajaaW.PrintWords Go.Proofs.YtgcfddomnohajaaW.PrintLast Go.Proofs.YtgcfddomnohajaaW.PrintMore
set_option linter.unusedVariables false
set_option linter.unusedSimpArgs false

theorem l1Own_some (l : List Int) (h : l.length ≤ 1000000000) : spec_l1Own.f l = some l := by
  unfold spec_l1Own.f
  rw [Option.bind_some, if_pos (by simp; omega), List.nil_append]
theorem spin_lists (l : List Int) (n : Nat) (h2 : 2 ≤ l.length) (hr : l[0] = l[l.length - 1]) (hn : n + 2 ≤ l.length) : l.drop n ++ (l.take (n + 1)).drop 1 = (l.take (l.length - 1)).drop n ++ l.take (n + 1) := by
  have e1 : l.take (l.length - 1) ++ [l[l.length - 1]] = l := by
    have := take_snoc l (l.length - 1) _ (List.getElem?_eq_getElem (by omega))
    rw [← this, List.take_of_length_le (by omega)]
  have e2 : l.drop n = (l.take (l.length - 1)).drop n ++ [l[l.length - 1]] := by
    conv => lhs; rw [← e1]
    rw [List.drop_append_of_le_length (by simp; omega)]
  have e3 : l.take (n + 1) = l[0] :: (l.take (n + 1)).drop 1 := by
    have h1 : 0 < (l.take (n + 1)).length := by simp; omega
    have := List.drop_eq_getElem_cons h1
    rw [List.drop_zero] at this
    rw [List.getElem_take] at this
    exact this
  rw [e2, List.append_assoc]
  conv => rhs; rw [e3, hr]
  rfl
theorem SpinRing_same (l : List Int) (a : Int) (hl : l.length ≤ 1048576) : ∃ r, Ev (fun k => spec_SpinRing.f k l a) r ∧ Ev (fun k => impl_SpinRing.f k l a) r ∧ r.1.length ≤ 1048576 := by
  cases hc : chainB l with
  | false =>
    have h1 := haGood_ev l (by omega)
    have h2 := IsChain_ev l (by omega)
    rw [hc] at h1 h2
    have h3 : Ev (fun k => impl_IsRing.f k l) (false, false) := guard_ev h2 (fun h => by cases h) (fun _ => rfl)
    exact ⟨([], false), guard_ev h1 (fun h => by cases h) (fun _ => rfl), Ev.bind h3 (ev_const (fun k => by rw [if_neg (by decide)])), by simp⟩
  | true =>
    have hn := chainB_len hc
    have h1 := haGood_ev l (by omega)
    rw [hc] at h1
    have h3 := IsRing_impl l (by omega) hn.1 hc
    have hr := haRing_some l hn.1 (by omega)
    cases hb : (decide (1 < l.length) && (l[0] == l[l.length - 1])) with
    | false =>
      rw [hb] at h3 hr
      exact ⟨([], false), guard_ev h1 (fun _ => ev_const (fun k => by rw [hr, Option.bind_some, if_neg (by decide)])) (fun h => by cases h), Ev.bind h3 (ev_const (fun k => by rw [if_neg (by decide)])), by simp⟩
    | true =>
      rw [hb] at h3 hr
      simp only [Bool.and_eq_true, decide_eq_true_eq, beq_iff_eq] at hb
      have w2 : wrap64 ((l.length : Int) - 2) = (l.length : Int) - 2 := wrap_eq (by omega) (by omega)
      have w1 : wrap64 ((l.length : Int) - 1) = ((l.length - 1 : Nat) : Int) := by rw [wrap_eq (by omega) (by omega)]; omega
      have hin : spec_l1In.f a 0 ((l.length : Int) - 2) = some (decide (0 ≤ a) && decide (a ≤ (l.length : Int) - 2)) := by
        unfold spec_l1In.f
        by_cases h : a ≥ 0
        · rw [if_pos h]; simp [h]
        · rw [if_neg h]; simp [h]
      have hwi : impl_within.f a 0 ((l.length : Int) - 2) = some (decide (0 ≤ a) && decide (a ≤ (l.length : Int) - 2)) := within_f a 0 _
      cases hk : (decide (0 ≤ a) && decide (a ≤ (l.length : Int) - 2)) with
      | false =>
        rw [hk] at hin hwi
        exact ⟨([], false), guard_ev h1 (fun _ => ev_const (fun k => by rw [hr, Option.bind_some, if_pos rfl, w2, hin, Option.bind_some, if_neg (by decide)])) (fun h => by cases h), Ev.bind h3 (ev_const (fun k => by rw [if_pos rfl, w2, hwi, Option.bind_some, if_neg (by decide)])), by simp⟩
      | true =>
        rw [hk] at hin hwi
        simp only [Bool.and_eq_true, decide_eq_true_eq] at hk
        obtain ⟨n, rfl⟩ : ∃ n : Nat, a = n := ⟨a.toNat, by omega⟩
        have hsp := spin_lists l n (by omega) hb.2 (by omega)
        have hcat := concat2_ev ((l.take (l.length - 1)).drop n) (l.take (n + 1)) (by simp; omega)
        refine ⟨((l.take (l.length - 1)).drop n ++ l.take (n + 1), true), guard_ev h1 (fun _ => ?_) (fun h => by cases h), Ev.bind h3 ?_, by simp; omega⟩
        · refine ev_const (fun k => ?_)
          rw [hr, Option.bind_some, if_pos rfl, w2, hin, Option.bind_some, if_pos rfl, if_pos (by omega), if_pos (by omega), Int.toNat_natCast, l1Own_some _ (by simp; omega), Option.bind_some, wrap_succ (by omega), if_pos (by omega), if_pos (by omega), Int.toNat_natCast, if_pos (by simp; omega), hsp]
        · refine Ev.congr (fun k => ?_) (Ev.bind (f := fun _ x => some (x, true)) hcat (Ev.now _))
          rw [if_pos rfl, w2, hwi, Option.bind_some, if_pos rfl, w1, if_pos (by omega), if_pos (by omega), if_pos (by omega), wrap_succ (by omega), if_pos (by omega), if_pos (by omega), Int.toNat_natCast, Int.toNat_natCast, Int.toNat_natCast]

end Go.Proofs.Ytgcfddomnohajaa.Q
