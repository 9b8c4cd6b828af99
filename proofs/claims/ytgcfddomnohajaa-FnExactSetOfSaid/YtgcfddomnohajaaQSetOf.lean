/- Plain lists and numbers: what the program's functions and the reference's compute. -/
import Derived.Test.YtgcfddomnohajaaP0
import Derived.Test.YtgcfddomnohajaaPId
import Derived.Test.YtgcfddomnohajaaPLawSetOf
import Derived.Test.YtgcfddomnohajaaPSb
import Derived.Test.YtgcfddomnohajaaQScaf
import Derived.Test.YtgcfddomnohajaaQSimple
namespace Go.Proofs.Ytgcfddomnohajaa.Q
open Go.RowKit Go.Proofs.Ytgcfddomnohajaa.P Go.Proofs.YtgcfddomnohajaaW.PrintWords Go.Proofs.YtgcfddomnohajaaW.PrintLast Go.Proofs.YtgcfddomnohajaaW.PrintMore
set_option linter.unusedVariables false
set_option linter.unusedSimpArgs false

def pairT (t : S60) : Int × Int := (t.f0, t.f1)
theorem pairs_inj : ∀ a b : List S60, a.map pairT = b.map pairT → a = b
  | [], [], _ => rfl
  | x :: a, y :: b, h => by
    simp only [List.map_cons, List.cons.injEq] at h
    have h1 : x = y := (tile_ext x y).2 (by have := h.1; simp only [pairT, Prod.mk.injEq] at this; exact this)
    rw [h1, pairs_inj a b h.2]
  | [], _ :: _, h => by cases h
  | _ :: _, [], h => by cases h
/-- The set of n. -/
def setN (n : Nat) : List S60 := (List.range (n + 1)).flatMap fun (a : Nat) => ((List.range (n + 1)).filter fun (b : Nat) => decide (a ≤ b)).map fun (b : Nat) => ⟨((a : Nat) : Int), ((b : Nat) : Int)⟩
theorem tiSet_eval (n : Nat) (h : n < 10) : spec_tiSet.f 200 (n : Int) = some (setN n) := by
  have H : ∀ m : Fin 10, ((spec_tiSet.f 200 ((m.val : Nat) : Int)).map (·.map pairT)) = some ((setN m.val).map pairT) := by decide +kernel
  have := H ⟨n, h⟩
  simp only [Option.map_eq_some_iff] at this
  obtain ⟨a, ha, he⟩ := this
  rw [ha, pairs_inj _ _ he]
theorem setOf_eval (n : Nat) (h : n < 10) : impl_setOf.f 200 (n : Int) = some (setN n) := by
  have H : ∀ m : Fin 10, ((impl_setOf.f 200 ((m.val : Nat) : Int)).map (·.map pairT)) = some ((setN m.val).map pairT) := by decide +kernel
  have := H ⟨n, h⟩
  simp only [Option.map_eq_some_iff] at this
  obtain ⟨a, ha, he⟩ := this
  rw [ha, pairs_inj _ _ he]
theorem setN_length (n : Nat) (h : n < 10) : (setN n).length ≤ 55 := by
  have H : ∀ m : Fin 10, (setN m.val).length ≤ 55 := by decide +kernel
  exact H ⟨n, h⟩
theorem tiSet_ev (n : Nat) (h : n < 10) : Ev (fun k => spec_tiSet.f k (n : Int)) (setN n) := Ev.of (fun k => spec_tiSet.mono _ _) (tiSet_eval n h)
theorem setOf_ev (n : Nat) (h : n < 10) : Ev (fun k => impl_setOf.f k (n : Int)) (setN n) := Ev.of (fun k => impl_setOf.mono _ _) (setOf_eval n h)
theorem SetOf_same (a : Int) : ∃ r, Ev (fun k => spec_SetOf.f k a) r ∧ Ev (fun k => impl_SetOf.f k a) r ∧ r.1.length ≤ 1048576 := by
  have h3 := tiNumber_some a
  cases hn : (decide (0 ≤ a) && decide (a ≤ 9)) with
  | true =>
    rw [hn] at h3
    simp only [Bool.and_eq_true, decide_eq_true_eq] at hn
    obtain ⟨n, rfl⟩ : ∃ n : Nat, a = n := ⟨a.toNat, by omega⟩
    have e1 := tiSet_ev n (by omega)
    have e2 := setOf_ev n (by omega)
    refine ⟨(setN n, true), ?_, ?_, by have := setN_length n (by omega); simp only; omega⟩
    · unfold spec_SetOf.f
      exact Ev.congr (fun k => by rw [h3, Option.bind_some, if_pos rfl]) (Ev.bind e1 (Ev.now _))
    · unfold impl_SetOf.f
      exact Ev.congr (fun k => by rw [isNumber_eq, h3, Option.bind_some, if_pos rfl]) (Ev.bind e2 (Ev.now _))
  | false =>
    rw [hn] at h3
    refine ⟨([], false), ?_, ?_, by simp⟩
    · unfold spec_SetOf.f
      exact ev_const (fun k => by rw [h3, Option.bind_some, if_neg (by decide)])
    · unfold impl_SetOf.f
      exact ev_const (fun k => by rw [isNumber_eq, h3, Option.bind_some, if_neg (by decide)])

end Go.Proofs.Ytgcfddomnohajaa.Q
