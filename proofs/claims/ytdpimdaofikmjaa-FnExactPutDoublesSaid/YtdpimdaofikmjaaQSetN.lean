/- Plain lists and numbers: what the program's functions and the reference's compute. -/
import Derived.Test.YtdpimdaofikmjaaP0
import Derived.Test.YtdpimdaofikmjaaPIp
import Derived.Test.YtdpimdaofikmjaaPSb
namespace Go.Proofs.Ytdpimdaofikmjaa.Q
open Go.RowKit Go.Proofs.Ytdpimdaofikmjaa.P Go.Proofs.YtdpimdaofikmjaaW.PrintWords Go.Proofs.YtdpimdaofikmjaaW.PrintLast Go.Proofs.YtdpimdaofikmjaaW.PrintMore
set_option linter.unusedVariables false
set_option linter.unusedSimpArgs false

def pairT (t : S67) : Int × Int := (t.f0, t.f1)
theorem pairs_inj : ∀ a b : List S67, a.map pairT = b.map pairT → a = b
  | [], [], _ => rfl
  | x :: a, y :: b, h => by
    simp only [List.map_cons, List.cons.injEq] at h
    have h1 : x = y := (tile_ext x y).2 (by have := h.1; simp only [pairT, Prod.mk.injEq] at this; exact this)
    rw [h1, pairs_inj a b h.2]
  | [], _ :: _, h => by cases h
  | _ :: _, [], h => by cases h
/-- The set of n. -/
def setN (n : Nat) : List S67 := (List.range (n + 1)).flatMap fun (a : Nat) => ((List.range (n + 1)).filter fun (b : Nat) => decide (a ≤ b)).map fun (b : Nat) => ⟨((a : Nat) : Int), ((b : Nat) : Int)⟩
theorem tiSet_eval (n : Nat) (h : n < 10) : spec_tiSet.f 200 (n : Int) = some (setN n) := by
  have H : ∀ m : Fin 10, ((spec_tiSet.f 200 ((m.val : Nat) : Int)).map (·.map pairT)) = some ((setN m.val).map pairT) := by decide +kernel
  have := H ⟨n, h⟩
  simp only [Option.map_eq_some_iff] at this
  obtain ⟨a, ha, he⟩ := this
  rw [ha, pairs_inj _ _ he]
theorem setOf_eval (n : Nat) (h : n < 10) : impl_setOf.f 200 (n : Int) = some (setN n) := by
  have H : ∀ m : Fin 10, ((impl_setOf.f 200 ((m.val : Nat) : Int)).map (·.map pairT)) = some ((setN m.val).map pairT) := by decide +kernel
  have := H ⟨n, h⟩
  simp only [Option.map_eq_some_iff] at this
  obtain ⟨a, ha, he⟩ := this
  rw [ha, pairs_inj _ _ he]
theorem setN_length (n : Nat) (h : n < 10) : (setN n).length ≤ 55 := by
  have H : ∀ m : Fin 10, (setN m.val).length ≤ 55 := by decide +kernel
  exact H ⟨n, h⟩
theorem tiSet_ev (n : Nat) (h : n < 10) : Ev (fun k => spec_tiSet.f k (n : Int)) (setN n) := Ev.of (fun k => spec_tiSet.mono _ _) (tiSet_eval n h)
theorem setOf_ev (n : Nat) (h : n < 10) : Ev (fun k => impl_setOf.f k (n : Int)) (setN n) := Ev.of (fun k => impl_setOf.mono _ _) (setOf_eval n h)

end Go.Proofs.Ytdpimdaofikmjaa.Q
