/- Plain lists and numbers: what the program's functions and the reference's compute. -/
import Derived.Test.YtdfafbpaoiofnaaP0
import Derived.Test.YtdfafbpaoiofnaaPFFirstLeftOut
import Derived.Test.YtdfafbpaoiofnaaPIa
import Derived.Test.YtdfafbpaoiofnaaPSa
import Derived.Test.YtdfafbpaoiofnaaQScafD
namespace Go.Proofs.Ytdfafbpaoiofnaa.Q
open Go.RowKit Go.Proofs.Ytdfafbpaoiofnaa.P Go.Proofs.YtdfafbpaoiofnaaW.PrintWords Go.Proofs.YtdfafbpaoiofnaaW.PrintLast Go.Proofs.YtdfafbpaoiofnaaW.PrintMore
set_option linter.unusedVariables false
set_option linter.unusedSimpArgs false

def pairT' (t : S32) : Int × Int := (t.f0, t.f1)
theorem pairs_inj' : ∀ a b : List S32, a.map pairT' = b.map pairT' → a = b
  | [], [], _ => rfl
  | x :: a, y :: b, h => by
    simp only [List.map_cons, List.cons.injEq] at h
    have h1 : x = y := (tile_ext x y).2 (by have := h.1; simp only [pairT', Prod.mk.injEq] at this; exact this)
    rw [h1, pairs_inj' a b h.2]
  | [], _ :: _, h => by cases h
  | _ :: _, [], h => by cases h
/-- The tiles that are left out. -/
def outN (n : Nat) : List S32 := if n % 2 = 1 then (List.range ((n - 1) / 2)).map fun (i : Nat) => ⟨((2 * i : Nat) : Int), ((2 * i + 1 : Nat) : Int)⟩ else []
set_option maxRecDepth 1000000 in
theorem spec_out0 : (spec_FirstLeftOut.f 3000 0).map (fun r => (r.1.map pairT', r.2)) = some ((outN 0).map pairT', true) := by decide +kernel
set_option maxRecDepth 1000000 in
theorem spec_out1 : (spec_FirstLeftOut.f 3000 1).map (fun r => (r.1.map pairT', r.2)) = some ((outN 1).map pairT', true) := by decide +kernel
set_option maxRecDepth 1000000 in
theorem spec_out2 : (spec_FirstLeftOut.f 3000 2).map (fun r => (r.1.map pairT', r.2)) = some ((outN 2).map pairT', true) := by decide +kernel
set_option maxRecDepth 1000000 in
theorem spec_out3 : (spec_FirstLeftOut.f 3000 3).map (fun r => (r.1.map pairT', r.2)) = some ((outN 3).map pairT', true) := by decide +kernel
set_option maxRecDepth 1000000 in
theorem spec_out4 : (spec_FirstLeftOut.f 3000 4).map (fun r => (r.1.map pairT', r.2)) = some ((outN 4).map pairT', true) := by decide +kernel
set_option maxRecDepth 1000000 in
theorem spec_out5 : (spec_FirstLeftOut.f 3000 5).map (fun r => (r.1.map pairT', r.2)) = some ((outN 5).map pairT', true) := by decide +kernel
set_option maxRecDepth 1000000 in
theorem spec_out6 : (spec_FirstLeftOut.f 3000 6).map (fun r => (r.1.map pairT', r.2)) = some ((outN 6).map pairT', true) := by decide +kernel
set_option maxRecDepth 1000000 in
theorem spec_out7 : (spec_FirstLeftOut.f 3000 7).map (fun r => (r.1.map pairT', r.2)) = some ((outN 7).map pairT', true) := by decide +kernel
set_option maxRecDepth 1000000 in
theorem spec_out8 : (spec_FirstLeftOut.f 3000 8).map (fun r => (r.1.map pairT', r.2)) = some ((outN 8).map pairT', true) := by decide +kernel
set_option maxRecDepth 1000000 in
theorem spec_out9 : (spec_FirstLeftOut.f 3000 9).map (fun r => (r.1.map pairT', r.2)) = some ((outN 9).map pairT', true) := by decide +kernel
theorem spec_out (n : Nat) (h : n < 10) : (spec_FirstLeftOut.f 3000 (n : Int)).map (fun r => (r.1.map pairT', r.2)) = some ((outN n).map pairT', true) := by
  match n, h with
  | 0, _ => exact spec_out0
  | 1, _ => exact spec_out1
  | 2, _ => exact spec_out2
  | 3, _ => exact spec_out3
  | 4, _ => exact spec_out4
  | 5, _ => exact spec_out5
  | 6, _ => exact spec_out6
  | 7, _ => exact spec_out7
  | 8, _ => exact spec_out8
  | 9, _ => exact spec_out9
theorem impl_out (n : Nat) (h : n < 10) : (impl_FirstLeftOut.f 200 (n : Int)).map (fun r => (r.1.map pairT', r.2)) = some ((outN n).map pairT', true) := by
  have H : ∀ m : Fin 10, (impl_FirstLeftOut.f 200 ((m.val : Nat) : Int)).map (fun r => (r.1.map pairT', r.2)) = some ((outN m.val).map pairT', true) := by decide +kernel
  exact H ⟨n, h⟩
theorem out_length (n : Nat) (h : n < 10) : (outN n).length ≤ 10 := by
  unfold outN
  split <;> simp <;> omega
theorem FirstLeftOut_same (a : Int) : ∃ r, Ev (fun k => spec_FirstLeftOut.f k a) r ∧ Ev (fun k => impl_FirstLeftOut.f k a) r ∧ r.1.length ≤ 1048576 := by
  by_cases hn : 0 ≤ a ∧ a ≤ 9
  · obtain ⟨n, rfl⟩ := Int.eq_ofNat_of_zero_le hn.1
    have h10 : n < 10 := by omega
    have back : ∀ (o : Option (List S32 × Bool)), o.map (fun r => (r.1.map pairT', r.2)) = some ((outN n).map pairT', true) → o = some (outN n, true) := by
      intro o ho
      obtain ⟨⟨l, b⟩, h1, h2⟩ := Option.map_eq_some_iff.1 ho
      simp only [Prod.mk.injEq] at h2
      rw [h1, pairs_inj' _ _ h2.1, h2.2]
    have hl := out_length n h10
    exact ⟨(outN n, true), Ev.of (fun k => spec_FirstLeftOut.mono _ _) (back _ (spec_out n h10)), Ev.of (fun k => impl_FirstLeftOut.mono _ _) (back _ (impl_out n h10)), by simp only; omega⟩
  · have h1 : spec_tiNumber.f a = some false := by
      unfold spec_tiNumber.f spec_l1In.f
      by_cases h : a ≥ 0
      · have h9 : ¬ a ≤ 9 := fun c => hn ⟨h, c⟩
        simp [h, h9]
      · simp [h]
    have h2 : impl_isNumber.f a = some false := by
      unfold impl_isNumber.f impl_within.f
      by_cases h : 0 ≤ a
      · have h9 : ¬ a ≤ 9 := fun c => hn ⟨h, c⟩
        simp [h, h9]
      · simp [h]
    exact ⟨([], false), ev_const fun k => by unfold spec_FirstLeftOut.f; rw [h1]; rfl, ev_const fun k => by unfold impl_FirstLeftOut.f; rw [h2]; rfl, by simp⟩

end Go.Proofs.Ytdfafbpaoiofnaa.Q
