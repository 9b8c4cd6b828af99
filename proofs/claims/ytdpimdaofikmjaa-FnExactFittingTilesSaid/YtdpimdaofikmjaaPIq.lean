-- Printed by a program of this session (wip/myprint.py, which drives the kit's print): what one function of the program does, and the proof that its call does so.
import Derived.Lib.SliceRun
import Derived.WalkSpells
import Derived.Test.YtdpimdaofikmjaaP0
import Derived.Test.YtdpimdaofikmjaaPIa
namespace Go.Proofs.Ytdpimdaofikmjaa.P
open Go.RowKit Go.Proofs.YtdpimdaofikmjaaW.PrintWords Go.Proofs.YtdpimdaofikmjaaW.PrintLast Go.Proofs.YtdpimdaofikmjaaW.PrintMore
attribute [local go_sem] max2_int min2_int max_two min_two max_three min_three max_four min_four   -- for this text's walks alone
set_option linter.unusedVariables false
set_option linter.unusedSimpArgs false

/-! ### impl_FittingTiles_1: function 113: written by hand -/
def fitB (a b : Int) (x : S67) : Bool := (decide (x.f0 = a) || decide (x.f1 = a)) || (decide (x.f0 = b) || decide (x.f1 = b))
theorem hasF_f (x : S67) (n : Int) : impl_Tile_has.f x.f0 x.f1 n = some (decide (x.f0 = n) || decide (x.f1 = n)) := by
  unfold impl_Tile_has.f
  by_cases h : x.f0 = n <;> simp [h] <;> rfl
set_option maxHeartbeats 4000000 in
theorem impl_FittingTiles_1.gcalls (x : S67) (b1 b2 : Nat) (n1 n2 : Int) (W : World) (hc : W.cell? ⟨b1, 0, none⟩ = some (.int .i64 n1)) (hd : W.cell? ⟨b2, 0, none⟩ = some (.int .i64 n2)) :
    Calls Try.prog 113 #[.agg #[.int .i64 x.f0, .int .i64 x.f1], .pointer (some ⟨b1, 0, none⟩), .pointer (some ⟨b2, 0, none⟩)] W fun e W' => e = .returned (.bool (fitB n1 n2 x)) ∧ Below W.heap.size W W' := by
  have h1 : ∀ W' : World, Calls Try.prog 91 #[.agg #[.int .i64 x.f0, .int .i64 x.f1], .int .i64 n1] W' fun e W'' => e = .returned (.bool (decide (x.f0 = n1) || decide (x.f1 = n1))) ∧ Below W'.heap.size W' W'' := fun W' => impl_Tile_has.calls x.f0 x.f1 n1 _ W' (hasF_f x n1)
  have h2 : ∀ W' : World, Calls Try.prog 91 #[.agg #[.int .i64 x.f0, .int .i64 x.f1], .int .i64 n2] W' fun e W'' => e = .returned (.bool (decide (x.f0 = n2) || decide (x.f1 = n2))) ∧ Below W'.heap.size W' W'' := fun W' => impl_Tile_has.calls x.f0 x.f1 n2 _ W' (hasF_f x n2)
  have hr : fitB n1 n2 x = ((decide (x.f0 = n1) || decide (x.f1 = n1)) || (decide (x.f0 = n2) || decide (x.f1 = n2))) := rfl
  rw [hr]
  generalize (decide (x.f0 = n1) || decide (x.f1 = n1)) = r1 at h1
  generalize (decide (x.f0 = n2) || decide (x.f1 = n2)) = r2 at h2
  clear hr
  have hlt1 := World.block_lt_of_cell? W _ hc
  have hlt2 := World.block_lt_of_cell? W _ hd
  have hc2 : ∀ o, (W.alloc o).cell? ⟨b1, 0, none⟩ = some (.int .i64 n1) := fun o => Lib.cell?_alloc_some o hc
  have hd2 : ∀ o, (W.alloc o).cell? ⟨b2, 0, none⟩ = some (.int .i64 n2) := fun o => Lib.cell?_alloc_some o hd
  have HD := Aside0.mk (fun o w2 (hb : Below (W.alloc o).heap.size (W.alloc o) w2) => (hb.cell (World.block_lt_of_cell? _ _ (hd2 o))).trans (hd2 o))
  have HH1 := Aside0.mk h1
  have HH2 := Aside0.mk h2
  clear h1 h2
  cases r1 with
  | true =>
    go_enter Try.func113, Try.ntmps113
    go_wp2_with (go_at_call 91; refine (HH1.out _).mono ?_; rintro e w2 ⟨rfl, hb2⟩)
    go_ret
    exact ⟨by simp, by first | exact hb2 | exact below_then ((Below.refl _ _).alloc (Nat.le_refl _) _) (by simp) hb2⟩
  | false =>
    go_enter Try.func113, Try.ntmps113
    go_wp2_with (go_at_call 91; first | (go_loud (with_reducible refine (HH1.out _).mono ?_); rintro e w2 ⟨rfl, hb2⟩; have hd3 := HD.out _ _ hb2; have hv0 : w2.cell? ⟨W.heap.size, 0, none⟩ = some (.int .i64 x.f0) := (hb2.cell (by simp)).trans (by simp only [World.cell?, heap_alloc_new]; rfl); have hv1 : w2.cell? ⟨W.heap.size, 1, none⟩ = some (.int .i64 x.f1) := (hb2.cell (by simp)).trans (by simp only [World.cell?, heap_alloc_new]; rfl); have HB2 := Aside0.mk (below_then ((Below.refl W.heap.size W).alloc (Nat.le_refl _) _) (by simp) hb2); clear hb2) | (go_loud (with_reducible refine (HH2.out _).mono ?_); rintro e w3 ⟨rfl, hb3⟩))
    go_ret
    exact ⟨by simp, below_then HB2.out HB2.out.size hb3⟩

end Go.Proofs.Ytdpimdaofikmjaa.P
