/- Plain lists and numbers: what the program's functions and the reference's compute. -/
import Derived.Test.YtepccigcdbimaaaP0
import Derived.Test.YtepccigcdbimaaaPLa
namespace Go.Proofs.Ytepccigcdbimaaa.Q
open Go.RowKit Go.Proofs.Ytepccigcdbimaaa.P Go.Proofs.YtepccigcdbimaaaW.PrintWords Go.Proofs.YtepccigcdbimaaaW.PrintLast Go.Proofs.YtepccigcdbimaaaW.PrintMore
set_option linter.unusedVariables false
set_option linter.unusedSimpArgs false

/-! ### numbers -/
theorem wrap_eq {x : Int} (h0 : -9223372036854775808 ≤ x) (h1 : x ≤ 9223372036854775807) : wrap64 x = x := by unfold wrap64; omega
theorem wrap_succ {n : Nat} (h : n < 9223372036854775807) : wrap64 ((n : Int) + 1) = ((n + 1 : Nat) : Int) := by unfold wrap64; omega
/-! ### from some number of rounds on, as an equation -/
theorem Ev.at {α : Type} {g : Nat → Option α} {r : α} (h : Ev g r) : ∃ K, ∀ k, g (K + k) = some r := by
  obtain ⟨K, h⟩ := h
  exact ⟨K, fun k => h _ (by omega)⟩
theorem ev_of_at {α : Type} {g : Nat → Option α} {r : α} (K : Nat) (h : ∀ k, g (K + k) = some r) : Ev g r := ⟨K, fun k hk => by
  obtain ⟨m, rfl⟩ : ∃ m, k = K + m := ⟨k - K, by omega⟩
  exact h m⟩
theorem ev_const {α : Type} {g : Nat → Option α} {r : α} (h : ∀ k, g k = some r) : Ev g r := ⟨0, fun k _ => h k⟩
/-! ### lists of tiles: made, held against each other, marked -/
def convT (x : S55) : S59 := ⟨x.f0, x.f1⟩
theorem rdT_nat (xs : List S59) (i : Nat) (x : S59) (h : xs[i]? = some x) : rd_T59 xs (i : Int) = x := by
  show xs.getD (i : Int).toNat _ = x
  rw [Int.toNat_natCast, List.getD_eq_getElem?_getD, h]; rfl
theorem rdL_nat (xs : List S55) (i : Nat) (x : S55) (h : xs[i]? = some x) : rd_T55 xs (i : Int) = x := by
  show xs.getD (i : Int).toNat _ = x
  rw [Int.toNat_natCast, List.getD_eq_getElem?_getD, h]; rfl
theorem rd_nat (xs : List Int) (i : Nat) (x : Int) (h : xs[i]? = some x) : rd xs (i : Int) = x := by
  show xs.getD (i : Int).toNat _ = x
  rw [Int.toNat_natCast, List.getD_eq_getElem?_getD, h]; rfl
theorem eqTile_some (a b : S59) : laws_eqTile.f a.f0 a.f1 b.f0 b.f1 = some (decide (a = b)) := by
  unfold laws_eqTile.f
  by_cases h : a.f0 = b.f0
  · rw [if_pos h]; by_cases h2 : a.f1 = b.f1
    · rw [if_pos h2]; simp [tile_ext, h, h2]
    · rw [if_neg h2]; simp [tile_ext, h2]
  · rw [if_neg h]; simp [tile_ext, h]

end Go.Proofs.Ytepccigcdbimaaa.Q
