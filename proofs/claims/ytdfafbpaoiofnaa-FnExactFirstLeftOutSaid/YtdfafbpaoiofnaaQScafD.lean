/- Plain lists and numbers: what the program's functions and the reference's compute. -/
import Derived.Test.YtdfafbpaoiofnaaP0
import Derived.Test.YtdfafbpaoiofnaaPLa
import Derived.Test.YtdfafbpaoiofnaaPLb
namespace Go.Proofs.Ytdfafbpaoiofnaa.Q
open Go.RowKit Go.Proofs.Ytdfafbpaoiofnaa.P Go.Proofs.YtdfafbpaoiofnaaW.PrintWords Go.Proofs.YtdfafbpaoiofnaaW.PrintLast Go.Proofs.YtdfafbpaoiofnaaW.PrintMore
set_option linter.unusedVariables false
set_option linter.unusedSimpArgs false

/-! ### numbers -/
theorem wrap_eq {x : Int} (h0 : -9223372036854775808 ≤ x) (h1 : x ≤ 9223372036854775807) : wrap64 x = x := by unfold wrap64; omega
theorem wrap_succ {n : Nat} (h : n < 9223372036854775807) : wrap64 ((n : Int) + 1) = ((n + 1 : Nat) : Int) := by unfold wrap64; omega
/-! ### from some number of rounds on, as an equation -/
theorem Ev.at {α : Type} {g : Nat → Option α} {r : α} (h : Ev g r) : ∃ K, ∀ k, g (K + k) = some r := by
  obtain ⟨K, h⟩ := h
  exact ⟨K, fun k => h _ (by omega)⟩
theorem ev_of_at {α : Type} {g : Nat → Option α} {r : α} (K : Nat) (h : ∀ k, g (K + k) = some r) : Ev g r := ⟨K, fun k hk => by
  obtain ⟨m, rfl⟩ : ∃ m, k = K + m := ⟨k - K, by omega⟩
  exact h m⟩
theorem ev_const {α : Type} {g : Nat → Option α} {r : α} (h : ∀ k, g k = some r) : Ev g r := ⟨0, fun k _ => h k⟩
/-! ### lists of tiles: made, held against each other, marked -/
theorem rdT_nat (xs : List S32) (i : Nat) (x : S32) (h : xs[i]? = some x) : rd_T32 xs (i : Int) = x := by
  show xs.getD (i : Int).toNat _ = x
  rw [Int.toNat_natCast, List.getD_eq_getElem?_getD, h]; rfl
theorem rd_nat (xs : List Int) (i : Nat) (x : Int) (h : xs[i]? = some x) : rd xs (i : Int) = x := by
  show xs.getD (i : Int).toNat _ = x
  rw [Int.toNat_natCast, List.getD_eq_getElem?_getD, h]; rfl
theorem eqTile_some (a b : S32) : laws_eqTile.f a.f0 a.f1 b.f0 b.f1 = some (decide (a = b)) := by
  unfold laws_eqTile.f
  by_cases h : a.f0 = b.f0
  · rw [if_pos h]; by_cases h2 : a.f1 = b.f1
    · rw [if_pos h2]; simp [tile_ext, h, h2]
    · rw [if_neg h2]; simp [tile_ext, h2]
  · rw [if_neg h]; simp [tile_ext, h]
theorem eqTileS_loop (a b : List S32) (hl : a.length = b.length) (ha : a.length ≤ 9223372036854775800) : ∀ d i, i + d = a.length → Ev (fun k => laws_eqTileS.l0 k a b (i : Int)) (decide (a.drop i = b.drop i)) := by
  intro d
  induction d with
  | zero =>
    intro i h
    refine ⟨1, fun k hk => ?_⟩
    obtain ⟨k, rfl⟩ : ∃ m, k = m + 1 := ⟨k - 1, by omega⟩
    simp only [laws_eqTileS.l0]
    rw [if_neg (by omega), List.drop_of_length_le (by omega), List.drop_of_length_le (by omega)]
    simp
  | succ d ih =>
    intro i h
    have hi : i < a.length := by omega
    have hi2 : i < b.length := by omega
    have ex := List.getElem?_eq_getElem hi
    have ey := List.getElem?_eq_getElem hi2
    by_cases e : a[i] = b[i]
    · have hd : decide (a.drop i = b.drop i) = decide (a.drop (i + 1) = b.drop (i + 1)) := by
        rw [List.drop_eq_getElem_cons hi, List.drop_eq_getElem_cons hi2]
        simp only [List.cons.injEq, e, true_and]
      rw [hd]
      refine Ev.step (f := fun k => laws_eqTileS.l0 k a b ((i + 1 : Nat) : Int)) (fun k => ?_) (ih (i + 1) (by omega))
      simp only [laws_eqTileS.l0]
      rw [if_pos (by omega), if_pos (by omega), if_pos (by omega), rdT_nat a i _ ex, rdT_nat b i _ ey, eqTile_some, Option.bind_some, if_pos (by simp [e]), wrap_succ (by omega)]
    · have hd : decide (a.drop i = b.drop i) = false := by
        rw [List.drop_eq_getElem_cons hi, List.drop_eq_getElem_cons hi2]
        simp only [List.cons.injEq, e, false_and, decide_false]
      rw [hd]
      refine Ev.step (f := fun _ => some false) (fun k => ?_) (Ev.now _)
      simp only [laws_eqTileS.l0]
      rw [if_pos (by omega), if_pos (by omega), if_pos (by omega), rdT_nat a i _ ex, rdT_nat b i _ ey, eqTile_some, Option.bind_some, if_neg (by simp [e])]
theorem eqTileS_ev (a b : List S32) (ha : a.length ≤ 9223372036854775800) : Ev (fun k => laws_eqTileS.f k a b) (decide (a = b)) := by
  unfold laws_eqTileS.f
  by_cases h : a.length = b.length
  · have := eqTileS_loop a b h ha a.length 0 (by omega)
    simp only [List.drop_zero] at this
    refine Ev.congr (fun k => ?_) this
    rw [if_pos (by omega)]
    rfl
  · refine ⟨0, fun k _ => ?_⟩
    show (if _ then _ else _) = _
    rw [if_neg (by omega)]
    simp only [Option.some.injEq]
    symm
    rw [decide_eq_false_iff_not]
    intro e
    exact h (by rw [e])
/-- The marks that a list bears: m, m + 1, .. -/
def marksI (m : Int) : Nat → List Int
  | 0 => []
  | n + 1 => m :: marksI (m + 1) n
def marksT (m : Int) : Nat → List S32
  | 0 => []
  | n + 1 => ⟨m, m + 1⟩ :: marksT (m + 2) n
theorem marksI_length (m : Int) (n : Nat) : (marksI m n).length = n := by
  induction n generalizing m with
  | zero => rfl
  | succ n ih => simp [marksI, ih]
theorem markTileS_loop : ∀ (d : Nat) (pre suf : List S32) (m : Int), suf.length = d → 0 ≤ m → m + 2 * d ≤ 1000000000 → pre.length + d ≤ 1000000000 → Ev (fun k => laws_markTileS.l0 k (pre ++ suf) m (pre.length : Int)) (m + 2 * d, pre ++ marksT m d) := by
  intro d
  induction d with
  | zero =>
    intro pre suf m h hm hb hp
    obtain rfl : suf = [] := List.length_eq_zero_iff.1 h
    refine ⟨1, fun k hk => ?_⟩
    obtain ⟨k, rfl⟩ : ∃ m, k = m + 1 := ⟨k - 1, by omega⟩
    simp only [laws_markTileS.l0]
    rw [if_neg (by simp)]
    simp [marksT]
  | succ d ih =>
    intro pre suf m h hm hb hp
    match suf, h with
    | x :: suf, h =>
      have hs : suf.length = d := by simpa using h
      have := ih (pre ++ [⟨m, m + 1⟩]) suf (m + 2) hs (by omega) (by omega) (by simp; omega)
      have e1 : m + 2 + 2 * (d : Int) = m + 2 * ((d + 1 : Nat) : Int) := by omega
      rw [e1, List.append_assoc, List.append_assoc] at this
      refine Ev.step (fun k => ?_) this
      have r1 : rd_T32 (pre ++ x :: suf) (pre.length : Int) = x := rdT_nat _ _ _ (by simp)
      have r2 : ∀ y : S32, rd_T32 (pre ++ y :: suf) (pre.length : Int) = y := fun y => rdT_nat _ _ _ (by simp)
      have e2 : wrap64 (m + 1 + 1) = m + 2 := by rw [wrap_eq (by omega) (by omega)]; omega
      simp only [laws_markTileS.l0, Option.bind_some]
      rw [if_pos (by simp; omega), if_pos (by omega), Int.toNat_natCast, List.set_append_right _ _ (by omega), Nat.sub_self, List.set_cons_zero, r1, List.set_append_right _ _ (by omega), Nat.sub_self, List.set_cons_zero, r2, wrap_succ (by omega), wrap_eq (x := m + 1) (by omega) (by omega), e2]
      simp
theorem markTileS_ev (l : List S32) (h : l.length ≤ 1048576) : Ev (fun k => laws_markTileS.f k l 1) (1 + 2 * (l.length : Int), marksT 1 l.length) :=
  markTileS_loop l.length [] l 1 rfl (by omega) (by omega) (by simp; omega)
theorem heldTileS_loop : ∀ (d : Nat) (pre : List S32) (m : Int), 0 ≤ m → m + 2 * d ≤ 1000000000 → pre.length + d ≤ 1000000000 → Ev (fun k => laws_heldTileS.l0 k (pre ++ marksT m d) m (pre.length : Int)) (m + 2 * d) := by
  intro d
  induction d with
  | zero =>
    intro pre m hm hb hp
    refine ⟨1, fun k hk => ?_⟩
    obtain ⟨k, rfl⟩ : ∃ m, k = m + 1 := ⟨k - 1, by omega⟩
    simp only [laws_heldTileS.l0]
    rw [if_neg (by simp [marksT])]
    simp
  | succ d ih =>
    intro pre m hm hb hp
    have := ih (pre ++ [⟨m, m + 1⟩]) (m + 2) (by omega) (by omega) (by simp; omega)
    have e1 : m + 2 + 2 * (d : Int) = m + 2 * ((d + 1 : Nat) : Int) := by omega
    rw [e1, List.append_assoc] at this
    refine Ev.step (fun k => ?_) this
    have r1 : rd_T32 (pre ++ marksT m (d + 1)) (pre.length : Int) = ⟨m, m + 1⟩ := rdT_nat _ _ _ (by simp [marksT])
    have e2 : wrap64 (m + 1 + 1) = m + 2 := by rw [wrap_eq (by omega) (by omega)]; omega
    simp only [laws_heldTileS.l0]
    rw [if_pos (by simp [marksT]; omega), if_pos (by omega), r1, if_pos rfl, wrap_eq (x := m + 1) (by omega) (by omega), if_pos rfl, wrap_succ (by omega), e2]
    simp [marksT]
theorem heldTileS_ev (n : Nat) (h : n ≤ 1048576) : Ev (fun k => laws_heldTileS.f k (marksT 1 n) 1) (1 + 2 * (n : Int)) := heldTileS_loop n [] 1 (by omega) (by omega) (by simp; omega)

end Go.Proofs.Ytdfafbpaoiofnaa.Q
