/- Plain lists and numbers: what the program's functions and the reference's compute. -/
import Derived.Test.YtdklmjpimgeejaaP0
import Derived.Test.YtdklmjpimgeejaaPlawseqIntS
import Derived.Test.YtdklmjpimgeejaaPlawsheldIntS
import Derived.Test.YtdklmjpimgeejaaPlawsmarkIntS
import Derived.Test.YtdklmjpimgeejaaPlawsmarkTileS
import Derived.Test.YtdklmjpimgeejaaQBaseC
namespace Go.Proofs.Ytdklmjpimgeejaa.Q
open Go.RowKit Go.Proofs.Ytdklmjpimgeejaa.P Go.Proofs.YtdklmjpimgeejaaW.PrintWords Go.Proofs.YtdklmjpimgeejaaW.PrintLast Go.Proofs.YtdklmjpimgeejaaW.PrintMore
set_option linter.unusedVariables false
set_option linter.unusedSimpArgs false

theorem eqIntS_loop (a b : List Int) (hl : a.length = b.length) (ha : a.length ≤ 9223372036854775800) : ∀ d i, i + d = a.length → Ev (fun k => laws_eqIntS.l0 k a b (i : Int)) (decide (a.drop i = b.drop i)) := by
  intro d
  induction d with
  | zero =>
    intro i h
    refine ⟨1, fun k hk => ?_⟩
    obtain ⟨k, rfl⟩ : ∃ m, k = m + 1 := ⟨k - 1, by omega⟩
    simp only [laws_eqIntS.l0]
    rw [if_neg (by omega), List.drop_of_length_le (by omega), List.drop_of_length_le (by omega)]
    simp
  | succ d ih =>
    intro i h
    have hi : i < a.length := by omega
    have hi2 : i < b.length := by omega
    have ex := List.getElem?_eq_getElem hi
    have ey := List.getElem?_eq_getElem hi2
    by_cases e : a[i] = b[i]
    · have hd : decide (a.drop i = b.drop i) = decide (a.drop (i + 1) = b.drop (i + 1)) := by
        rw [List.drop_eq_getElem_cons hi, List.drop_eq_getElem_cons hi2]
        simp only [List.cons.injEq, e, true_and]
      rw [hd]
      refine Ev.step (f := fun k => laws_eqIntS.l0 k a b ((i + 1 : Nat) : Int)) (fun k => ?_) (ih (i + 1) (by omega))
      simp only [laws_eqIntS.l0]
      rw [if_pos (by omega), if_pos (by omega), if_pos (by omega), rd_nat a i _ ex, rd_nat b i _ ey, if_pos e, wrap_succ (by omega)]
    · have hd : decide (a.drop i = b.drop i) = false := by
        rw [List.drop_eq_getElem_cons hi, List.drop_eq_getElem_cons hi2]
        simp only [List.cons.injEq, e, false_and, decide_false]
      rw [hd]
      refine Ev.step (f := fun _ => some false) (fun k => ?_) (Ev.now _)
      simp only [laws_eqIntS.l0]
      rw [if_pos (by omega), if_pos (by omega), if_pos (by omega), rd_nat a i _ ex, rd_nat b i _ ey, if_neg e]
theorem eqIntS_ev (a b : List Int) (ha : a.length ≤ 9223372036854775800) : Ev (fun k => laws_eqIntS.f k a b) (decide (a = b)) := by
  unfold laws_eqIntS.f
  by_cases h : a.length = b.length
  · have := eqIntS_loop a b h ha a.length 0 (by omega)
    simp only [List.drop_zero] at this
    refine Ev.congr (fun k => ?_) this
    rw [if_pos (by omega)]
    rfl
  · refine ⟨0, fun k _ => ?_⟩
    show (if _ then _ else _) = _
    rw [if_neg (by omega)]
    simp only [Option.some.injEq]
    symm
    rw [decide_eq_false_iff_not]
    intro e
    exact h (by rw [e])
/-- The marks that a list bears: m, m + 1, .. -/
def marksI (m : Int) : Nat → List Int
  | 0 => []
  | n + 1 => m :: marksI (m + 1) n
def marksT (m : Int) : Nat → List S45
  | 0 => []
  | n + 1 => ⟨m, m + 1⟩ :: marksT (m + 2) n
theorem markIntS_loop : ∀ (d : Nat) (pre suf : List Int) (m : Int), suf.length = d → 0 ≤ m → m + d ≤ 1000000000 → pre.length + d ≤ 1000000000 → Ev (fun k => laws_markIntS.l0 k (pre ++ suf) m (pre.length : Int)) (m + d, pre ++ marksI m d) := by
  intro d
  induction d with
  | zero =>
    intro pre suf m h hm hb hp
    obtain rfl : suf = [] := List.length_eq_zero_iff.1 h
    refine ⟨1, fun k hk => ?_⟩
    obtain ⟨k, rfl⟩ : ∃ m, k = m + 1 := ⟨k - 1, by omega⟩
    simp only [laws_markIntS.l0]
    rw [if_neg (by simp)]
    simp [marksI]
  | succ d ih =>
    intro pre suf m h hm hb hp
    match suf, h with
    | x :: suf, h =>
      have hs : suf.length = d := by simpa using h
      have := ih (pre ++ [m]) suf (m + 1) hs (by omega) (by omega) (by simp; omega)
      have e1 : m + 1 + (d : Int) = m + ((d + 1 : Nat) : Int) := by omega
      rw [e1, List.append_assoc, List.append_assoc] at this
      refine Ev.step (fun k => ?_) this
      simp only [laws_markIntS.l0]
      rw [if_pos (by simp; omega), if_pos (by omega), Int.toNat_natCast, List.set_append_right _ _ (by omega), Nat.sub_self, List.set_cons_zero, wrap_eq (by omega) (by omega), wrap_succ (by omega)]
      simp
theorem markIntS_ev (l : List Int) (h : l.length ≤ 1048576) : Ev (fun k => laws_markIntS.f k l 1) (1 + (l.length : Int), marksI 1 l.length) := by
  have := markIntS_loop l.length [] l 1 rfl (by omega) (by omega) (by simp; omega)
  exact this
theorem marksI_length (m : Int) (n : Nat) : (marksI m n).length = n := by
  induction n generalizing m with
  | zero => rfl
  | succ n ih => simp [marksI, ih]
theorem heldIntS_loop : ∀ (d : Nat) (pre : List Int) (m : Int), 0 ≤ m → m + d ≤ 1000000000 → pre.length + d ≤ 1000000000 → Ev (fun k => laws_heldIntS.l0 k (pre ++ marksI m d) m (pre.length : Int)) (m + d) := by
  intro d
  induction d with
  | zero =>
    intro pre m hm hb hp
    refine ⟨1, fun k hk => ?_⟩
    obtain ⟨k, rfl⟩ : ∃ m, k = m + 1 := ⟨k - 1, by omega⟩
    simp only [laws_heldIntS.l0]
    rw [if_neg (by simp [marksI])]
    simp
  | succ d ih =>
    intro pre m hm hb hp
    have := ih (pre ++ [m]) (m + 1) (by omega) (by omega) (by simp; omega)
    have e1 : m + 1 + (d : Int) = m + ((d + 1 : Nat) : Int) := by omega
    rw [e1, List.append_assoc] at this
    refine Ev.step (fun k => ?_) this
    simp only [laws_heldIntS.l0]
    rw [if_pos (by simp [marksI]; omega), if_pos (by omega), rd_nat _ _ m (by simp [marksI]), if_pos rfl, wrap_eq (by omega) (by omega), wrap_succ (by omega)]
    simp [marksI]
theorem heldIntS_ev (n : Nat) (h : n ≤ 1048576) : Ev (fun k => laws_heldIntS.f k (marksI 1 n) 1) (1 + (n : Int)) := heldIntS_loop n [] 1 (by omega) (by omega) (by simp; omega)
theorem markTileS_loop : ∀ (d : Nat) (pre suf : List S45) (m : Int), suf.length = d → 0 ≤ m → m + 2 * d ≤ 1000000000 → pre.length + d ≤ 1000000000 → Ev (fun k => laws_markTileS.l0 k (pre ++ suf) m (pre.length : Int)) (m + 2 * d, pre ++ marksT m d) := by
  intro d
  induction d with
  | zero =>
    intro pre suf m h hm hb hp
    obtain rfl : suf = [] := List.length_eq_zero_iff.1 h
    refine ⟨1, fun k hk => ?_⟩
    obtain ⟨k, rfl⟩ : ∃ m, k = m + 1 := ⟨k - 1, by omega⟩
    simp only [laws_markTileS.l0]
    rw [if_neg (by simp)]
    simp [marksT]
  | succ d ih =>
    intro pre suf m h hm hb hp
    match suf, h with
    | x :: suf, h =>
      have hs : suf.length = d := by simpa using h
      have := ih (pre ++ [⟨m, m + 1⟩]) suf (m + 2) hs (by omega) (by omega) (by simp; omega)
      have e1 : m + 2 + 2 * (d : Int) = m + 2 * ((d + 1 : Nat) : Int) := by omega
      rw [e1, List.append_assoc, List.append_assoc] at this
      refine Ev.step (fun k => ?_) this
      have r1 : rd_T45 (pre ++ x :: suf) (pre.length : Int) = x := rdT_nat _ _ _ (by simp)
      have r2 : ∀ y : S45, rd_T45 (pre ++ y :: suf) (pre.length : Int) = y := fun y => rdT_nat _ _ _ (by simp)
      have e2 : wrap64 (m + 1 + 1) = m + 2 := by rw [wrap_eq (by omega) (by omega)]; omega
      simp only [laws_markTileS.l0, Option.bind_some]
      rw [if_pos (by simp; omega), if_pos (by omega), Int.toNat_natCast, List.set_append_right _ _ (by omega), Nat.sub_self, List.set_cons_zero, r1, List.set_append_right _ _ (by omega), Nat.sub_self, List.set_cons_zero, r2, wrap_succ (by omega), wrap_eq (x := m + 1) (by omega) (by omega), e2]
      simp
theorem markTileS_ev (l : List S45) (h : l.length ≤ 1048576) : Ev (fun k => laws_markTileS.f k l 1) (1 + 2 * (l.length : Int), marksT 1 l.length) :=
  markTileS_loop l.length [] l 1 rfl (by omega) (by omega) (by simp; omega)

end Go.Proofs.Ytdklmjpimgeejaa.Q
