/- Plain lists and numbers: what the program's functions and the reference's compute. -/
import Derived.Test.YtepccigcdbimaaaP0
import Derived.Test.YtepccigcdbimaaaPLd
import Derived.Test.YtepccigcdbimaaaQScafC
namespace Go.Proofs.Ytepccigcdbimaaa.Q
open Go.RowKit Go.Proofs.Ytepccigcdbimaaa.P Go.Proofs.YtepccigcdbimaaaW.PrintWords Go.Proofs.YtepccigcdbimaaaW.PrintLast Go.Proofs.YtepccigcdbimaaaW.PrintMore
set_option linter.unusedVariables false
set_option linter.unusedSimpArgs false

theorem arm_ext (a b : S93) : a = b ↔ a.f0 = b.f0 ∧ a.f1 = b.f1 ∧ a.f2 = b.f2 := by cases a; cases b; simp
instance armDec : DecidableEq S93 := fun a b => decidable_of_iff _ (arm_ext a b).symm
theorem rdA_nat (xs : List S93) (i : Nat) (x : S93) (h : xs[i]? = some x) : rd_T93 xs (i : Int) = x := by
  show xs.getD (i : Int).toNat _ = x
  rw [Int.toNat_natCast, List.getD_eq_getElem?_getD, h]; rfl
theorem eqArm_some (a b : S93) : laws_eqArm.f a.f0 a.f1 a.f2 b.f0 b.f1 b.f2 = some (decide (a = b)) := by
  unfold laws_eqArm.f
  obtain ⟨a0, a1, a2⟩ := a
  obtain ⟨b0, b1, b2⟩ := b
  by_cases h : a0 = b0
  · rw [if_pos h]; subst h; cases a1 <;> cases b1 <;> cases a2 <;> cases b2 <;> simp
  · rw [if_neg h]; simp [h]
theorem eqArmS_loop (a b : List S93) (hl : a.length = b.length) (ha : a.length ≤ 9223372036854775800) : ∀ d i, i + d = a.length → Ev (fun k => laws_eqArmS.l0 k a b (i : Int)) (decide (a.drop i = b.drop i)) := by
  intro d
  induction d with
  | zero =>
    intro i h
    refine ⟨1, fun k hk => ?_⟩
    obtain ⟨k, rfl⟩ : ∃ m, k = m + 1 := ⟨k - 1, by omega⟩
    simp only [laws_eqArmS.l0]
    rw [if_neg (by omega), List.drop_of_length_le (by omega), List.drop_of_length_le (by omega)]
    simp
  | succ d ih =>
    intro i h
    have hi : i < a.length := by omega
    have hi2 : i < b.length := by omega
    have ex := List.getElem?_eq_getElem hi
    have ey := List.getElem?_eq_getElem hi2
    by_cases e : a[i] = b[i]
    · have hd : decide (a.drop i = b.drop i) = decide (a.drop (i + 1) = b.drop (i + 1)) := by
        rw [List.drop_eq_getElem_cons hi, List.drop_eq_getElem_cons hi2]
        simp only [List.cons.injEq, e, true_and]
      rw [hd]
      refine Ev.step (f := fun k => laws_eqArmS.l0 k a b ((i + 1 : Nat) : Int)) (fun k => ?_) (ih (i + 1) (by omega))
      simp only [laws_eqArmS.l0]
      rw [if_pos (by omega), if_pos (by omega), if_pos (by omega), rdA_nat a i _ ex, rdA_nat b i _ ey, eqArm_some, Option.bind_some, if_pos (by simp [e]), wrap_succ (by omega)]
    · have hd : decide (a.drop i = b.drop i) = false := by
        rw [List.drop_eq_getElem_cons hi, List.drop_eq_getElem_cons hi2]
        simp only [List.cons.injEq, e, false_and, decide_false]
      rw [hd]
      refine Ev.step (f := fun _ => some false) (fun k => ?_) (Ev.now _)
      simp only [laws_eqArmS.l0]
      rw [if_pos (by omega), if_pos (by omega), if_pos (by omega), rdA_nat a i _ ex, rdA_nat b i _ ey, eqArm_some, Option.bind_some, if_neg (by simp [e])]
theorem eqArmS_ev (a b : List S93) (ha : a.length ≤ 9223372036854775800) : Ev (fun k => laws_eqArmS.f k a b) (decide (a = b)) := by
  unfold laws_eqArmS.f
  by_cases h : a.length = b.length
  · have := eqArmS_loop a b h ha a.length 0 (by omega)
    simp only [List.drop_zero] at this
    refine Ev.congr (fun k => ?_) this
    rw [if_pos (by omega)]
    rfl
  · refine ⟨0, fun k _ => ?_⟩
    show (if _ then _ else _) = _
    rw [if_neg (by omega)]
    simp only [Option.some.injEq]
    symm
    rw [decide_eq_false_iff_not]
    intro e
    exact h (by rw [e])
def marksA (m : Int) : Nat → List S93
  | 0 => []
  | n + 1 => ⟨m, Int.tmod (m + 1) 3 == 0, Int.tmod (m + 2) 3 == 0⟩ :: marksA (m + 3) n
theorem markArmS_loop : ∀ (d : Nat) (pre suf : List S93) (m : Int), suf.length = d → 0 ≤ m → m + 3 * d ≤ 1000000000 → pre.length + d ≤ 1000000000 → Ev (fun k => laws_markArmS.l0 k (pre ++ suf) m (pre.length : Int)) (m + 3 * d, pre ++ marksA m d) := by
  intro d
  induction d with
  | zero =>
    intro pre suf m h hm hb hp
    obtain rfl : suf = [] := List.length_eq_zero_iff.1 h
    refine ⟨1, fun k hk => ?_⟩
    obtain ⟨k, rfl⟩ : ∃ m, k = m + 1 := ⟨k - 1, by omega⟩
    simp only [laws_markArmS.l0]
    rw [if_neg (by simp)]
    simp [marksA]
  | succ d ih =>
    intro pre suf m h hm hb hp
    match suf, h with
    | x :: suf, h =>
      have hs : suf.length = d := by simpa using h
      have := ih (pre ++ [⟨m, Int.tmod (m + 1) 3 == 0, Int.tmod (m + 2) 3 == 0⟩]) suf (m + 3) hs (by omega) (by omega) (by simp; omega)
      have e1 : m + 3 + 3 * (d : Int) = m + 3 * ((d + 1 : Nat) : Int) := by omega
      rw [e1, List.append_assoc, List.append_assoc] at this
      refine Ev.step (fun k => ?_) this
      have r2 : ∀ y : S93, rd_T93 (pre ++ y :: suf) (pre.length : Int) = y := fun y => rdA_nat _ _ _ (by simp)
      have st : ∀ y z : S93, (pre ++ y :: suf).set pre.length z = pre ++ z :: suf := fun y z => by rw [List.set_append_right _ _ (by omega), Nat.sub_self, List.set_cons_zero]
      have e2 : wrap64 (m + 1 + 1) = m + 2 := by rw [wrap_eq (by omega) (by omega)]; omega
      have e3 : wrap64 (m + 2 + 1) = m + 3 := by rw [wrap_eq (by omega) (by omega)]; omega
      simp only [laws_markArmS.l0, Option.bind_some]
      rw [if_pos (by simp; omega), if_pos (by omega), Int.toNat_natCast, wrap_eq (x := m + 1) (by omega) (by omega), e2, e3, wrap_succ (by omega)]
      simp only [st, r2]
      simp
theorem markArmS_ev (l : List S93) (h : l.length ≤ 1048576) : Ev (fun k => laws_markArmS.f k l 1) (1 + 3 * (l.length : Int), marksA 1 l.length) :=
  markArmS_loop l.length [] l 1 rfl (by omega) (by omega) (by simp; omega)
theorem heldArmS_loop : ∀ (d : Nat) (pre : List S93) (m : Int), 0 ≤ m → m + 3 * d ≤ 1000000000 → pre.length + d ≤ 1000000000 → Ev (fun k => laws_heldArmS.l0 k (pre ++ marksA m d) m (pre.length : Int)) (m + 3 * d) := by
  intro d
  induction d with
  | zero =>
    intro pre m hm hb hp
    refine ⟨1, fun k hk => ?_⟩
    obtain ⟨k, rfl⟩ : ∃ m, k = m + 1 := ⟨k - 1, by omega⟩
    simp only [laws_heldArmS.l0]
    rw [if_neg (by simp [marksA])]
    simp
  | succ d ih =>
    intro pre m hm hb hp
    have := ih (pre ++ [⟨m, Int.tmod (m + 1) 3 == 0, Int.tmod (m + 2) 3 == 0⟩]) (m + 3) (by omega) (by omega) (by simp; omega)
    have e1 : m + 3 + 3 * (d : Int) = m + 3 * ((d + 1 : Nat) : Int) := by omega
    rw [e1, List.append_assoc] at this
    refine Ev.step (fun k => ?_) this
    have r1 : rd_T93 (pre ++ marksA m (d + 1)) (pre.length : Int) = ⟨m, Int.tmod (m + 1) 3 == 0, Int.tmod (m + 2) 3 == 0⟩ := rdA_nat _ _ _ (by simp [marksA])
    have e2 : wrap64 (m + 1 + 1) = m + 2 := by rw [wrap_eq (by omega) (by omega)]; omega
    have e3 : wrap64 (m + 2 + 1) = m + 3 := by rw [wrap_eq (by omega) (by omega)]; omega
    simp only [laws_heldArmS.l0]
    rw [if_pos (by simp [marksA]; omega), if_pos (by omega), r1, wrap_eq (x := m + 1) (by omega) (by omega), e2, e3, if_pos rfl, if_neg (by simp), if_neg (by simp), wrap_succ (by omega)]
    simp [marksA]
theorem heldArmS_ev (n : Nat) (h : n ≤ 1048576) : Ev (fun k => laws_heldArmS.f k (marksA 1 n) 1) (1 + 3 * (n : Int)) := heldArmS_loop n [] 1 (by omega) (by omega) (by simp; omega)

end Go.Proofs.Ytepccigcdbimaaa.Q
