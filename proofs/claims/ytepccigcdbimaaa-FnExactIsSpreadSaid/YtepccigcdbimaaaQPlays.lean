/- Plain lists and numbers: what the program's functions and the reference's compute. -/
import Derived.Test.YtepccigcdbimaaaP0
import Derived.Test.YtepccigcdbimaaaPLc
import Derived.Test.YtepccigcdbimaaaPLc2
import Derived.Test.YtepccigcdbimaaaQScafC
namespace Go.Proofs.Ytepccigcdbimaaa.Q
open Go.RowKit Go.Proofs.Ytepccigcdbimaaa.P Go.Proofs.YtepccigcdbimaaaW.PrintWords Go.Proofs.YtepccigcdbimaaaW.PrintLast Go.Proofs.YtepccigcdbimaaaW.PrintMore
set_option linter.unusedVariables false
set_option linter.unusedSimpArgs false

theorem play_ext (a b : S61) : a = b ↔ a.f0 = b.f0 ∧ a.f1 = b.f1 := by cases a; cases b; simp
instance playDec : DecidableEq S61 := fun a b => decidable_of_iff _ (play_ext a b).symm
theorem rdP_nat (xs : List S61) (i : Nat) (x : S61) (h : xs[i]? = some x) : rd_T61 xs (i : Int) = x := by
  show xs.getD (i : Int).toNat _ = x
  rw [Int.toNat_natCast, List.getD_eq_getElem?_getD, h]; rfl
theorem eqPlay_some (a b : S61) : laws_eqPlay.f a.f0.f0 a.f0.f1 a.f1 b.f0.f0 b.f0.f1 b.f1 = some (decide (a = b)) := by
  unfold laws_eqPlay.f
  rw [eqTile_some, Option.bind_some]
  by_cases h : a.f0 = b.f0
  · rw [if_pos (by simp [h])]; by_cases h2 : a.f1 = b.f1
    · rw [if_pos h2]; simp [play_ext, h, h2]
    · rw [if_neg h2]; simp [play_ext, h2]
  · rw [if_neg (by simp [h])]; simp [play_ext, h]
theorem eqPlayS_loop (a b : List S61) (hl : a.length = b.length) (ha : a.length ≤ 9223372036854775800) : ∀ d i, i + d = a.length → Ev (fun k => laws_eqPlayS.l0 k a b (i : Int)) (decide (a.drop i = b.drop i)) := by
  intro d
  induction d with
  | zero =>
    intro i h
    refine ⟨1, fun k hk => ?_⟩
    obtain ⟨k, rfl⟩ : ∃ m, k = m + 1 := ⟨k - 1, by omega⟩
    simp only [laws_eqPlayS.l0]
    rw [if_neg (by omega), List.drop_of_length_le (by omega), List.drop_of_length_le (by omega)]
    simp
  | succ d ih =>
    intro i h
    have hi : i < a.length := by omega
    have hi2 : i < b.length := by omega
    have ex := List.getElem?_eq_getElem hi
    have ey := List.getElem?_eq_getElem hi2
    by_cases e : a[i] = b[i]
    · have hd : decide (a.drop i = b.drop i) = decide (a.drop (i + 1) = b.drop (i + 1)) := by
        rw [List.drop_eq_getElem_cons hi, List.drop_eq_getElem_cons hi2]
        simp only [List.cons.injEq, e, true_and]
      rw [hd]
      refine Ev.step (f := fun k => laws_eqPlayS.l0 k a b ((i + 1 : Nat) : Int)) (fun k => ?_) (ih (i + 1) (by omega))
      simp only [laws_eqPlayS.l0]
      rw [if_pos (by omega), if_pos (by omega), if_pos (by omega), rdP_nat a i _ ex, rdP_nat b i _ ey, eqPlay_some, Option.bind_some, if_pos (by simp [e]), wrap_succ (by omega)]
    · have hd : decide (a.drop i = b.drop i) = false := by
        rw [List.drop_eq_getElem_cons hi, List.drop_eq_getElem_cons hi2]
        simp only [List.cons.injEq, e, false_and, decide_false]
      rw [hd]
      refine Ev.step (f := fun _ => some false) (fun k => ?_) (Ev.now _)
      simp only [laws_eqPlayS.l0]
      rw [if_pos (by omega), if_pos (by omega), if_pos (by omega), rdP_nat a i _ ex, rdP_nat b i _ ey, eqPlay_some, Option.bind_some, if_neg (by simp [e])]
theorem eqPlayS_ev (a b : List S61) (ha : a.length ≤ 9223372036854775800) : Ev (fun k => laws_eqPlayS.f k a b) (decide (a = b)) := by
  unfold laws_eqPlayS.f
  by_cases h : a.length = b.length
  · have := eqPlayS_loop a b h ha a.length 0 (by omega)
    simp only [List.drop_zero] at this
    refine Ev.congr (fun k => ?_) this
    rw [if_pos (by omega)]
    rfl
  · refine ⟨0, fun k _ => ?_⟩
    show (if _ then _ else _) = _
    rw [if_neg (by omega)]
    simp only [Option.some.injEq]
    symm
    rw [decide_eq_false_iff_not]
    intro e
    exact h (by rw [e])
def marksP (m : Int) : Nat → List S61
  | 0 => []
  | n + 1 => ⟨⟨m, m + 1⟩, m + 2⟩ :: marksP (m + 3) n
theorem markPlayS_loop : ∀ (d : Nat) (pre suf : List S61) (m : Int), suf.length = d → 0 ≤ m → m + 3 * d ≤ 1000000000 → pre.length + d ≤ 1000000000 → Ev (fun k => laws_markPlayS.l0 k (pre ++ suf) m (pre.length : Int)) (m + 3 * d, pre ++ marksP m d) := by
  intro d
  induction d with
  | zero =>
    intro pre suf m h hm hb hp
    obtain rfl : suf = [] := List.length_eq_zero_iff.1 h
    refine ⟨1, fun k hk => ?_⟩
    obtain ⟨k, rfl⟩ : ∃ m, k = m + 1 := ⟨k - 1, by omega⟩
    simp only [laws_markPlayS.l0]
    rw [if_neg (by simp)]
    simp [marksP]
  | succ d ih =>
    intro pre suf m h hm hb hp
    match suf, h with
    | x :: suf, h =>
      have hs : suf.length = d := by simpa using h
      have := ih (pre ++ [⟨⟨m, m + 1⟩, m + 2⟩]) suf (m + 3) hs (by omega) (by omega) (by simp; omega)
      have e1 : m + 3 + 3 * (d : Int) = m + 3 * ((d + 1 : Nat) : Int) := by omega
      rw [e1, List.append_assoc, List.append_assoc] at this
      refine Ev.step (fun k => ?_) this
      have r2 : ∀ y : S61, rd_T61 (pre ++ y :: suf) (pre.length : Int) = y := fun y => rdP_nat _ _ _ (by simp)
      have st : ∀ y z : S61, (pre ++ y :: suf).set pre.length z = pre ++ z :: suf := fun y z => by rw [List.set_append_right _ _ (by omega), Nat.sub_self, List.set_cons_zero]
      have e2 : wrap64 (m + 1 + 1) = m + 2 := by rw [wrap_eq (by omega) (by omega)]; omega
      have e3 : wrap64 (m + 2 + 1) = m + 3 := by rw [wrap_eq (by omega) (by omega)]; omega
      simp only [laws_markPlayS.l0, Option.bind_some]
      rw [if_pos (by simp; omega), if_pos (by omega), Int.toNat_natCast, wrap_eq (x := m + 1) (by omega) (by omega), e2, e3, wrap_succ (by omega)]
      simp only [st, r2]
      simp
theorem markPlayS_ev (l : List S61) (h : l.length ≤ 1048576) : Ev (fun k => laws_markPlayS.f k l 1) (1 + 3 * (l.length : Int), marksP 1 l.length) :=
  markPlayS_loop l.length [] l 1 rfl (by omega) (by omega) (by simp; omega)
theorem heldPlayS_loop : ∀ (d : Nat) (pre : List S61) (m : Int), 0 ≤ m → m + 3 * d ≤ 1000000000 → pre.length + d ≤ 1000000000 → Ev (fun k => laws_heldPlayS.l0 k (pre ++ marksP m d) m (pre.length : Int)) (m + 3 * d) := by
  intro d
  induction d with
  | zero =>
    intro pre m hm hb hp
    refine ⟨1, fun k hk => ?_⟩
    obtain ⟨k, rfl⟩ : ∃ m, k = m + 1 := ⟨k - 1, by omega⟩
    simp only [laws_heldPlayS.l0]
    rw [if_neg (by simp [marksP])]
    simp
  | succ d ih =>
    intro pre m hm hb hp
    have := ih (pre ++ [⟨⟨m, m + 1⟩, m + 2⟩]) (m + 3) (by omega) (by omega) (by simp; omega)
    have e1 : m + 3 + 3 * (d : Int) = m + 3 * ((d + 1 : Nat) : Int) := by omega
    rw [e1, List.append_assoc] at this
    refine Ev.step (fun k => ?_) this
    have r1 : rd_T61 (pre ++ marksP m (d + 1)) (pre.length : Int) = ⟨⟨m, m + 1⟩, m + 2⟩ := rdP_nat _ _ _ (by simp [marksP])
    have e2 : wrap64 (m + 1 + 1) = m + 2 := by rw [wrap_eq (by omega) (by omega)]; omega
    have e3 : wrap64 (m + 2 + 1) = m + 3 := by rw [wrap_eq (by omega) (by omega)]; omega
    simp only [laws_heldPlayS.l0]
    rw [if_pos (by simp [marksP]; omega), if_pos (by omega), r1, wrap_eq (x := m + 1) (by omega) (by omega), e2, e3, if_pos rfl, if_pos rfl, if_pos rfl, wrap_succ (by omega)]
    simp [marksP]
theorem heldPlayS_ev (n : Nat) (h : n ≤ 1048576) : Ev (fun k => laws_heldPlayS.f k (marksP 1 n) 1) (1 + 3 * (n : Int)) := heldPlayS_loop n [] 1 (by omega) (by omega) (by simp; omega)

end Go.Proofs.Ytepccigcdbimaaa.Q
