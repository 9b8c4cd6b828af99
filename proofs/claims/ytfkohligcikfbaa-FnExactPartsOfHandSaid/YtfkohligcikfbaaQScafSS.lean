/- Plain lists and numbers: what the program's functions and the reference's compute. -/
import Derived.Test.YtfkohligcikfbaaP0
import Derived.Test.YtfkohligcikfbaaPLa
import Derived.Test.YtfkohligcikfbaaPLb
import Derived.Test.YtfkohligcikfbaaPLe
import Derived.Test.YtfkohligcikfbaaPLf
import Derived.Test.YtfkohligcikfbaaQBaseF
namespace Go.Proofs.Ytfkohligcikfbaa.Q
open Go.RowKit Go.Proofs.Ytfkohligcikfbaa.P Go.Proofs.YtfkohligcikfbaaW.PrintWords Go.Proofs.YtfkohligcikfbaaW.PrintLast Go.Proofs.YtfkohligcikfbaaW.PrintMore
set_option linter.unusedVariables false
set_option linter.unusedSimpArgs false

theorem eqIntS_loop (a b : List Int) (hl : a.length = b.length) (ha : a.length ≤ 9223372036854775800) : ∀ d i, i + d = a.length → Ev (fun k => laws_eqIntS.l0 k a b (i : Int)) (decide (a.drop i = b.drop i)) := by
  intro d
  induction d with
  | zero =>
    intro i h
    refine ⟨1, fun k hk => ?_⟩
    obtain ⟨k, rfl⟩ : ∃ m, k = m + 1 := ⟨k - 1, by omega⟩
    simp only [laws_eqIntS.l0]
    rw [if_neg (by omega), List.drop_of_length_le (by omega), List.drop_of_length_le (by omega)]
    simp
  | succ d ih =>
    intro i h
    have hi : i < a.length := by omega
    have hi2 : i < b.length := by omega
    have ex := List.getElem?_eq_getElem hi
    have ey := List.getElem?_eq_getElem hi2
    by_cases e : a[i] = b[i]
    · have hd : decide (a.drop i = b.drop i) = decide (a.drop (i + 1) = b.drop (i + 1)) := by
        rw [List.drop_eq_getElem_cons hi, List.drop_eq_getElem_cons hi2]
        simp only [List.cons.injEq, e, true_and]
      rw [hd]
      refine Ev.step (f := fun k => laws_eqIntS.l0 k a b ((i + 1 : Nat) : Int)) (fun k => ?_) (ih (i + 1) (by omega))
      simp only [laws_eqIntS.l0]
      rw [if_pos (by omega), if_pos (by omega), if_pos (by omega), rd_nat a i _ ex, rd_nat b i _ ey, if_pos e, wrap_succ (by omega)]
    · have hd : decide (a.drop i = b.drop i) = false := by
        rw [List.drop_eq_getElem_cons hi, List.drop_eq_getElem_cons hi2]
        simp only [List.cons.injEq, e, false_and, decide_false]
      rw [hd]
      refine Ev.step (f := fun _ => some false) (fun k => ?_) (Ev.now _)
      simp only [laws_eqIntS.l0]
      rw [if_pos (by omega), if_pos (by omega), if_pos (by omega), rd_nat a i _ ex, rd_nat b i _ ey, if_neg e]
theorem eqIntS_ev (a b : List Int) (ha : a.length ≤ 9223372036854775800) : Ev (fun k => laws_eqIntS.f k a b) (decide (a = b)) := by
  unfold laws_eqIntS.f
  by_cases h : a.length = b.length
  · have := eqIntS_loop a b h ha a.length 0 (by omega)
    simp only [List.drop_zero] at this
    refine Ev.congr (fun k => ?_) this
    rw [if_pos (by omega)]
    rfl
  · refine ⟨0, fun k _ => ?_⟩
    show (if _ then _ else _) = _
    rw [if_neg (by omega)]
    simp only [Option.some.injEq]
    symm
    rw [decide_eq_false_iff_not]
    intro e
    exact h (by rw [e])
/-- The marks that a list bears: m, m + 1, .. -/
def marksI (m : Int) : Nat → List Int
  | 0 => []
  | n + 1 => m :: marksI (m + 1) n
def marksT (m : Int) : Nat → List S49
  | 0 => []
  | n + 1 => ⟨m, m + 1⟩ :: marksT (m + 2) n
theorem markIntS_loop : ∀ (d : Nat) (pre suf : List Int) (m : Int), suf.length = d → 0 ≤ m → m + d ≤ 1000000000 → pre.length + d ≤ 1000000000 → Ev (fun k => laws_markIntS.l0 k (pre ++ suf) m (pre.length : Int)) (m + d, pre ++ marksI m d) := by
  intro d
  induction d with
  | zero =>
    intro pre suf m h hm hb hp
    obtain rfl : suf = [] := List.length_eq_zero_iff.1 h
    refine ⟨1, fun k hk => ?_⟩
    obtain ⟨k, rfl⟩ : ∃ m, k = m + 1 := ⟨k - 1, by omega⟩
    simp only [laws_markIntS.l0]
    rw [if_neg (by simp)]
    simp [marksI]
  | succ d ih =>
    intro pre suf m h hm hb hp
    match suf, h with
    | x :: suf, h =>
      have hs : suf.length = d := by simpa using h
      have := ih (pre ++ [m]) suf (m + 1) hs (by omega) (by omega) (by simp; omega)
      have e1 : m + 1 + (d : Int) = m + ((d + 1 : Nat) : Int) := by omega
      rw [e1, List.append_assoc, List.append_assoc] at this
      refine Ev.step (fun k => ?_) this
      simp only [laws_markIntS.l0]
      rw [if_pos (by simp; omega), if_pos (by omega), Int.toNat_natCast, List.set_append_right _ _ (by omega), Nat.sub_self, List.set_cons_zero, wrap_eq (by omega) (by omega), wrap_succ (by omega)]
      simp
theorem markIntS_ev (l : List Int) (h : l.length ≤ 1048576) : Ev (fun k => laws_markIntS.f k l 1) (1 + (l.length : Int), marksI 1 l.length) := by
  have := markIntS_loop l.length [] l 1 rfl (by omega) (by omega) (by simp; omega)
  exact this
theorem marksI_length (m : Int) (n : Nat) : (marksI m n).length = n := by
  induction n generalizing m with
  | zero => rfl
  | succ n ih => simp [marksI, ih]
theorem heldIntS_loop : ∀ (d : Nat) (pre : List Int) (m : Int), 0 ≤ m → m + d ≤ 1000000000 → pre.length + d ≤ 1000000000 → Ev (fun k => laws_heldIntS.l0 k (pre ++ marksI m d) m (pre.length : Int)) (m + d) := by
  intro d
  induction d with
  | zero =>
    intro pre m hm hb hp
    refine ⟨1, fun k hk => ?_⟩
    obtain ⟨k, rfl⟩ : ∃ m, k = m + 1 := ⟨k - 1, by omega⟩
    simp only [laws_heldIntS.l0]
    rw [if_neg (by simp [marksI])]
    simp
  | succ d ih =>
    intro pre m hm hb hp
    have := ih (pre ++ [m]) (m + 1) (by omega) (by omega) (by simp; omega)
    have e1 : m + 1 + (d : Int) = m + ((d + 1 : Nat) : Int) := by omega
    rw [e1, List.append_assoc] at this
    refine Ev.step (fun k => ?_) this
    simp only [laws_heldIntS.l0]
    rw [if_pos (by simp [marksI]; omega), if_pos (by omega), rd_nat _ _ m (by simp [marksI]), if_pos rfl, wrap_eq (by omega) (by omega), wrap_succ (by omega)]
    simp [marksI]
theorem heldIntS_ev (n : Nat) (h : n ≤ 1048576) : Ev (fun k => laws_heldIntS.f k (marksI 1 n) 1) (1 + (n : Int)) := heldIntS_loop n [] 1 (by omega) (by omega) (by simp; omega)
theorem markTileS_loop : ∀ (d : Nat) (pre suf : List S49) (m : Int), suf.length = d → 0 ≤ m → m + 2 * d ≤ 1000000000 → pre.length + d ≤ 1000000000 → Ev (fun k => laws_markTileS.l0 k (pre ++ suf) m (pre.length : Int)) (m + 2 * d, pre ++ marksT m d) := by
  intro d
  induction d with
  | zero =>
    intro pre suf m h hm hb hp
    obtain rfl : suf = [] := List.length_eq_zero_iff.1 h
    refine ⟨1, fun k hk => ?_⟩
    obtain ⟨k, rfl⟩ : ∃ m, k = m + 1 := ⟨k - 1, by omega⟩
    simp only [laws_markTileS.l0]
    rw [if_neg (by simp)]
    simp [marksT]
  | succ d ih =>
    intro pre suf m h hm hb hp
    match suf, h with
    | x :: suf, h =>
      have hs : suf.length = d := by simpa using h
      have := ih (pre ++ [⟨m, m + 1⟩]) suf (m + 2) hs (by omega) (by omega) (by simp; omega)
      have e1 : m + 2 + 2 * (d : Int) = m + 2 * ((d + 1 : Nat) : Int) := by omega
      rw [e1, List.append_assoc, List.append_assoc] at this
      refine Ev.step (fun k => ?_) this
      have r1 : rd_T49 (pre ++ x :: suf) (pre.length : Int) = x := rdT_nat _ _ _ (by simp)
      have r2 : ∀ y : S49, rd_T49 (pre ++ y :: suf) (pre.length : Int) = y := fun y => rdT_nat _ _ _ (by simp)
      have e2 : wrap64 (m + 1 + 1) = m + 2 := by rw [wrap_eq (by omega) (by omega)]; omega
      simp only [laws_markTileS.l0, Option.bind_some]
      rw [if_pos (by simp; omega), if_pos (by omega), Int.toNat_natCast, List.set_append_right _ _ (by omega), Nat.sub_self, List.set_cons_zero, r1, List.set_append_right _ _ (by omega), Nat.sub_self, List.set_cons_zero, r2, wrap_succ (by omega), wrap_eq (x := m + 1) (by omega) (by omega), e2]
      simp
theorem markTileS_ev (l : List S49) (h : l.length ≤ 1048576) : Ev (fun k => laws_markTileS.f k l 1) (1 + 2 * (l.length : Int), marksT 1 l.length) :=
  markTileS_loop l.length [] l 1 rfl (by omega) (by omega) (by simp; omega)
theorem heldTileS_loop : ∀ (d : Nat) (pre : List S49) (m : Int), 0 ≤ m → m + 2 * d ≤ 1000000000 → pre.length + d ≤ 1000000000 → Ev (fun k => laws_heldTileS.l0 k (pre ++ marksT m d) m (pre.length : Int)) (m + 2 * d) := by
  intro d
  induction d with
  | zero =>
    intro pre m hm hb hp
    refine ⟨1, fun k hk => ?_⟩
    obtain ⟨k, rfl⟩ : ∃ m, k = m + 1 := ⟨k - 1, by omega⟩
    simp only [laws_heldTileS.l0]
    rw [if_neg (by simp [marksT])]
    simp
  | succ d ih =>
    intro pre m hm hb hp
    have := ih (pre ++ [⟨m, m + 1⟩]) (m + 2) (by omega) (by omega) (by simp; omega)
    have e1 : m + 2 + 2 * (d : Int) = m + 2 * ((d + 1 : Nat) : Int) := by omega
    rw [e1, List.append_assoc] at this
    refine Ev.step (fun k => ?_) this
    have r1 : rd_T49 (pre ++ marksT m (d + 1)) (pre.length : Int) = ⟨m, m + 1⟩ := rdT_nat _ _ _ (by simp [marksT])
    have e2 : wrap64 (m + 1 + 1) = m + 2 := by rw [wrap_eq (by omega) (by omega)]; omega
    simp only [laws_heldTileS.l0]
    rw [if_pos (by simp [marksT]; omega), if_pos (by omega), r1, if_pos rfl, wrap_eq (x := m + 1) (by omega) (by omega), if_pos rfl, wrap_succ (by omega), e2]
    simp [marksT]
theorem heldTileS_ev (n : Nat) (h : n ≤ 1048576) : Ev (fun k => laws_heldTileS.f k (marksT 1 n) 1) (1 + 2 * (n : Int)) := heldTileS_loop n [] 1 (by omega) (by omega) (by simp; omega)
/-! rows of rows -/
def totSS {α : Type} : List (List α) → Nat
  | [] => 0
  | r :: rs => r.length + totSS rs
def marksSI (m : Int) : List (List Int) → List (List Int)
  | [] => []
  | r :: rs => marksI m r.length :: marksSI (m + r.length) rs
def marksST (m : Int) : List (List S49) → List (List S49)
  | [] => []
  | r :: rs => marksT m r.length :: marksST (m + 2 * r.length) rs
theorem marksSI_length : ∀ (rs : List (List Int)) (m : Int), (marksSI m rs).length = rs.length
  | [], _ => rfl
  | r :: rs, m => by rw [marksSI, List.length_cons, marksSI_length rs, List.length_cons]
theorem marksST_length : ∀ (rs : List (List S49)) (m : Int), (marksST m rs).length = rs.length
  | [], _ => rfl
  | r :: rs, m => by rw [marksST, List.length_cons, marksST_length rs, List.length_cons]
theorem totSS_le {α : Type} (b : Nat) : ∀ rs : List (List α), (∀ r ∈ rs, r.length ≤ b) → totSS rs ≤ rs.length * b
  | [], _ => Nat.zero_le _
  | r :: rs, h => by
    have h1 := h r List.mem_cons_self
    have h2 := totSS_le b rs fun x hx => h x (List.mem_cons_of_mem _ hx)
    rw [totSS, List.length_cons, Nat.succ_mul]; omega
theorem getD_mid {α : Type} (pre : List (List α)) (x : List α) (suf : List (List α)) : (pre ++ x :: suf).getD pre.length [] = x := by
  rw [List.getD_eq_getElem?_getD, List.getElem?_append_right (Nat.le_refl _), Nat.sub_self]; rfl
theorem rdSS_I (pre : List (List Int)) (x : List Int) (suf : List (List Int)) : rd_L3 (pre ++ x :: suf) (pre.length : Int) = x := by
  show (pre ++ x :: suf).getD (pre.length : Int).toNat _ = x
  rw [Int.toNat_natCast, getD_mid]
theorem eqIntSS_loop : ∀ (suf pre : List (List Int)), (∀ r ∈ suf, r.length ≤ 1000000) → (pre ++ suf).length ≤ 1000000000 → Ev (fun k => laws_eqIntSS.l0 k (pre ++ suf) (pre ++ suf) (pre.length : Int)) true
  | [], pre, _, hl => by
    refine ⟨1, fun k hk => ?_⟩
    obtain ⟨k, rfl⟩ : ∃ m, k = m + 1 := ⟨k - 1, by omega⟩
    simp only [laws_eqIntSS.l0]
    rw [if_neg (by simp)]
  | x :: suf, pre, h, hl => by
    have := eqIntSS_loop suf (pre ++ [x]) (fun r hr => h r (List.mem_cons_of_mem _ hr)) (by simpa using hl)
    rw [List.append_assoc, List.singleton_append] at this
    have hlt : pre.length < (pre ++ x :: suf).length := by simp
    have he := eqIntS_ev x x (by have := h x List.mem_cons_self; omega)
    rw [decide_eq_true rfl] at he
    refine Ev.step (f := fun k => (laws_eqIntS.f k x x).bind fun t => if t = true then laws_eqIntSS.l0 k (pre ++ x :: suf) (pre ++ x :: suf) ((pre ++ [x]).length : Int) else some false) (fun k => ?_) (Ev.bind he (Ev.congr (fun k => by rw [if_pos rfl]) this))
    simp only [laws_eqIntSS.l0]
    rw [if_pos (by omega), if_pos (by omega), if_pos (by omega), rdSS_I, wrap_succ (by omega)]
    simp
theorem eqIntSS_ev (a : List (List Int)) (h : ∀ r ∈ a, r.length ≤ 1000000) (hl : a.length ≤ 1000000) : Ev (fun k => laws_eqIntSS.f k a a) true := by
  have := eqIntSS_loop a [] h (by simpa using (by omega : a.length ≤ 1000000000))
  refine Ev.congr (fun k => ?_) this
  unfold laws_eqIntSS.f
  rw [if_pos rfl]; rfl
theorem markIntSS_loop : ∀ (suf pre : List (List Int)) (m : Int), (∀ r ∈ suf, r.length ≤ 10000) → 0 ≤ m → m + (totSS suf : Int) ≤ 10000000 → (pre ++ suf).length ≤ 1000000 → Ev (fun k => laws_markIntSS.l0 k (pre ++ suf) m (pre.length : Int)) (m + (totSS suf : Int), pre ++ marksSI m suf)
  | [], pre, m, _, _, _, hl => by
    refine ⟨1, fun k hk => ?_⟩
    obtain ⟨k, rfl⟩ : ∃ m, k = m + 1 := ⟨k - 1, by omega⟩
    simp only [laws_markIntSS.l0]
    rw [if_neg (by simp)]
    simp [totSS, marksSI]
  | x :: suf, pre, m, h, h0, hb, hl => by
    have hx := h x List.mem_cons_self
    rw [totSS] at hb ⊢
    have next := markIntSS_loop suf (pre ++ [marksI m x.length]) (m + (x.length : Int)) (fun r hr => h r (List.mem_cons_of_mem _ hr)) (by omega) (by omega) (by simpa using hl)
    rw [List.append_assoc, List.singleton_append, List.append_assoc, List.singleton_append] at next
    have hlt : pre.length < (pre ++ x :: suf).length := by simp
    have e1 : m + (x.length : Int) + (totSS suf : Int) = m + ((x.length + totSS suf : Nat) : Int) := by omega
    rw [e1] at next
    have hm := markIntS_loop x.length [] x m rfl h0 (by omega) (by simp; omega)
    simp only [List.nil_append, List.length_nil] at hm
    have hm2 : Ev (fun k => laws_markIntS.f k x m) (m + (x.length : Int), marksI m x.length) := hm
    have hs : (pre ++ x :: suf).set pre.length (marksI m x.length) = pre ++ marksI m x.length :: suf := by
      rw [List.set_append_right _ _ (Nat.le_refl _), Nat.sub_self, List.set_cons_zero]
    have next2 : Ev (fun k => laws_markIntSS.l0 k ((pre ++ x :: suf).set pre.length (marksI m x.length)) (m + (x.length : Int)) ((pre.length + 1 : Nat) : Int)) (m + ((x.length + totSS suf : Nat) : Int), pre ++ marksSI m (x :: suf)) := by
      rw [hs, marksSI]
      refine Ev.congr (fun k => ?_) next
      simp
    refine Ev.step (f := fun k => (laws_markIntS.f k x m).bind fun t => laws_markIntSS.l0 k ((pre ++ x :: suf).set pre.length t.2) t.1 ((pre.length + 1 : Nat) : Int)) (fun k => ?_) (Ev.bind (f := fun k t => laws_markIntSS.l0 k ((pre ++ x :: suf).set pre.length t.2) t.1 ((pre.length + 1 : Nat) : Int)) hm2 next2)
    simp only [laws_markIntSS.l0]
    rw [if_pos (by omega), if_pos (by omega), Int.toNat_natCast, getD_mid, wrap_succ (by omega)]
theorem markIntSS_ev (a : List (List Int)) (h : ∀ r ∈ a, r.length ≤ 1000) (hl : a.length ≤ 1000) : Ev (fun k => laws_markIntSS.f k a 1) (1 + (totSS a : Int), marksSI 1 a) := by
  have h2 := totSS_le 1000 a h
  have h3 : a.length * 1000 ≤ 1000 * 1000 := Nat.mul_le_mul_right _ hl
  exact markIntSS_loop a [] 1 (fun r hr => by have := h r hr; omega) (by omega) (by omega) (by simp; omega)
theorem heldIntSS_loop : ∀ (suf pre : List (List Int)) (m : Int), (∀ r ∈ suf, r.length ≤ 10000) → 0 ≤ m → m + (totSS suf : Int) ≤ 10000000 → (pre ++ suf).length ≤ 1000000 → Ev (fun k => laws_heldIntSS.l0 k (pre ++ marksSI m suf) m (pre.length : Int)) (m + (totSS suf : Int))
  | [], pre, m, _, _, _, hl => by
    refine ⟨1, fun k hk => ?_⟩
    obtain ⟨k, rfl⟩ : ∃ m, k = m + 1 := ⟨k - 1, by omega⟩
    simp only [laws_heldIntSS.l0]
    rw [if_neg (by simp [marksSI])]
    simp [totSS]
  | x :: suf, pre, m, h, h0, hb, hl => by
    have hx := h x List.mem_cons_self
    rw [totSS] at hb ⊢
    have next := heldIntSS_loop suf (pre ++ [marksI m x.length]) (m + (x.length : Int)) (fun r hr => h r (List.mem_cons_of_mem _ hr)) (by omega) (by omega) (by simpa using hl)
    rw [List.append_assoc, List.singleton_append] at next
    have hlt : pre.length < (pre ++ marksI m x.length :: marksSI (m + (x.length : Int)) suf).length := by simp
    have hll : (pre ++ x :: suf).length = pre.length + suf.length + 1 := by simp; omega
    have e1 : m + (x.length : Int) + (totSS suf : Int) = m + ((x.length + totSS suf : Nat) : Int) := by omega
    rw [e1] at next
    have hm := heldIntS_loop x.length [] m h0 (by omega) (by simp; omega)
    simp only [List.nil_append, List.length_nil] at hm
    have hm2 : Ev (fun k => laws_heldIntS.f k (marksI m x.length) m) (m + (x.length : Int)) := hm
    have hxn : ¬ (m + (x.length : Int)) < 0 := by omega
    rw [marksSI]
    have next2 : Ev (fun k => if (m + (x.length : Int)) < 0 then some (-1) else laws_heldIntSS.l0 k (pre ++ marksI m x.length :: marksSI (m + (x.length : Int)) suf) (m + (x.length : Int)) ((pre.length + 1 : Nat) : Int)) (m + ((x.length + totSS suf : Nat) : Int)) := by
      refine Ev.congr (fun k => ?_) next
      rw [if_neg hxn]
      simp
    refine Ev.step (f := fun k => (laws_heldIntS.f k (marksI m x.length) m).bind fun t => if t < 0 then some (-1) else laws_heldIntSS.l0 k (pre ++ marksI m x.length :: marksSI (m + (x.length : Int)) suf) t ((pre.length + 1 : Nat) : Int)) (fun k => ?_) (Ev.bind (f := fun k t => if t < 0 then some (-1) else laws_heldIntSS.l0 k (pre ++ marksI m x.length :: marksSI (m + (x.length : Int)) suf) t ((pre.length + 1 : Nat) : Int)) hm2 next2)
    simp only [laws_heldIntSS.l0]
    rw [if_pos (by omega), if_pos (by omega), rdSS_I, wrap_succ (by omega)]
theorem heldIntSS_ev (a : List (List Int)) (h : ∀ r ∈ a, r.length ≤ 1000) (hl : a.length ≤ 1000) : Ev (fun k => laws_heldIntSS.f k (marksSI 1 a) 1) (1 + (totSS a : Int)) := by
  have h2 := totSS_le 1000 a h
  have h3 : a.length * 1000 ≤ 1000 * 1000 := Nat.mul_le_mul_right _ hl
  exact heldIntSS_loop a [] 1 (fun r hr => by have := h r hr; omega) (by omega) (by omega) (by simp; omega)
theorem rdSS_T (pre : List (List S49)) (x : List S49) (suf : List (List S49)) : rd_L4 (pre ++ x :: suf) (pre.length : Int) = x := by
  show (pre ++ x :: suf).getD (pre.length : Int).toNat _ = x
  rw [Int.toNat_natCast, getD_mid]
theorem eqTileSS_loop : ∀ (suf pre : List (List S49)), (∀ r ∈ suf, r.length ≤ 1000000) → (pre ++ suf).length ≤ 1000000000 → Ev (fun k => laws_eqTileSS.l0 k (pre ++ suf) (pre ++ suf) (pre.length : Int)) true
  | [], pre, _, hl => by
    refine ⟨1, fun k hk => ?_⟩
    obtain ⟨k, rfl⟩ : ∃ m, k = m + 1 := ⟨k - 1, by omega⟩
    simp only [laws_eqTileSS.l0]
    rw [if_neg (by simp)]
  | x :: suf, pre, h, hl => by
    have := eqTileSS_loop suf (pre ++ [x]) (fun r hr => h r (List.mem_cons_of_mem _ hr)) (by simpa using hl)
    rw [List.append_assoc, List.singleton_append] at this
    have hlt : pre.length < (pre ++ x :: suf).length := by simp
    have he := eqTileS_ev x x (by have := h x List.mem_cons_self; omega)
    rw [decide_eq_true rfl] at he
    refine Ev.step (f := fun k => (laws_eqTileS.f k x x).bind fun t => if t = true then laws_eqTileSS.l0 k (pre ++ x :: suf) (pre ++ x :: suf) ((pre ++ [x]).length : Int) else some false) (fun k => ?_) (Ev.bind he (Ev.congr (fun k => by rw [if_pos rfl]) this))
    simp only [laws_eqTileSS.l0]
    rw [if_pos (by omega), if_pos (by omega), if_pos (by omega), rdSS_T, wrap_succ (by omega)]
    simp
theorem eqTileSS_ev (a : List (List S49)) (h : ∀ r ∈ a, r.length ≤ 1000000) (hl : a.length ≤ 1000000) : Ev (fun k => laws_eqTileSS.f k a a) true := by
  have := eqTileSS_loop a [] h (by simpa using (by omega : a.length ≤ 1000000000))
  refine Ev.congr (fun k => ?_) this
  unfold laws_eqTileSS.f
  rw [if_pos rfl]; rfl
theorem markTileSS_loop : ∀ (suf pre : List (List S49)) (m : Int), (∀ r ∈ suf, r.length ≤ 10000) → 0 ≤ m → m + 2 * (totSS suf : Int) ≤ 10000000 → (pre ++ suf).length ≤ 1000000 → Ev (fun k => laws_markTileSS.l0 k (pre ++ suf) m (pre.length : Int)) (m + 2 * (totSS suf : Int), pre ++ marksST m suf)
  | [], pre, m, _, _, _, hl => by
    refine ⟨1, fun k hk => ?_⟩
    obtain ⟨k, rfl⟩ : ∃ m, k = m + 1 := ⟨k - 1, by omega⟩
    simp only [laws_markTileSS.l0]
    rw [if_neg (by simp)]
    simp [totSS, marksST]
  | x :: suf, pre, m, h, h0, hb, hl => by
    have hx := h x List.mem_cons_self
    rw [totSS] at hb ⊢
    have next := markTileSS_loop suf (pre ++ [marksT m x.length]) (m + 2 * (x.length : Int)) (fun r hr => h r (List.mem_cons_of_mem _ hr)) (by omega) (by omega) (by simpa using hl)
    rw [List.append_assoc, List.singleton_append, List.append_assoc, List.singleton_append] at next
    have hlt : pre.length < (pre ++ x :: suf).length := by simp
    have e1 : m + 2 * (x.length : Int) + 2 * (totSS suf : Int) = m + 2 * ((x.length + totSS suf : Nat) : Int) := by omega
    rw [e1] at next
    have hm := markTileS_loop x.length [] x m rfl h0 (by omega) (by simp; omega)
    simp only [List.nil_append, List.length_nil] at hm
    have hm2 : Ev (fun k => laws_markTileS.f k x m) (m + 2 * (x.length : Int), marksT m x.length) := hm
    have hs : (pre ++ x :: suf).set pre.length (marksT m x.length) = pre ++ marksT m x.length :: suf := by
      rw [List.set_append_right _ _ (Nat.le_refl _), Nat.sub_self, List.set_cons_zero]
    have next2 : Ev (fun k => laws_markTileSS.l0 k ((pre ++ x :: suf).set pre.length (marksT m x.length)) (m + 2 * (x.length : Int)) ((pre.length + 1 : Nat) : Int)) (m + 2 * ((x.length + totSS suf : Nat) : Int), pre ++ marksST m (x :: suf)) := by
      rw [hs, marksST]
      refine Ev.congr (fun k => ?_) next
      simp
    refine Ev.step (f := fun k => (laws_markTileS.f k x m).bind fun t => laws_markTileSS.l0 k ((pre ++ x :: suf).set pre.length t.2) t.1 ((pre.length + 1 : Nat) : Int)) (fun k => ?_) (Ev.bind (f := fun k t => laws_markTileSS.l0 k ((pre ++ x :: suf).set pre.length t.2) t.1 ((pre.length + 1 : Nat) : Int)) hm2 next2)
    simp only [laws_markTileSS.l0]
    rw [if_pos (by omega), if_pos (by omega), Int.toNat_natCast, getD_mid, wrap_succ (by omega)]
theorem markTileSS_ev (a : List (List S49)) (h : ∀ r ∈ a, r.length ≤ 1000) (hl : a.length ≤ 1000) : Ev (fun k => laws_markTileSS.f k a 1) (1 + 2 * (totSS a : Int), marksST 1 a) := by
  have h2 := totSS_le 1000 a h
  have h3 : a.length * 1000 ≤ 1000 * 1000 := Nat.mul_le_mul_right _ hl
  exact markTileSS_loop a [] 1 (fun r hr => by have := h r hr; omega) (by omega) (by omega) (by simp; omega)
theorem heldTileSS_loop : ∀ (suf pre : List (List S49)) (m : Int), (∀ r ∈ suf, r.length ≤ 10000) → 0 ≤ m → m + 2 * (totSS suf : Int) ≤ 10000000 → (pre ++ suf).length ≤ 1000000 → Ev (fun k => laws_heldTileSS.l0 k (pre ++ marksST m suf) m (pre.length : Int)) (m + 2 * (totSS suf : Int))
  | [], pre, m, _, _, _, hl => by
    refine ⟨1, fun k hk => ?_⟩
    obtain ⟨k, rfl⟩ : ∃ m, k = m + 1 := ⟨k - 1, by omega⟩
    simp only [laws_heldTileSS.l0]
    rw [if_neg (by simp [marksST])]
    simp [totSS]
  | x :: suf, pre, m, h, h0, hb, hl => by
    have hx := h x List.mem_cons_self
    rw [totSS] at hb ⊢
    have next := heldTileSS_loop suf (pre ++ [marksT m x.length]) (m + 2 * (x.length : Int)) (fun r hr => h r (List.mem_cons_of_mem _ hr)) (by omega) (by omega) (by simpa using hl)
    rw [List.append_assoc, List.singleton_append] at next
    have hlt : pre.length < (pre ++ marksT m x.length :: marksST (m + 2 * (x.length : Int)) suf).length := by simp
    have hll : (pre ++ x :: suf).length = pre.length + suf.length + 1 := by simp; omega
    have e1 : m + 2 * (x.length : Int) + 2 * (totSS suf : Int) = m + 2 * ((x.length + totSS suf : Nat) : Int) := by omega
    rw [e1] at next
    have hm := heldTileS_loop x.length [] m h0 (by omega) (by simp; omega)
    simp only [List.nil_append, List.length_nil] at hm
    have hm2 : Ev (fun k => laws_heldTileS.f k (marksT m x.length) m) (m + 2 * (x.length : Int)) := hm
    have hxn : ¬ (m + 2 * (x.length : Int)) < 0 := by omega
    rw [marksST]
    have next2 : Ev (fun k => if (m + 2 * (x.length : Int)) < 0 then some (-1) else laws_heldTileSS.l0 k (pre ++ marksT m x.length :: marksST (m + 2 * (x.length : Int)) suf) (m + 2 * (x.length : Int)) ((pre.length + 1 : Nat) : Int)) (m + 2 * ((x.length + totSS suf : Nat) : Int)) := by
      refine Ev.congr (fun k => ?_) next
      rw [if_neg hxn]
      simp
    refine Ev.step (f := fun k => (laws_heldTileS.f k (marksT m x.length) m).bind fun t => if t < 0 then some (-1) else laws_heldTileSS.l0 k (pre ++ marksT m x.length :: marksST (m + 2 * (x.length : Int)) suf) t ((pre.length + 1 : Nat) : Int)) (fun k => ?_) (Ev.bind (f := fun k t => if t < 0 then some (-1) else laws_heldTileSS.l0 k (pre ++ marksT m x.length :: marksST (m + 2 * (x.length : Int)) suf) t ((pre.length + 1 : Nat) : Int)) hm2 next2)
    simp only [laws_heldTileSS.l0]
    rw [if_pos (by omega), if_pos (by omega), rdSS_T, wrap_succ (by omega)]
theorem heldTileSS_ev (a : List (List S49)) (h : ∀ r ∈ a, r.length ≤ 1000) (hl : a.length ≤ 1000) : Ev (fun k => laws_heldTileSS.f k (marksST 1 a) 1) (1 + 2 * (totSS a : Int)) := by
  have h2 := totSS_le 1000 a h
  have h3 : a.length * 1000 ≤ 1000 * 1000 := Nat.mul_le_mul_right _ hl
  exact heldTileSS_loop a [] 1 (fun r hr => by have := h r hr; omega) (by omega) (by omega) (by simp; omega)

end Go.Proofs.Ytfkohligcikfbaa.Q
