/- Plain lists and numbers: what the program's functions and the reference's compute. -/
import Derived.Test.YtnooegfhffhfpaaP0
import Derived.Test.YtnooegfhffhfpaaPIa
import Derived.Test.YtnooegfhffhfpaaPIb
import Derived.Test.YtnooegfhffhfpaaPId
import Derived.Test.YtnooegfhffhfpaaPIf
import Derived.Test.YtnooegfhffhfpaaPLa
import Derived.Test.YtnooegfhffhfpaaPSa
import Derived.Test.YtnooegfhffhfpaaPSc
namespace Go.Proofs.Ytnooegfhffhfpaa.Q
open Go.RowKit Go.Proofs.Ytnooegfhffhfpaa.P Go.Proofs.YtnooegfhffhfpaaW.PrintWords Go.Proofs.YtnooegfhffhfpaaW.PrintLast Go.Proofs.YtnooegfhffhfpaaW.PrintMore
set_option linter.unusedVariables false
set_option linter.unusedSimpArgs false

/-! ScafE -/
/-! ### numbers -/
theorem wrap_eq {x : Int} (h0 : -9223372036854775808 ≤ x) (h1 : x ≤ 9223372036854775807) : wrap64 x = x := by unfold wrap64; omega
theorem wrap_succ {n : Nat} (h : n < 9223372036854775807) : wrap64 ((n : Int) + 1) = ((n + 1 : Nat) : Int) := by unfold wrap64; omega
/-! ### from some number of rounds on, as an equation -/
theorem Ev.at {α : Type} {g : Nat → Option α} {r : α} (h : Ev g r) : ∃ K, ∀ k, g (K + k) = some r := by
  obtain ⟨K, h⟩ := h
  exact ⟨K, fun k => h _ (by omega)⟩
theorem ev_of_at {α : Type} {g : Nat → Option α} {r : α} (K : Nat) (h : ∀ k, g (K + k) = some r) : Ev g r := ⟨K, fun k hk => by
  obtain ⟨m, rfl⟩ : ∃ m, k = K + m := ⟨k - K, by omega⟩
  exact h m⟩
theorem ev_const {α : Type} {g : Nat → Option α} {r : α} (h : ∀ k, g k = some r) : Ev g r := ⟨0, fun k _ => h k⟩
/-! ### lists of tiles: made, held against each other, marked -/
def convT (x : S41) : S39 := ⟨x.f0, x.f1⟩
theorem rdT_nat (xs : List S39) (i : Nat) (x : S39) (h : xs[i]? = some x) : rd_T39 xs (i : Int) = x := by
  show xs.getD (i : Int).toNat _ = x
  rw [Int.toNat_natCast, List.getD_eq_getElem?_getD, h]; rfl
theorem rdL_nat (xs : List S41) (i : Nat) (x : S41) (h : xs[i]? = some x) : rd_T41 xs (i : Int) = x := by
  show xs.getD (i : Int).toNat _ = x
  rw [Int.toNat_natCast, List.getD_eq_getElem?_getD, h]; rfl
theorem rd_nat (xs : List Int) (i : Nat) (x : Int) (h : xs[i]? = some x) : rd xs (i : Int) = x := by
  show xs.getD (i : Int).toNat _ = x
  rw [Int.toNat_natCast, List.getD_eq_getElem?_getD, h]; rfl
theorem toTileS_loop (l : List S41) (hl : l.length ≤ 1048576) : ∀ d i (out : List S39), i + d = l.length → out = (l.map convT).take i ++ List.replicate d z39 → Ev (fun k => laws_toTileS.l0 k l out (i : Int)) (l.map convT) := by
  intro d
  induction d with
  | zero =>
    intro i out h ho
    refine ⟨1, fun k hk => ?_⟩
    obtain ⟨k, rfl⟩ : ∃ m, k = m + 1 := ⟨k - 1, by omega⟩
    simp only [laws_toTileS.l0]
    rw [if_neg (by omega), ho, List.take_of_length_le (by rw [List.length_map]; omega)]
    simp
  | succ d ih =>
    intro i out h ho
    have hi : i < l.length := by omega
    obtain ⟨x, hx⟩ : ∃ x, l[i]? = some x := ⟨_, List.getElem?_eq_getElem hi⟩
    have hlen : out.length = l.length := by rw [ho]; simp; omega
    have hout : out.set i (convT x) = (l.map convT).take (i + 1) ++ List.replicate d z39 := by
      have h1 : ((l.map convT).take i).length = i := by simp; omega
      rw [ho, List.set_append_right _ _ (by omega), h1, Nat.sub_self, List.replicate_succ, List.set_cons_zero, List.take_add_one]
      simp [hx]
    refine Ev.step (f := fun k => laws_toTileS.l0 k l (out.set i (convT x)) ((i + 1 : Nat) : Int)) (fun k => ?_) (ih (i + 1) _ (by omega) hout)
    simp only [laws_toTileS.l0, laws_toTile.f, Option.bind_some]
    rw [if_pos (by omega), if_pos (by omega), if_pos (by omega), rdL_nat l i x hx, wrap_succ (by omega), Int.toNat_natCast]
    rfl
theorem toTileS_ev (l : List S41) (hl : l.length ≤ 1048576) : Ev (fun k => laws_toTileS.f k l) (l.map convT) := by
  refine Ev.congr (f := fun k => laws_toTileS.l0 k l (List.replicate l.length z39) ((0 : Nat) : Int)) (fun k => ?_) (toTileS_loop l hl l.length 0 _ (by omega) (by simp))
  unfold laws_toTileS.f
  rw [if_pos (by omega), Int.toNat_natCast, if_pos (by omega)]
  rfl
theorem eqTile_some (a b : S39) : laws_eqTile.f a.f0 a.f1 b.f0 b.f1 = some (decide (a = b)) := by
  unfold laws_eqTile.f
  by_cases h : a.f0 = b.f0
  · rw [if_pos h]; by_cases h2 : a.f1 = b.f1
    · rw [if_pos h2]; simp [tile_ext, h, h2]
    · rw [if_neg h2]; simp [tile_ext, h2]
  · rw [if_neg h]; simp [tile_ext, h]
theorem eqTileS_loop (a b : List S39) (hl : a.length = b.length) (ha : a.length ≤ 9223372036854775800) : ∀ d i, i + d = a.length → Ev (fun k => laws_eqTileS.l0 k a b (i : Int)) (decide (a.drop i = b.drop i)) := by
  intro d
  induction d with
  | zero =>
    intro i h
    refine ⟨1, fun k hk => ?_⟩
    obtain ⟨k, rfl⟩ : ∃ m, k = m + 1 := ⟨k - 1, by omega⟩
    simp only [laws_eqTileS.l0]
    rw [if_neg (by omega), List.drop_of_length_le (by omega), List.drop_of_length_le (by omega)]
    simp
  | succ d ih =>
    intro i h
    have hi : i < a.length := by omega
    have hi2 : i < b.length := by omega
    have ex := List.getElem?_eq_getElem hi
    have ey := List.getElem?_eq_getElem hi2
    by_cases e : a[i] = b[i]
    · have hd : decide (a.drop i = b.drop i) = decide (a.drop (i + 1) = b.drop (i + 1)) := by
        rw [List.drop_eq_getElem_cons hi, List.drop_eq_getElem_cons hi2]
        simp only [List.cons.injEq, e, true_and]
      rw [hd]
      refine Ev.step (f := fun k => laws_eqTileS.l0 k a b ((i + 1 : Nat) : Int)) (fun k => ?_) (ih (i + 1) (by omega))
      simp only [laws_eqTileS.l0]
      rw [if_pos (by omega), if_pos (by omega), if_pos (by omega), rdT_nat a i _ ex, rdT_nat b i _ ey, eqTile_some, Option.bind_some, if_pos (by simp [e]), wrap_succ (by omega)]
    · have hd : decide (a.drop i = b.drop i) = false := by
        rw [List.drop_eq_getElem_cons hi, List.drop_eq_getElem_cons hi2]
        simp only [List.cons.injEq, e, false_and, decide_false]
      rw [hd]
      refine Ev.step (f := fun _ => some false) (fun k => ?_) (Ev.now _)
      simp only [laws_eqTileS.l0]
      rw [if_pos (by omega), if_pos (by omega), if_pos (by omega), rdT_nat a i _ ex, rdT_nat b i _ ey, eqTile_some, Option.bind_some, if_neg (by simp [e])]
theorem eqTileS_ev (a b : List S39) (ha : a.length ≤ 9223372036854775800) : Ev (fun k => laws_eqTileS.f k a b) (decide (a = b)) := by
  unfold laws_eqTileS.f
  by_cases h : a.length = b.length
  · have := eqTileS_loop a b h ha a.length 0 (by omega)
    simp only [List.drop_zero] at this
    refine Ev.congr (fun k => ?_) this
    rw [if_pos (by omega)]
    rfl
  · refine ⟨0, fun k _ => ?_⟩
    show (if _ then _ else _) = _
    rw [if_neg (by omega)]
    simp only [Option.some.injEq]
    symm
    rw [decide_eq_false_iff_not]
    intro e
    exact h (by rw [e])
theorem szTileS_big (l : List S41) (h : ¬ l.length ≤ 1048576) (hm : l.length ≤ maxLen) : laws_szTileS.f l 1048576 = some (-1) := by
  unfold laws_szTileS.f
  have : (1048576 : Int) - l.length < 0 := by omega
  have hm' : l.length ≤ 9223372036854775807 := by simpa [maxLen] using hm
  rw [wrap_eq (by omega) (by omega), if_pos this]
theorem szTileS_ok (l : List S41) (h : l.length ≤ 1048576) : laws_szTileS.f l 1048576 = some (1048576 - (l.length : Int)) := by
  unfold laws_szTileS.f
  rw [wrap_eq (by omega) (by omega), if_neg (by omega)]
/-! Scaf2E -/
theorem bind_true {α : Type} {g : Nat → Option Bool} {A B : Nat → Option α} {r : α} (hg : Ev g true) (h : Ev A r) : Ev (fun k => (g k).bind fun t => if t = true then A k else B k) r :=
  Ev.bind (f := fun k t => if t = true then A k else B k) hg (Ev.congr (fun k => by rw [if_pos rfl]) h)
theorem bind_false {α : Type} {g : Nat → Option Bool} {A B : Nat → Option α} {r : α} (hg : Ev g false) (h : Ev B r) : Ev (fun k => (g k).bind fun t => if t = true then A k else B k) r :=
  Ev.bind (f := fun k t => if t = true then A k else B k) hg (Ev.congr (fun k => by rw [if_neg (by decide)]) h)
/-! Times -/
/-- How often a number is in a list of tiles. -/
def timesT : List S39 → Int → Int
  | [], _ => 0
  | t :: l, n => (if t.f0 = n then 1 else 0) + (if t.f1 = n then 1 else 0) + timesT l n
theorem timesT_bd (l : List S39) (n : Int) : 0 ≤ timesT l n ∧ timesT l n ≤ 2 * l.length := by
  induction l with
  | nil => simp [timesT]
  | cons t l ih => simp only [timesT, List.length_cons]; split <;> split <;> omega
theorem timesT_append (a b : List S39) (n : Int) : timesT (a ++ b) n = timesT a n + timesT b n := by
  induction a with
  | nil => simp [timesT]
  | cons t l ih => simp only [timesT, List.cons_append, ih]; omega
theorem rdT_mid (pre : List S39) (x : S39) (suf : List S39) : rd_T39 (pre ++ x :: suf) (pre.length : Int) = x := rdT_nat _ _ _ (by simp)
theorem tiTimes_loop (n : Int) : ∀ (suf pre : List S39) (acc : Int), (pre ++ suf).length ≤ 1000000000 → 0 ≤ acc → acc + 2 * suf.length ≤ 4000000000000000000 → Ev (fun k => spec_tiTimes.l0 k n acc (pre ++ suf) ((pre ++ suf).length : Int) (pre.length : Int)) (acc + timesT suf n) := by
  intro suf
  induction suf with
  | nil =>
    intro pre acc hl ha hb
    refine ⟨1, fun k hk => ?_⟩
    obtain ⟨k, rfl⟩ : ∃ m, k = m + 1 := ⟨k - 1, by omega⟩
    simp only [spec_tiTimes.l0]
    rw [if_neg (by simp)]
    simp [timesT]
  | cons x suf ih =>
    intro pre acc hl ha hb
    have hlen : (pre ++ x :: suf).length = pre.length + suf.length + 1 := by simp; omega
    have h1 : (pre.length : Int) < ((pre ++ x :: suf).length : Int) := by omega
    have h2 : (0 : Int) ≤ (pre.length : Int) := by omega
    have hb' : acc + 2 * ((suf.length : Int) + 1) ≤ 4000000000000000000 := by simpa using hb
    have e0 : ((pre ++ [x]).length : Int) = ((pre.length + 1 : Nat) : Int) := by simp
    have key : ∀ a : Int, a = acc + (if x.f0 = n then 1 else 0) + (if x.f1 = n then 1 else 0) → Ev (fun k => spec_tiTimes.l0 k n a (pre ++ x :: suf) ((pre ++ x :: suf).length : Int) ((pre.length + 1 : Nat) : Int)) (acc + timesT (x :: suf) n) := by
      intro a ea
      have := ih (pre ++ [x]) a (by simpa using hl) (by rw [ea]; split <;> split <;> omega) (by rw [ea]; split <;> split <;> omega)
      rw [List.append_assoc, e0] at this
      rw [show acc + timesT (x :: suf) n = a + timesT suf n by rw [ea]; simp only [timesT]; omega]
      exact this
    have w1 : wrap64 (acc + 1) = acc + 1 := wrap_eq (by omega) (by omega)
    have w2 : wrap64 (acc + 1 + 1) = acc + 1 + 1 := wrap_eq (by omega) (by omega)
    by_cases c0 : x.f0 = n
    · by_cases c1 : x.f1 = n
      · refine Ev.step (fun k => ?_) (key (acc + 1 + 1) (by rw [if_pos c0, if_pos c1]))
        simp only [spec_tiTimes.l0]
        rw [if_pos h1, if_pos h2, if_pos h1, rdT_mid, if_pos c0, if_pos c1, w1, w2, wrap_succ (by omega)]
      · refine Ev.step (fun k => ?_) (key (acc + 1) (by rw [if_pos c0, if_neg c1]; omega))
        simp only [spec_tiTimes.l0]
        rw [if_pos h1, if_pos h2, if_pos h1, rdT_mid, if_pos c0, if_neg c1, w1, wrap_succ (by omega)]
    · by_cases c1 : x.f1 = n
      · refine Ev.step (fun k => ?_) (key (acc + 1) (by rw [if_neg c0, if_pos c1]; omega))
        simp only [spec_tiTimes.l0]
        rw [if_pos h1, if_pos h2, if_pos h1, rdT_mid, if_neg c0, if_pos c1, w1, wrap_succ (by omega)]
      · refine Ev.step (fun k => ?_) (key acc (by rw [if_neg c0, if_neg c1]; omega))
        simp only [spec_tiTimes.l0]
        rw [if_pos h1, if_pos h2, if_pos h1, rdT_mid, if_neg c0, if_neg c1, wrap_succ (by omega)]
theorem tiTimes_ev (l : List S39) (n : Int) (h : l.length ≤ 1000000000) : Ev (fun k => spec_tiTimes.f k l n) (timesT l n) := by
  have := tiTimes_loop n l [] 0 (by simpa using h) (by omega) (by omega)
  rw [Int.zero_add] at this
  exact this
theorem times_loop (n : Int) : ∀ (suf pre : List S39) (acc : Int), (pre ++ suf).length ≤ 1000000000 → 0 ≤ acc → acc + 2 * suf.length ≤ 4000000000000000000 → Ev (fun k => impl_times.l0 k n acc (pre ++ suf) ((pre ++ suf).length : Int) (pre.length : Int)) (acc + timesT suf n) := by
  intro suf
  induction suf with
  | nil =>
    intro pre acc hl ha hb
    refine ⟨1, fun k hk => ?_⟩
    obtain ⟨k, rfl⟩ : ∃ m, k = m + 1 := ⟨k - 1, by omega⟩
    simp only [impl_times.l0]
    rw [if_neg (by simp)]
    simp [timesT]
  | cons x suf ih =>
    intro pre acc hl ha hb
    have hlen : (pre ++ x :: suf).length = pre.length + suf.length + 1 := by simp; omega
    have h1 : (pre.length : Int) < ((pre ++ x :: suf).length : Int) := by omega
    have h2 : (0 : Int) ≤ (pre.length : Int) := by omega
    have hb' : acc + 2 * ((suf.length : Int) + 1) ≤ 4000000000000000000 := by simpa using hb
    have e0 : ((pre ++ [x]).length : Int) = ((pre.length + 1 : Nat) : Int) := by simp
    have hbit : ∀ a : Int, impl_bit.f (a == n) = some (if a = n then 1 else 0) := fun a => by
      unfold impl_bit.f
      by_cases e : a = n <;> simp [e]
    have w1 : wrap64 ((if x.f0 = n then 1 else 0) + (if x.f1 = n then 1 else 0)) = (if x.f0 = n then 1 else 0) + (if x.f1 = n then 1 else 0) := wrap_eq (by split <;> split <;> omega) (by split <;> split <;> omega)
    have w2 : wrap64 (acc + ((if x.f0 = n then 1 else 0) + (if x.f1 = n then 1 else 0))) = acc + ((if x.f0 = n then 1 else 0) + (if x.f1 = n then 1 else 0)) := wrap_eq (by split <;> split <;> omega) (by split <;> split <;> omega)
    have := ih (pre ++ [x]) (acc + ((if x.f0 = n then 1 else 0) + (if x.f1 = n then 1 else 0))) (by simpa using hl) (by split <;> split <;> omega) (by split <;> split <;> omega)
    rw [List.append_assoc, e0] at this
    rw [show acc + timesT (x :: suf) n = acc + ((if x.f0 = n then 1 else 0) + (if x.f1 = n then 1 else 0)) + timesT suf n by simp only [timesT]; omega]
    refine Ev.step (fun k => ?_) this
    simp only [impl_times.l0]
    rw [if_pos h1, if_pos h2, if_pos h1, rdT_mid, hbit, hbit, Option.bind_some, Option.bind_some, w1, w2, wrap_succ (by omega)]
    rfl
theorem times_ev (l : List S39) (n : Int) (h : l.length ≤ 1000000000) : Ev (fun k => impl_times.f k l n) (timesT l n) := by
  have := times_loop n l [] 0 (by simpa using h) (by omega) (by omega)
  rw [Int.zero_add] at this
  exact this
/-! NumsI -/
/-- i, i + 1, .., d of them. -/
def upFrom (i : Nat) : Nat → List Int
  | 0 => []
  | d + 1 => (i : Int) :: upFrom (i + 1) d
theorem upFrom_length (i d : Nat) : (upFrom i d).length = d := by
  induction d generalizing i with
  | zero => rfl
  | succ d ih => simp [upFrom, ih]
/-- The numbers that are in a list of tiles. -/
def numsT (l : List S39) : List Int := (upFrom 0 10).filter fun n => decide (timesT l n > 0)
theorem numsT_len (l : List S39) : (numsT l).length ≤ 10 := by
  have := List.length_filter_le (fun n => decide (timesT l n > 0)) (upFrom 0 10)
  rw [upFrom_length] at this
  exact this
theorem numbers_loop (l : List S39) (hl : l.length ≤ 1000000000) : ∀ d i (acc : List Int), i + d = 10 → acc.length ≤ i → Ev (fun k => impl_numbers.l0 k l acc (i : Int)) (acc ++ (upFrom i d).filter fun n => decide (timesT l n > 0)) := by
  intro d
  induction d with
  | zero =>
    intro i acc h ha
    refine ⟨1, fun k hk => ?_⟩
    obtain ⟨k, rfl⟩ : ∃ m, k = m + 1 := ⟨k - 1, by omega⟩
    simp only [impl_numbers.l0]
    rw [if_neg (by omega)]
    simp [upFrom]
  | succ d ih =>
    intro i acc h ha
    refine Ev.step (f := fun k => (impl_times.f k l (i : Int)).bind fun t => if t > 0 then (if acc.length < 17592186044416 then impl_numbers.l0 k l (acc ++ [(i : Int)]) ((i + 1 : Nat) : Int) else none) else impl_numbers.l0 k l acc ((i + 1 : Nat) : Int)) (fun k => ?_) (Ev.bind (times_ev l i hl) ?_)
    · simp only [impl_numbers.l0]
      rw [if_pos (by omega), wrap_succ (by omega)]
    · by_cases c : timesT l i > 0
      · have := ih (i + 1) (acc ++ [(i : Int)]) (by omega) (by simp; omega)
        rw [show acc ++ (upFrom i (d + 1)).filter (fun n => decide (timesT l n > 0)) = acc ++ [(i : Int)] ++ (upFrom (i + 1) d).filter (fun n => decide (timesT l n > 0)) by rw [upFrom, List.filter_cons, if_pos (by simpa using c)]; simp]
        exact Ev.congr (fun k => by rw [if_pos c, if_pos (by omega)]) this
      · have := ih (i + 1) acc (by omega) (by omega)
        rw [show acc ++ (upFrom i (d + 1)).filter (fun n => decide (timesT l n > 0)) = acc ++ (upFrom (i + 1) d).filter (fun n => decide (timesT l n > 0)) by rw [upFrom, List.filter_cons, if_neg (by simpa using c)]]
        exact Ev.congr (fun k => by rw [if_neg c]) this
theorem numbers_ev (l : List S39) (hl : l.length ≤ 1000000000) : Ev (fun k => impl_numbers.f k l) (numsT l) := by
  have := numbers_loop l hl 10 0 [] (by omega) (by simp)
  rw [List.nil_append] at this
  exact this
/-! Hand -/
theorem tiGood_some (x : S39) : spec_tiGood.f x.f0 x.f1 = some (goodT x) := by
  unfold spec_tiGood.f spec_l1In.f goodT
  by_cases h : x.f0 ≥ 0
  · rw [if_pos h]; by_cases h2 : x.f0 ≤ x.f1 <;> simp [h, h2]
  · rw [if_neg h]; simp [h]
theorem same_tile (x : S39) (a b : Int) : ((x.f0 == a && (x.f1 == b)) = true) ↔ x = ⟨a, b⟩ := by
  rw [tile_ext]; simp
theorem same_tile' (x : S39) (a b : Int) : ((a == x.f0 && (b == x.f1)) = true) ↔ x = ⟨a, b⟩ := by
  rw [tile_ext, Bool.and_eq_true, beq_iff_eq, beq_iff_eq]
  exact ⟨fun h => ⟨h.1.symm, h.2.symm⟩, fun h => ⟨h.1.symm, h.2.symm⟩⟩
/-- Where a tile stands in a list, -1 if it doesn't. -/
def placeT (l : List S39) (t : S39) : Int := idxB (fun x => decide (x = t)) l
theorem placeT_hit (l : List S39) (t : S39) (i : Nat) (h : l[i]? = some t) (hb : ∀ j, j < i → ∀ x, l[j]? = some x → x ≠ t) : placeT l t = i :=
  idxB_hit _ _ _ t h (by simp) (fun j hj x hx => by simpa using hb j hj x hx)
theorem placeT_miss (l : List S39) (t : S39) (h : t ∉ l) : placeT l t = -1 :=
  idxB_miss _ _ (fun j hj x hx => by simp; rintro rfl; exact h (List.mem_of_getElem? hx))
theorem placeT_nonneg (l : List S39) (t : S39) : placeT l t ≥ 0 ↔ t ∈ l := by
  have h := idxB_nonneg (fun x => decide (x = t)) l
  rw [← decide_eq_true_iff (p := placeT l t ≥ 0)]
  show decide (idxB _ l ≥ 0) = true ↔ _
  rw [h]; simp
theorem tiPlace_loop (l : List S39) (t : S39) (hl : l.length ≤ 9223372036854775800) : ∀ d i, i + d = l.length → (∀ j, j < i → ∀ x, l[j]? = some x → x ≠ t) → Ev (fun k => spec_tiPlace.l0 k l (l.length : Int) (i : Int) t.f0 t.f1) (placeT l t) := by
  intro d
  induction d with
  | zero =>
    intro i h hb
    refine ⟨1, fun k hk => ?_⟩
    obtain ⟨k, rfl⟩ : ∃ m, k = m + 1 := ⟨k - 1, by omega⟩
    simp only [spec_tiPlace.l0]
    rw [if_neg (by omega), placeT_miss]
    intro hm
    obtain ⟨j, hj⟩ := List.getElem?_of_mem hm
    exact hb j (by have := (List.getElem?_eq_some_iff.1 hj).1; omega) t hj rfl
  | succ d ih =>
    intro i h hb
    have hi : i < l.length := by omega
    have ex := List.getElem?_eq_getElem hi
    by_cases e : l[i] = t
    · refine Ev.step (f := fun _ => some (placeT l t)) (fun k => ?_) (Ev.now _)
      simp only [spec_tiPlace.l0]
      rw [if_pos (by omega), if_pos (by omega), if_pos (by omega), rdT_nat l i _ ex, if_pos ((same_tile _ _ _).2 e), placeT_hit l t i (by rw [ex, e]) hb]
    · refine Ev.step (f := fun k => spec_tiPlace.l0 k l (l.length : Int) ((i + 1 : Nat) : Int) t.f0 t.f1) (fun k => ?_) (ih (i + 1) (by omega) (fun j hj x hx => ?_))
      · simp only [spec_tiPlace.l0]
        rw [if_pos (by omega), if_pos (by omega), if_pos (by omega), rdT_nat l i _ ex, if_neg (fun h => e ((same_tile _ _ _).1 h)), wrap_succ (by omega)]
      · rcases Nat.lt_or_ge j i with hj2 | hj2
        · exact hb j hj2 x hx
        · obtain rfl : j = i := by omega
          rw [ex] at hx; cases hx; exact e
theorem tiPlace_ev (l : List S39) (t : S39) (hl : l.length ≤ 9223372036854775800) : Ev (fun k => spec_tiPlace.f k l t.f0 t.f1) (placeT l t) :=
  tiPlace_loop l t hl l.length 0 (by omega) (fun j hj => absurd hj (Nat.not_lt_zero _))
theorem index_loop (l : List S39) (t : S39) (hl : l.length ≤ 9223372036854775800) : ∀ d i, i + d = l.length → (∀ j, j < i → ∀ x, l[j]? = some x → x ≠ t) → Ev (fun k => slices_Index_Tile.l0 k l (l.length : Int) (i : Int) t.f0 t.f1) (placeT l t) := by
  intro d
  induction d with
  | zero =>
    intro i h hb
    refine ⟨1, fun k hk => ?_⟩
    obtain ⟨k, rfl⟩ : ∃ m, k = m + 1 := ⟨k - 1, by omega⟩
    simp only [slices_Index_Tile.l0]
    rw [if_neg (by omega), placeT_miss]
    intro hm
    obtain ⟨j, hj⟩ := List.getElem?_of_mem hm
    exact hb j (by have := (List.getElem?_eq_some_iff.1 hj).1; omega) t hj rfl
  | succ d ih =>
    intro i h hb
    have hi : i < l.length := by omega
    have ex := List.getElem?_eq_getElem hi
    by_cases e : l[i] = t
    · refine Ev.step (f := fun _ => some (placeT l t)) (fun k => ?_) (Ev.now _)
      simp only [slices_Index_Tile.l0]
      rw [if_pos (by omega), if_pos (by omega), if_pos (by omega), rdT_nat l i _ ex, if_pos ((same_tile' _ _ _).2 e), placeT_hit l t i (by rw [ex, e]) hb]
    · refine Ev.step (f := fun k => slices_Index_Tile.l0 k l (l.length : Int) ((i + 1 : Nat) : Int) t.f0 t.f1) (fun k => ?_) (ih (i + 1) (by omega) (fun j hj x hx => ?_))
      · simp only [slices_Index_Tile.l0]
        rw [if_pos (by omega), if_pos (by omega), if_pos (by omega), rdT_nat l i _ ex, if_neg (fun h => e ((same_tile' _ _ _).1 h)), wrap_succ (by omega)]
      · rcases Nat.lt_or_ge j i with hj2 | hj2
        · exact hb j hj2 x hx
        · obtain rfl : j = i := by omega
          rw [ex] at hx; cases hx; exact e
theorem index_ev (l : List S39) (t : S39) (hl : l.length ≤ 9223372036854775800) : Ev (fun k => slices_Index_Tile.f k l t.f0 t.f1) (placeT l t) :=
  index_loop l t hl l.length 0 (by omega) (fun j hj => absurd hj (Nat.not_lt_zero _))
theorem contains_ev (l : List S39) (t : S39) (hl : l.length ≤ 9223372036854775800) : Ev (fun k => slices_Contains_Tile.f k l t.f0 t.f1) (decide (t ∈ l)) := by
  unfold slices_Contains_Tile.f
  refine Ev.bind (index_ev l t hl) ?_
  refine ev_const (fun k => ?_)
  congr 1
  rw [decide_eq_decide]
  exact placeT_nonneg l t
theorem take_snoc {α : Type} (l : List α) (i : Nat) (x : α) (h : l[i]? = some x) : l.take (i + 1) = l.take i ++ [x] := by
  rw [List.take_add_one, h]; rfl
theorem nodup_snoc {α : Type} (l : List α) (x : α) : (l ++ [x]).Nodup ↔ l.Nodup ∧ x ∉ l := by
  rw [List.nodup_append]
  constructor
  · rintro ⟨h1, _, h3⟩
    exact ⟨h1, fun hx => h3 x hx x (by simp) rfl⟩
  · rintro ⟨h1, h2⟩
    exact ⟨h1, by simp, fun a ha b hb => by simp at hb; subst hb; rintro rfl; exact h2 ha⟩
theorem not_nodup_of {α : Type} (l : List α) (i : Nat) (x : α) (h : l[i]? = some x) (hm : x ∈ l.take i) : ¬ l.Nodup := by
  intro hn
  have h1 : (l.take (i + 1)).Nodup := List.Nodup.sublist (List.take_sublist _ _) hn
  rw [take_snoc l i x h, nodup_snoc] at h1
  exact h1.2 hm
/-- A hand, as the document has it. -/
def handB (l : List S39) : Bool := decide (l.length ≤ 55) && (l.all goodT && decide l.Nodup)
theorem tiHand_loop (l : List S39) (hl : l.length ≤ 55) : ∀ d i, i + d = l.length → (l.take i).all goodT = true → (l.take i).Nodup → Ev (fun k => spec_tiHand.l0 k l l (l.length : Int) (i : Int)) (l.all goodT && decide l.Nodup) := by
  intro d
  induction d with
  | zero =>
    intro i h hg hn
    refine ⟨1, fun k hk => ?_⟩
    obtain ⟨k, rfl⟩ : ∃ m, k = m + 1 := ⟨k - 1, by omega⟩
    rw [List.take_of_length_le (by omega)] at hg hn
    simp only [spec_tiHand.l0]
    rw [if_neg (by omega), hg, decide_eq_true hn]
    rfl
  | succ d ih =>
    intro i h hg hn
    have hi : i < l.length := by omega
    have ex := List.getElem?_eq_getElem hi
    have h1 : (i : Int) < (l.length : Int) := by omega
    by_cases hgi : goodT l[i] = true
    · by_cases hm : l[i] ∈ l.take i
      · have hf : (l.all goodT && decide l.Nodup) = false := by rw [decide_eq_false (not_nodup_of l i _ ex hm), Bool.and_false]
        rw [hf]
        refine Ev.step (f := fun k => (spec_tiPlace.f k (l.take i) l[i].f0 l[i].f1).bind fun t => if t ≥ 0 then some false else spec_tiHand.l0 k l l (l.length : Int) ((i + 1 : Nat) : Int)) (fun k => ?_) ?_
        · simp only [spec_tiHand.l0]
          rw [if_pos h1, if_pos (by omega), if_pos h1, rdT_nat l i _ ex, tiGood_some, hgi, Option.bind_some, if_pos rfl, if_pos (by omega), Int.toNat_natCast, wrap_succ (by omega)]
        · refine Ev.bind (tiPlace_ev (l.take i) l[i] (by simp; omega)) ?_
          exact ev_const (fun k => by rw [if_pos ((placeT_nonneg _ _).2 hm)])
      · have hsn := take_snoc l i _ ex
        refine Ev.step (f := fun k => (spec_tiPlace.f k (l.take i) l[i].f0 l[i].f1).bind fun t => if t ≥ 0 then some false else spec_tiHand.l0 k l l (l.length : Int) ((i + 1 : Nat) : Int)) (fun k => ?_) ?_
        · simp only [spec_tiHand.l0]
          rw [if_pos h1, if_pos (by omega), if_pos h1, rdT_nat l i _ ex, tiGood_some, hgi, Option.bind_some, if_pos rfl, if_pos (by omega), Int.toNat_natCast, wrap_succ (by omega)]
        · refine Ev.bind (tiPlace_ev (l.take i) l[i] (by simp; omega)) ?_
          refine Ev.congr (fun k => by rw [if_neg (fun h => hm ((placeT_nonneg _ _).1 h))]) (ih (i + 1) (by omega) ?_ ?_)
          · rw [hsn, List.all_append, hg]; simp [hgi]
          · rw [hsn, nodup_snoc]; exact ⟨hn, hm⟩
    · have hgi' : goodT l[i] = false := by simpa using hgi
      have hf : (l.all goodT && decide l.Nodup) = false := by
        have : l.all goodT = false := by rw [List.all_eq_false]; exact ⟨l[i], List.getElem_mem _, hgi⟩
        rw [this, Bool.false_and]
      rw [hf]
      refine Ev.step (f := fun _ => some false) (fun k => ?_) (Ev.now _)
      simp only [spec_tiHand.l0]
      rw [if_pos h1, if_pos (by omega), if_pos h1, rdT_nat l i _ ex, tiGood_some, hgi', Option.bind_some, if_neg (by decide)]
theorem tiHand_ev (l : List S39) : Ev (fun k => spec_tiHand.f k l) (handB l) := by
  unfold spec_tiHand.f handB
  by_cases h : l.length ≤ 55
  · refine Ev.congr (fun k => by rw [if_neg (by omega)]) ?_
    · rw [decide_eq_true h, Bool.true_and]
      exact tiHand_loop l h l.length 0 (by omega) (by simp) (by simp)
  · refine ev_const (fun k => ?_)
    rw [if_pos (by omega), decide_eq_false h]; rfl
theorem different_loop (l : List S39) (hl : l.length ≤ 9223372036854775800) : ∀ d i, i + d = l.length → (l.take i).Nodup → Ev (fun k => impl_areDifferent_Tile.l0 k l l (l.length : Int) (i : Int)) (decide l.Nodup) := by
  intro d
  induction d with
  | zero =>
    intro i h hn
    refine ⟨1, fun k hk => ?_⟩
    obtain ⟨k, rfl⟩ : ∃ m, k = m + 1 := ⟨k - 1, by omega⟩
    rw [List.take_of_length_le (by omega)] at hn
    simp only [impl_areDifferent_Tile.l0]
    rw [if_neg (by omega), decide_eq_true hn]
  | succ d ih =>
    intro i h hn
    have hi : i < l.length := by omega
    have ex := List.getElem?_eq_getElem hi
    have h1 : (i : Int) < (l.length : Int) := by omega
    have hstep : ∀ k, impl_areDifferent_Tile.l0 (k + 1) l l (l.length : Int) (i : Int) = (slices_Contains_Tile.f k (l.take i) l[i].f0 l[i].f1).bind fun t => if t = true then some false else impl_areDifferent_Tile.l0 k l l (l.length : Int) ((i + 1 : Nat) : Int) := fun k => by
      simp only [impl_areDifferent_Tile.l0]
      rw [if_pos h1, if_pos (by omega), if_pos h1, if_pos (by omega), rdT_nat l i _ ex, Int.toNat_natCast, wrap_succ (by omega)]
    refine Ev.step hstep (Ev.bind (contains_ev (l.take i) l[i] (by simp; omega)) ?_)
    by_cases hm : l[i] ∈ l.take i
    · rw [decide_eq_false (not_nodup_of l i _ ex hm)]
      exact ev_const (fun k => by rw [if_pos (decide_eq_true hm)])
    · have hsn := take_snoc l i _ ex
      refine Ev.congr (fun k => by rw [if_neg (by simpa using hm)]) (ih (i + 1) (by omega) ?_)
      rw [hsn, nodup_snoc]; exact ⟨hn, hm⟩
theorem different_ev (l : List S39) (hl : l.length ≤ 9223372036854775800) : Ev (fun k => impl_areDifferent_Tile.f k l) (decide l.Nodup) :=
  different_loop l hl l.length 0 (by omega) (by simp)
theorem IsHand_ev (l : List S39) : Ev (fun k => impl_IsHand.f k l) (handB l) := by
  unfold impl_IsHand.f handB
  by_cases h : l.length ≤ 55
  · rw [decide_eq_true h, Bool.true_and]
    by_cases hg : l.any (fun t => !goodT t) = true
    · have : l.all goodT = false := by rw [← Bool.not_eq_true', List.not_all_eq_any_not]; exact hg
      rw [this, Bool.false_and]
      exact ev_const (fun k => by rw [if_pos h, if_pos hg])
    · have hg' : l.all goodT = true := by
        have : (!l.all goodT) = false := by rw [List.not_all_eq_any_not]; simpa using hg
        simpa using this
      rw [hg', Bool.true_and]
      exact Ev.congr (fun k => by rw [if_pos h, if_neg hg]) (different_ev l (by omega))
  · rw [decide_eq_false h, Bool.false_and]
    exact ev_const (fun k => by rw [if_neg h])
theorem handB_len {l : List S39} (h : handB l = true) : l.length ≤ 55 := by
  unfold handB at h; simp at h; exact h.1
theorem handB_good {l : List S39} (h : handB l = true) : ∀ x ∈ l, goodT x = true := by
  unfold handB at h; simp at h; exact h.2.1
theorem handB_nodup {l : List S39} (h : handB l = true) : l.Nodup := by
  unfold handB at h; simp at h; exact h.2.2
theorem goodT_iff (t : S39) : goodT t = true ↔ 0 ≤ t.f0 ∧ t.f0 ≤ t.f1 ∧ t.f1 ≤ 9 := by
  unfold goodT; simp
/-! Graph -/
/-! ### numbers that hang together by tiles -/
inductive Conn (h : List S39) : Int → Int → Prop
  | refl (u : Int) : Conn h u u
  | fwd {u : Int} (t : S39) : Conn h u t.f0 → t ∈ h → Conn h u t.f1
  | bwd {u : Int} (t : S39) : Conn h u t.f1 → t ∈ h → Conn h u t.f0
theorem Conn.trans {h : List S39} {u v w : Int} (a : Conn h u v) (b : Conn h v w) : Conn h u w := by
  induction b with
  | refl => exact a
  | fwd t _ ht ih => exact .fwd t ih ht
  | bwd t _ ht ih => exact .bwd t ih ht
theorem Conn.symm {h : List S39} {u v : Int} (a : Conn h u v) : Conn h v u := by
  induction a with
  | refl => exact .refl _
  | fwd t _ ht ih => exact Conn.trans (.bwd t (.refl _) ht) ih
  | bwd t _ ht ih => exact Conn.trans (.fwd t (.refl _) ht) ih
/-- The labels of 0..9. -/
def val (l : List Int) (v : Int) : Int := rd l v
def stepL (l : List Int) (t : S39) : List Int := (l.set t.f0.toNat (min (val l t.f0) (val l t.f1))).set t.f1.toNat (min (val l t.f0) (val l t.f1))
def roundL (h : List S39) (l : List Int) : List Int := h.foldl stepL l
theorem val_set {l : List Int} (i : Int) (x v : Int) (hi : 0 ≤ i ∧ i < l.length) (hv : 0 ≤ v) : val (l.set i.toNat x) v = if v = i then x else val l v := by
  unfold val rd
  rw [List.getD_eq_getElem?_getD, List.getD_eq_getElem?_getD]
  by_cases e : v = i
  · subst e
    rw [if_pos rfl, List.getElem?_set_self (by omega)]; rfl
  · rw [if_neg e, List.getElem?_set_ne (by omega)]
theorem stepL_length (l : List Int) (t : S39) : (stepL l t).length = l.length := by simp [stepL]
theorem val_step {l : List Int} (hl : l.length = 10) {t : S39} (ht : goodT t = true) (v : Int) (hv : 0 ≤ v) : val (stepL l t) v = if v = t.f0 ∨ v = t.f1 then min (val l t.f0) (val l t.f1) else val l v := by
  rw [goodT_iff] at ht
  unfold stepL
  rw [val_set _ _ _ (by rw [List.length_set]; omega) hv, val_set _ _ _ (by omega) hv]
  by_cases e1 : v = t.f1
  · rw [if_pos e1, if_pos (.inr e1)]
  · rw [if_neg e1]
    by_cases e0 : v = t.f0
    · rw [if_pos e0, if_pos (.inl e0)]
    · rw [if_neg e0, if_neg (fun c => c.elim e0 e1)]
/-- Labels that are numbers of the same set, none greater than the number itself. -/
structure LabOk (h : List S39) (l : List Int) : Prop where
  len : l.length = 10
  conn : ∀ v, 0 ≤ v → v ≤ 9 → Conn h v (val l v)
  lo : ∀ v, 0 ≤ v → v ≤ 9 → 0 ≤ val l v
  le : ∀ v, 0 ≤ v → v ≤ 9 → val l v ≤ v
theorem LabOk.step {h : List S39} {l : List Int} (H : LabOk h l) {t : S39} (ht : goodT t = true) (hm : t ∈ h) : LabOk h (stepL l t) := by
  have hg := (goodT_iff t).1 ht
  have c0 := H.conn t.f0 (by omega) (by omega)
  have c1 := H.conn t.f1 (by omega) (by omega)
  have l0 := H.lo t.f0 (by omega) (by omega)
  have l1 := H.lo t.f1 (by omega) (by omega)
  have e0 := H.le t.f0 (by omega) (by omega)
  have e1 := H.le t.f1 (by omega) (by omega)
  have h01 : Conn h t.f0 t.f1 := .fwd t (.refl _) hm
  refine ⟨by rw [stepL_length, H.len], fun v hv h9 => ?_, fun v hv h9 => ?_, fun v hv h9 => ?_⟩
  · rw [val_step H.len ht v hv]
    by_cases e : v = t.f0 ∨ v = t.f1
    · rw [if_pos e]
      have hv0 : Conn h v t.f0 := by
        rcases e with rfl | rfl
        · exact .refl _
        · exact h01.symm
      rcases Int.le_total (val l t.f0) (val l t.f1) with c | c
      · rw [Int.min_eq_left c]; exact hv0.trans c0
      · rw [Int.min_eq_right c]; exact (hv0.trans h01).trans c1
    · rw [if_neg e]; exact H.conn v hv h9
  · rw [val_step H.len ht v hv]
    split
    · omega
    · exact H.lo v hv h9
  · rw [val_step H.len ht v hv]
    split
    next e => rcases e with rfl | rfl <;> omega
    · exact H.le v hv h9
theorem step_le {l : List Int} (hl : l.length = 10) {t : S39} (ht : goodT t = true) (v : Int) (hv : 0 ≤ v) : val (stepL l t) v ≤ val l v := by
  rw [val_step hl ht v hv]
  split
  next e => rcases e with rfl | rfl <;> omega
  · exact Int.le_refl _
theorem LabOk.fold {h : List S39} : ∀ (r : List S39) (l : List Int), LabOk h l → (∀ t ∈ r, goodT t = true ∧ t ∈ h) → LabOk h (r.foldl stepL l) ∧ ∀ v, 0 ≤ v → val (r.foldl stepL l) v ≤ val l v
  | [], l, H, _ => ⟨H, fun v _ => Int.le_refl _⟩
  | t :: r, l, H, hr => by
    obtain ⟨h1, h2⟩ := hr t List.mem_cons_self
    obtain ⟨a, b⟩ := LabOk.fold r (stepL l t) (H.step h1 h2) (fun x hx => hr x (List.mem_cons_of_mem _ hx))
    exact ⟨a, fun v hv => Int.le_trans (b v hv) (step_le H.len h1 v hv)⟩
/-- The least number that hangs together with v. -/
def IsLeast (h : List S39) (v c : Int) : Prop := Conn h v c ∧ 0 ≤ c ∧ ∀ w, 0 ≤ w → Conn h v w → c ≤ w
theorem conn_dom {h : List S39} (hg : ∀ t ∈ h, goodT t = true) {u v : Int} (c : Conn h u v) (hu : 0 ≤ u ∧ u ≤ 9) : 0 ≤ v ∧ v ≤ 9 := by
  induction c with
  | refl => exact hu
  | fwd t _ ht ih => have := (goodT_iff t).1 (hg t ht); omega
  | bwd t _ ht ih => have := (goodT_iff t).1 (hg t ht); omega
theorem least_exists (h : List S39) (v : Int) : ∀ n : Nat, ∀ u : Int, 0 ≤ u → u ≤ n → Conn h v u → ∃ c, IsLeast h v c := by
  intro n
  induction n with
  | zero =>
    intro u h0 h1 hc
    obtain rfl : u = 0 := by omega
    exact ⟨0, hc, Int.le_refl _, fun w hw _ => hw⟩
  | succ n ih =>
    intro u h0 h1 hc
    by_cases e : ∃ w : Int, 0 ≤ w ∧ w ≤ n ∧ Conn h v w
    · obtain ⟨w, w0, w1, w2⟩ := e
      exact ih w w0 w1 w2
    · refine ⟨u, hc, h0, fun w hw hcw => ?_⟩
      rcases Int.lt_or_le w u with c | c
      · exact absurd ⟨w, hw, by omega, hcw⟩ e
      · exact c
theorem least_of (h : List S39) (v : Int) (hv : 0 ≤ v) : ∃ c, IsLeast h v c := least_exists h v v.toNat v hv (by omega) (.refl _)
theorem IsLeast.move {h : List S39} {u v c : Int} (H : IsLeast h u c) (hc : Conn h u v) : IsLeast h v c := ⟨hc.symm.trans H.1, H.2.1, fun w hw hcw => H.2.2 w hw (hc.trans hcw)⟩
theorem IsLeast.self {h : List S39} {v c : Int} (H : IsLeast h v c) : IsLeast h c c := H.move H.1
theorem IsLeast.eq {h : List S39} {v c d : Int} (H : IsLeast h v c) (G : IsLeast h v d) : c = d := by
  have := H.2.2 d G.2.1 G.1
  have := G.2.2 c H.2.1 H.1
  omega
/-- The labels are at their ends where both ends of each tile bear the same. -/
theorem fixed_least {h : List S39} {l : List Int} (hg : ∀ t ∈ h, goodT t = true) (H : LabOk h l) (hf : ∀ t ∈ h, val l t.f0 = val l t.f1) (v : Int) (hv : 0 ≤ v) (h9 : v ≤ 9) : IsLeast h v (val l v) := by
  obtain ⟨c, hc⟩ := least_of h v hv
  have hcd := conn_dom hg hc.1 ⟨hv, h9⟩
  have key : ∀ u w, Conn h u w → 0 ≤ u → u ≤ 9 → val l u = val l w := by
    intro u w k
    induction k with
    | refl => intro _ _; rfl
    | fwd t _ ht ih => intro a b; rw [ih a b, hf t ht]
    | bwd t _ ht ih => intro a b; rw [ih a b, hf t ht]
  have e := key v c hc.1 hv h9
  have h1 := H.le c hcd.1 hcd.2
  have h2 := hc.2.2 (val l v) (H.lo v hv h9) (H.conn v hv h9)
  have : val l v = c := by omega
  rw [this]; exact hc
theorem countP_lt {α : Type} {p q : α → Bool} : ∀ l : List α, (∀ x ∈ l, p x = true → q x = true) → (∃ x ∈ l, q x = true ∧ p x = false) → l.countP p < l.countP q
  | [], _, h => by obtain ⟨x, hx, _⟩ := h; cases hx
  | y :: l, hi, h => by
    have hle : l.countP p ≤ l.countP q := List.countP_mono_left fun x hx hp => hi x (List.mem_cons_of_mem _ hx) hp
    rw [List.countP_cons, List.countP_cons]
    obtain ⟨x, hx, h1, h2⟩ := h
    rcases List.mem_cons.1 hx with rfl | hx
    · rw [h1, h2]; simp; omega
    · have := countP_lt l (fun z hz => hi z (List.mem_cons_of_mem _ hz)) ⟨x, hx, h1, h2⟩
      by_cases c : p y = true
      · rw [if_pos c, if_pos (hi y List.mem_cons_self c)]; omega
      · rw [if_neg c]; omega
/-- Behind a round both ends of a tile that had the least label at one bear it. -/
theorem round_spreads {h : List S39} {c : Int} : ∀ (r : List S39) (l : List Int), LabOk h l → (∀ t ∈ r, goodT t = true ∧ t ∈ h) → ∀ t ∈ r, IsLeast h t.f0 c → (val l t.f0 = c ∨ val l t.f1 = c) → val (r.foldl stepL l) t.f0 = c ∧ val (r.foldl stepL l) t.f1 = c
  | [], l, _, _, t, ht, _, _ => by cases ht
  | x :: r, l, H, hr, t, ht, hl, hv => by
    obtain ⟨g1, g2⟩ := hr x List.mem_cons_self
    have H1 := H.step g1 g2
    have hr' : ∀ t ∈ r, goodT t = true ∧ t ∈ h := fun y hy => hr y (List.mem_cons_of_mem _ hy)
    obtain ⟨H2, hle⟩ := LabOk.fold r (stepL l x) H1 hr'
    obtain ⟨tg1, tg2⟩ := hr t ht
    have tg := (goodT_iff t).1 tg1
    have hc1 : IsLeast h t.f1 c := hl.move (.fwd t (.refl _) tg2)
    have low0 : ∀ l', LabOk h l' → c ≤ val l' t.f0 := fun l' H' => hl.2.2 _ (H'.lo _ (by omega) (by omega)) (H'.conn _ (by omega) (by omega))
    have low1 : ∀ l', LabOk h l' → c ≤ val l' t.f1 := fun l' H' => hc1.2.2 _ (H'.lo _ (by omega) (by omega)) (H'.conn _ (by omega) (by omega))
    rcases List.mem_cons.1 ht with e | ht'
    · subst e
      have v0 : val (stepL l t) t.f0 = c := by
        rw [val_step H.len g1 _ (by omega), if_pos (.inl rfl)]
        have a := low0 l H
        have b := low1 l H
        rcases hv with e | e <;> omega
      have v1 : val (stepL l t) t.f1 = c := by
        rw [val_step H.len g1 _ (by omega), if_pos (.inr rfl)]
        have a := low0 l H
        have b := low1 l H
        rcases hv with e | e <;> omega
      have a0 := hle t.f0 (by omega)
      have a1 := hle t.f1 (by omega)
      have b0 := low0 _ H2
      have b1 := low1 _ H2
      exact ⟨by simp only [List.foldl_cons]; omega, by simp only [List.foldl_cons]; omega⟩
    · refine round_spreads r (stepL l x) H1 hr' t ht' hl ?_
      rcases hv with e | e
      · left
        have := step_le H.len g1 t.f0 (by omega)
        have := low0 _ H1
        omega
      · right
        have := step_le H.len g1 t.f1 (by omega)
        have := low1 _ H1
        omega
def roundsL (h : List S39) : Nat → List Int → List Int
  | 0, l => l
  | n + 1, l => roundsL h n (roundL h l)
/-- As many rounds as there are tiles are enough. -/
theorem rounds_least {h : List S39} (hg : ∀ t ∈ h, goodT t = true) (c : Int) : ∀ (n m : Nat) (l : List Int), LabOk h l → n + m = h.length → ((∀ v, 0 ≤ v → v ≤ 9 → IsLeast h v c → val l v = c) ∨ m ≤ h.countP fun t => decide (val l t.f0 = c) && decide (val l t.f1 = c)) → ∀ v, 0 ≤ v → v ≤ 9 → IsLeast h v c → val (roundsL h n l) v = c := by
  have hall : ∀ t ∈ h, goodT t = true ∧ t ∈ h := fun t ht => ⟨hg t ht, ht⟩
  have done : ∀ l, LabOk h l → (∀ t ∈ h, IsLeast h t.f0 c → (val l t.f0 = c ↔ val l t.f1 = c)) → ∀ v, 0 ≤ v → v ≤ 9 → IsLeast h v c → val l v = c := by
    intro l H hcl v h0 h9 hv
    have hcd := conn_dom hg hv.1 ⟨h0, h9⟩
    have hself := hv.self
    have hcc : val l c = c := by
      have a := H.le c hcd.1 hcd.2
      have b := hself.2.2 _ (H.lo c hcd.1 hcd.2) (H.conn c hcd.1 hcd.2)
      omega
    have key : ∀ u w, Conn h u w → u = c → val l w = c := by
      intro u w k
      induction k with
      | refl => rintro rfl; exact hcc
      | fwd t k ht ih =>
        rintro rfl
        have := ih rfl
        exact (hcl t ht (hself.move k)).1 this
      | bwd t k ht ih =>
        rintro rfl
        have := ih rfl
        exact (hcl t ht ((hself.move k).move (.bwd t (.refl _) ht))).2 this
    exact key c v hv.1.symm rfl
  intro n
  induction n with
  | zero =>
    intro m l H hnm hc v h0 h9 hv
    rcases hc with hc | hc
    · exact hc v h0 h9 hv
    · refine done l H ?_ v h0 h9 hv
      have : h.countP (fun t => decide (val l t.f0 = c) && decide (val l t.f1 = c)) = h.length := by
        have := List.countP_le_length (p := fun t => decide (val l t.f0 = c) && decide (val l t.f1 = c)) (l := h)
        omega
      rw [List.countP_eq_length] at this
      intro t ht _
      have := this t ht
      simp only [Bool.and_eq_true, decide_eq_true_eq] at this
      exact ⟨fun _ => this.2, fun _ => this.1⟩
  | succ n ih =>
    intro m l H hnm hc v h0 h9 hv
    obtain ⟨H2, hle⟩ := LabOk.fold h l H hall
    have keep : ∀ u, 0 ≤ u → u ≤ 9 → IsLeast h u c → val l u = c → val (roundL h l) u = c := by
      intro u u0 u9 hu e
      have a := hle u u0
      have b := hu.2.2 _ (H2.lo u u0 u9) (H2.conn u u0 u9)
      show val (h.foldl stepL l) u = c
      omega
    refine ih (m + 1) (roundL h l) H2 (by omega) ?_ v h0 h9 hv
    rcases hc with hc | hc
    · exact .inl fun u u0 u9 hu => keep u u0 u9 hu (hc u u0 u9 hu)
    · by_cases hcl : ∀ t ∈ h, IsLeast h t.f0 c → (val l t.f0 = c ↔ val l t.f1 = c)
      · have hd := done l H hcl
        exact .inl fun u u0 u9 hu => keep u u0 u9 hu (hd u u0 u9 hu)
      · right
        have : ∃ t, t ∈ h ∧ IsLeast h t.f0 c ∧ ¬ (val l t.f0 = c ↔ val l t.f1 = c) := by
          apply Classical.byContradiction
          intro hno
          exact hcl fun t ht hl => Classical.byContradiction fun hn => hno ⟨t, ht, hl, hn⟩
        obtain ⟨t, ht, hl, hn⟩ := this
        have hlt := countP_lt (p := fun t => decide (val l t.f0 = c) && decide (val l t.f1 = c)) (q := fun t => decide (val (roundL h l) t.f0 = c) && decide (val (roundL h l) t.f1 = c)) h (fun x hx hp => by
          simp only [Bool.and_eq_true, decide_eq_true_eq] at hp ⊢
          have gx := (goodT_iff x).1 (hg x hx)
          have cx := H.conn x.f0 (by omega) (by omega)
          rw [hp.1] at cx
          have hlx : IsLeast h x.f0 c := by
            have := hv.self
            exact this.move cx.symm
          exact round_spreads h l H hall x hx hlx (.inl hp.1)) ⟨t, ht, by
            have hor : val l t.f0 = c ∨ val l t.f1 = c := by
              apply Classical.byContradiction
              intro hno
              exact hn ⟨fun e => absurd (.inl e) hno, fun e => absurd (.inr e) hno⟩
            have := round_spreads h l H hall t ht hl hor
            simp only [Bool.and_eq_true, decide_eq_true_eq]
            exact this, by
            rw [Bool.and_eq_false_iff, decide_eq_false_iff_not, decide_eq_false_iff_not]
            apply Classical.byContradiction
            intro hno
            apply hn
            constructor
            · intro e
              apply Classical.byContradiction
              intro e2
              exact hno (.inr e2)
            · intro e
              apply Classical.byContradiction
              intro e2
              exact hno (.inl e2)⟩
        omega
theorem labels0 (h : List S39) : LabOk h [0, 1, 2, 3, 4, 5, 6, 7, 8, 9] := by
  have hv : ∀ v : Int, 0 ≤ v → v ≤ 9 → val [0, 1, 2, 3, 4, 5, 6, 7, 8, 9] v = v := by
    intro v h0 h9
    have : v = 0 ∨ v = 1 ∨ v = 2 ∨ v = 3 ∨ v = 4 ∨ v = 5 ∨ v = 6 ∨ v = 7 ∨ v = 8 ∨ v = 9 := by omega
    rcases this with rfl | rfl | rfl | rfl | rfl | rfl | rfl | rfl | rfl | rfl <;> rfl
  exact ⟨rfl, fun v h0 h9 => by rw [hv v h0 h9]; exact .refl _, fun v h0 h9 => by rw [hv v h0 h9]; exact h0, fun v h0 h9 => by rw [hv v h0 h9]; exact Int.le_refl _⟩
theorem groups_least {h : List S39} (hg : ∀ t ∈ h, goodT t = true) (v : Int) (h0 : 0 ≤ v) (h9 : v ≤ 9) : IsLeast h v (val (roundsL h h.length [0, 1, 2, 3, 4, 5, 6, 7, 8, 9]) v) := by
  obtain ⟨c, hc⟩ := least_of h v h0
  have := rounds_least hg c h.length 0 _ (labels0 h) (by omega) (.inr (Nat.zero_le _)) v h0 h9 hc
  rw [this]; exact hc
/-! Groups -/
theorem mn_min (a b : Int) : mn a b = min a b := by unfold mn; split <;> omega
theorem stepN_L (l : List Int) (t : S39) : stepN l t = stepL l t := by
  unfold stepN stepL val
  rw [mn_min]
theorem roundsN_L (h : List S39) : ∀ n l, roundsN h n l = roundsL h n l
  | 0, _ => rfl
  | n + 1, l => by
    have : h.foldl stepN l = roundL h l := by
      unfold roundL
      congr 1
      funext a b
      exact stepN_L a b
    rw [roundsN, roundsL, this, roundsN_L h n]
theorem times_pos (h : List S39) (n : Int) : timesT h n > 0 ↔ ∃ t ∈ h, t.f0 = n ∨ t.f1 = n := by
  induction h with
  | nil => simp [timesT]
  | cons t h ih =>
    have hb := timesT_bd h n
    simp only [timesT, List.mem_cons]
    constructor
    · intro hp
      by_cases c0 : t.f0 = n
      · exact ⟨t, .inl rfl, .inl c0⟩
      · by_cases c1 : t.f1 = n
        · exact ⟨t, .inl rfl, .inr c1⟩
        · rw [if_neg c0, if_neg c1] at hp
          obtain ⟨u, hu, h2⟩ := ih.1 (by omega)
          exact ⟨u, .inr hu, h2⟩
    · rintro ⟨u, rfl | hu, h2⟩
      · rcases h2 with c | c
        · rw [if_pos c]; split <;> omega
        · rw [if_pos c]; split <;> omega
      · have := ih.2 ⟨u, hu, h2⟩
        split <;> split <;> omega
theorem mem_upFrom (d : Nat) : ∀ (i : Nat) (n : Int), n ∈ upFrom i d ↔ (i : Int) ≤ n ∧ n < ((i + d : Nat) : Int) := by
  induction d with
  | zero => intro i n; simp [upFrom]
  | succ d ih =>
    intro i n
    rw [upFrom, List.mem_cons, ih (i + 1) n]
    omega
theorem mem_numsT {h : List S39} (hg : ∀ t ∈ h, goodT t = true) (n : Int) : n ∈ numsT h ↔ ∃ t ∈ h, t.f0 = n ∨ t.f1 = n := by
  unfold numsT
  rw [List.mem_filter, mem_upFrom, decide_eq_true_eq, times_pos]
  constructor
  · exact fun h => h.2
  · intro hx
    refine ⟨?_, hx⟩
    obtain ⟨t, ht, h2⟩ := hx
    have := (goodT_iff t).1 (hg t ht)
    omega
theorem upI_from (d : Nat) : ∀ i, upI i d = upFrom i d := by
  induction d with
  | zero => intro i; rfl
  | succ d ih => intro i; rw [upI, upFrom, ih]
theorem upFrom_nodup (d : Nat) : ∀ i, (upFrom i d).Nodup := by
  induction d with
  | zero => intro i; exact List.nodup_nil
  | succ d ih =>
    intro i
    rw [upFrom, List.nodup_cons]
    exact ⟨fun c => by have := (mem_upFrom d (i + 1) _).1 c; omega, ih (i + 1)⟩
theorem nodup_one {l : List Int} (hn : l.Nodup) (h : ∀ a ∈ l, ∀ b ∈ l, a = b) : l.length ≤ 1 := by
  match l, hn, h with
  | [], _, _ => simp
  | [_], _, _ => simp
  | a :: b :: r, hn, h =>
    have := h a (by simp) b (by simp)
    subst this
    simp at hn
theorem groupsP_len (l there : List Int) : ∀ ns : List Int, (groupsP l there ns).length = (ns.filter fun name => there.any fun n => decide (rd l n = name)).length
  | [] => rfl
  | a :: ns => by
    have ih := groupsP_len l there ns
    unfold groupsP at ih ⊢
    rw [List.map_cons, List.filter_cons, List.filter_cons]
    have e : (!(there.filter fun n => decide (rd l n = a)).isEmpty) = there.any fun n => decide (rd l n = a) := by
      rw [Bool.eq_iff_iff]
      simp only [Bool.not_eq_true', List.isEmpty_eq_false_iff, ne_eq, List.filter_eq_nil_iff, decide_eq_true_eq, Classical.not_forall, Classical.not_not, List.any_eq_true]
      constructor
      · rintro ⟨x, hx, h2⟩; exact ⟨x, hx, h2⟩
      · rintro ⟨x, hx, h2⟩; exact ⟨x, hx, h2⟩
    rw [e]
    by_cases c : (there.any fun n => decide (rd l n = a)) = true
    · rw [if_pos c, if_pos c, List.length_cons, List.length_cons, ih]
    · rw [if_neg c, if_neg c, ih]
theorem groups_ev {h : List S39} (hg : ∀ t ∈ h, goodT t = true) (hl : h.length ≤ 55) : Ev (fun k => impl_groups.f k h) (groupsN (roundsN h h.length (upI 0 10)) (numsT h)) := by
  have hnum : ∀ n ∈ numsT h, 0 ≤ n ∧ n ≤ 9 := by
    intro n hn
    unfold numsT at hn
    have := (mem_upFrom 10 0 n).1 (List.mem_filter.1 hn).1
    omega
  have hnl := numsT_len h
  refine Ev.congr (f := fun k => (impl_numbers.f k h).bind fun there => if (∀ n ∈ there, 0 ≤ n ∧ n ≤ 9) ∧ there.length ≤ 1000 then some (groupsN (roundsN h h.length (upI 0 10)) there) else none) (fun k => by unfold impl_groups.f; rw [if_pos ⟨hl, hg⟩]) (Ev.bind (numbers_ev h (by omega)) (ev_const fun k => by rw [if_pos ⟨hnum, by omega⟩]))

end Go.Proofs.Ytnooegfhffhfpaa.Q
