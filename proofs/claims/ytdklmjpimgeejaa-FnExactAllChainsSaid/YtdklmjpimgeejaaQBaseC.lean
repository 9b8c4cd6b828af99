/- Plain lists and numbers: what the program's functions and the reference's compute. -/
import Derived.Test.YtdklmjpimgeejaaP0
import Derived.Test.YtdklmjpimgeejaaPIa
import Derived.Test.YtdklmjpimgeejaaPIb
import Derived.Test.YtdklmjpimgeejaaPId
import Derived.Test.YtdklmjpimgeejaaPLa
import Derived.Test.YtdklmjpimgeejaaPSa
import Derived.Test.YtdklmjpimgeejaaPSc
namespace Go.Proofs.Ytdklmjpimgeejaa.Q
open Go.RowKit Go.Proofs.Ytdklmjpimgeejaa.P Go.Proofs.YtdklmjpimgeejaaW.PrintWords Go.Proofs.YtdklmjpimgeejaaW.PrintLast Go.Proofs.YtdklmjpimgeejaaW.PrintMore
set_option linter.unusedVariables false
set_option linter.unusedSimpArgs false

/-! ScafE -/
/-! ### numbers -/
theorem wrap_eq {x : Int} (h0 : -9223372036854775808 ≤ x) (h1 : x ≤ 9223372036854775807) : wrap64 x = x := by unfold wrap64; omega
theorem wrap_succ {n : Nat} (h : n < 9223372036854775807) : wrap64 ((n : Int) + 1) = ((n + 1 : Nat) : Int) := by unfold wrap64; omega
/-! ### from some number of rounds on, as an equation -/
theorem Ev.at {α : Type} {g : Nat → Option α} {r : α} (h : Ev g r) : ∃ K, ∀ k, g (K + k) = some r := by
  obtain ⟨K, h⟩ := h
  exact ⟨K, fun k => h _ (by omega)⟩
theorem ev_of_at {α : Type} {g : Nat → Option α} {r : α} (K : Nat) (h : ∀ k, g (K + k) = some r) : Ev g r := ⟨K, fun k hk => by
  obtain ⟨m, rfl⟩ : ∃ m, k = K + m := ⟨k - K, by omega⟩
  exact h m⟩
theorem ev_const {α : Type} {g : Nat → Option α} {r : α} (h : ∀ k, g k = some r) : Ev g r := ⟨0, fun k _ => h k⟩
/-! ### lists of tiles: made, held against each other, marked -/
def convT (x : S47) : S45 := ⟨x.f0, x.f1⟩
theorem rdT_nat (xs : List S45) (i : Nat) (x : S45) (h : xs[i]? = some x) : rd_T45 xs (i : Int) = x := by
  show xs.getD (i : Int).toNat _ = x
  rw [Int.toNat_natCast, List.getD_eq_getElem?_getD, h]; rfl
theorem rdL_nat (xs : List S47) (i : Nat) (x : S47) (h : xs[i]? = some x) : rd_T47 xs (i : Int) = x := by
  show xs.getD (i : Int).toNat _ = x
  rw [Int.toNat_natCast, List.getD_eq_getElem?_getD, h]; rfl
theorem rd_nat (xs : List Int) (i : Nat) (x : Int) (h : xs[i]? = some x) : rd xs (i : Int) = x := by
  show xs.getD (i : Int).toNat _ = x
  rw [Int.toNat_natCast, List.getD_eq_getElem?_getD, h]; rfl
theorem toTileS_loop (l : List S47) (hl : l.length ≤ 1048576) : ∀ d i (out : List S45), i + d = l.length → out = (l.map convT).take i ++ List.replicate d z45 → Ev (fun k => laws_toTileS.l0 k l out (i : Int)) (l.map convT) := by
  intro d
  induction d with
  | zero =>
    intro i out h ho
    refine ⟨1, fun k hk => ?_⟩
    obtain ⟨k, rfl⟩ : ∃ m, k = m + 1 := ⟨k - 1, by omega⟩
    simp only [laws_toTileS.l0]
    rw [if_neg (by omega), ho, List.take_of_length_le (by rw [List.length_map]; omega)]
    simp
  | succ d ih =>
    intro i out h ho
    have hi : i < l.length := by omega
    obtain ⟨x, hx⟩ : ∃ x, l[i]? = some x := ⟨_, List.getElem?_eq_getElem hi⟩
    have hlen : out.length = l.length := by rw [ho]; simp; omega
    have hout : out.set i (convT x) = (l.map convT).take (i + 1) ++ List.replicate d z45 := by
      have h1 : ((l.map convT).take i).length = i := by simp; omega
      rw [ho, List.set_append_right _ _ (by omega), h1, Nat.sub_self, List.replicate_succ, List.set_cons_zero, List.take_add_one]
      simp [hx]
    refine Ev.step (f := fun k => laws_toTileS.l0 k l (out.set i (convT x)) ((i + 1 : Nat) : Int)) (fun k => ?_) (ih (i + 1) _ (by omega) hout)
    simp only [laws_toTileS.l0, laws_toTile.f, Option.bind_some]
    rw [if_pos (by omega), if_pos (by omega), if_pos (by omega), rdL_nat l i x hx, wrap_succ (by omega), Int.toNat_natCast]
    rfl
theorem toTileS_ev (l : List S47) (hl : l.length ≤ 1048576) : Ev (fun k => laws_toTileS.f k l) (l.map convT) := by
  refine Ev.congr (f := fun k => laws_toTileS.l0 k l (List.replicate l.length z45) ((0 : Nat) : Int)) (fun k => ?_) (toTileS_loop l hl l.length 0 _ (by omega) (by simp))
  unfold laws_toTileS.f
  rw [if_pos (by omega), Int.toNat_natCast, if_pos (by omega)]
  rfl
theorem eqTile_some (a b : S45) : laws_eqTile.f a.f0 a.f1 b.f0 b.f1 = some (decide (a = b)) := by
  unfold laws_eqTile.f
  by_cases h : a.f0 = b.f0
  · rw [if_pos h]; by_cases h2 : a.f1 = b.f1
    · rw [if_pos h2]; simp [tile_ext, h, h2]
    · rw [if_neg h2]; simp [tile_ext, h2]
  · rw [if_neg h]; simp [tile_ext, h]
theorem eqTileS_loop (a b : List S45) (hl : a.length = b.length) (ha : a.length ≤ 9223372036854775800) : ∀ d i, i + d = a.length → Ev (fun k => laws_eqTileS.l0 k a b (i : Int)) (decide (a.drop i = b.drop i)) := by
  intro d
  induction d with
  | zero =>
    intro i h
    refine ⟨1, fun k hk => ?_⟩
    obtain ⟨k, rfl⟩ : ∃ m, k = m + 1 := ⟨k - 1, by omega⟩
    simp only [laws_eqTileS.l0]
    rw [if_neg (by omega), List.drop_of_length_le (by omega), List.drop_of_length_le (by omega)]
    simp
  | succ d ih =>
    intro i h
    have hi : i < a.length := by omega
    have hi2 : i < b.length := by omega
    have ex := List.getElem?_eq_getElem hi
    have ey := List.getElem?_eq_getElem hi2
    by_cases e : a[i] = b[i]
    · have hd : decide (a.drop i = b.drop i) = decide (a.drop (i + 1) = b.drop (i + 1)) := by
        rw [List.drop_eq_getElem_cons hi, List.drop_eq_getElem_cons hi2]
        simp only [List.cons.injEq, e, true_and]
      rw [hd]
      refine Ev.step (f := fun k => laws_eqTileS.l0 k a b ((i + 1 : Nat) : Int)) (fun k => ?_) (ih (i + 1) (by omega))
      simp only [laws_eqTileS.l0]
      rw [if_pos (by omega), if_pos (by omega), if_pos (by omega), rdT_nat a i _ ex, rdT_nat b i _ ey, eqTile_some, Option.bind_some, if_pos (by simp [e]), wrap_succ (by omega)]
    · have hd : decide (a.drop i = b.drop i) = false := by
        rw [List.drop_eq_getElem_cons hi, List.drop_eq_getElem_cons hi2]
        simp only [List.cons.injEq, e, false_and, decide_false]
      rw [hd]
      refine Ev.step (f := fun _ => some false) (fun k => ?_) (Ev.now _)
      simp only [laws_eqTileS.l0]
      rw [if_pos (by omega), if_pos (by omega), if_pos (by omega), rdT_nat a i _ ex, rdT_nat b i _ ey, eqTile_some, Option.bind_some, if_neg (by simp [e])]
theorem eqTileS_ev (a b : List S45) (ha : a.length ≤ 9223372036854775800) : Ev (fun k => laws_eqTileS.f k a b) (decide (a = b)) := by
  unfold laws_eqTileS.f
  by_cases h : a.length = b.length
  · have := eqTileS_loop a b h ha a.length 0 (by omega)
    simp only [List.drop_zero] at this
    refine Ev.congr (fun k => ?_) this
    rw [if_pos (by omega)]
    rfl
  · refine ⟨0, fun k _ => ?_⟩
    show (if _ then _ else _) = _
    rw [if_neg (by omega)]
    simp only [Option.some.injEq]
    symm
    rw [decide_eq_false_iff_not]
    intro e
    exact h (by rw [e])
theorem szTileS_big (l : List S47) (h : ¬ l.length ≤ 1048576) (hm : l.length ≤ maxLen) : laws_szTileS.f l 1048576 = some (-1) := by
  unfold laws_szTileS.f
  have : (1048576 : Int) - l.length < 0 := by omega
  have hm' : l.length ≤ 9223372036854775807 := by simpa [maxLen] using hm
  rw [wrap_eq (by omega) (by omega), if_pos this]
theorem szTileS_ok (l : List S47) (h : l.length ≤ 1048576) : laws_szTileS.f l 1048576 = some (1048576 - (l.length : Int)) := by
  unfold laws_szTileS.f
  rw [wrap_eq (by omega) (by omega), if_neg (by omega)]
/-! Scaf2E -/
theorem bind_true {α : Type} {g : Nat → Option Bool} {A B : Nat → Option α} {r : α} (hg : Ev g true) (h : Ev A r) : Ev (fun k => (g k).bind fun t => if t = true then A k else B k) r :=
  Ev.bind (f := fun k t => if t = true then A k else B k) hg (Ev.congr (fun k => by rw [if_pos rfl]) h)
theorem bind_false {α : Type} {g : Nat → Option Bool} {A B : Nat → Option α} {r : α} (hg : Ev g false) (h : Ev B r) : Ev (fun k => (g k).bind fun t => if t = true then A k else B k) r :=
  Ev.bind (f := fun k t => if t = true then A k else B k) hg (Ev.congr (fun k => by rw [if_neg (by decide)]) h)
/-! Times -/
/-- How often a number is in a list of tiles. -/
def timesT : List S45 → Int → Int
  | [], _ => 0
  | t :: l, n => (if t.f0 = n then 1 else 0) + (if t.f1 = n then 1 else 0) + timesT l n
theorem timesT_bd (l : List S45) (n : Int) : 0 ≤ timesT l n ∧ timesT l n ≤ 2 * l.length := by
  induction l with
  | nil => simp [timesT]
  | cons t l ih => simp only [timesT, List.length_cons]; split <;> split <;> omega
theorem timesT_append (a b : List S45) (n : Int) : timesT (a ++ b) n = timesT a n + timesT b n := by
  induction a with
  | nil => simp [timesT]
  | cons t l ih => simp only [timesT, List.cons_append, ih]; omega
theorem rdT_mid (pre : List S45) (x : S45) (suf : List S45) : rd_T45 (pre ++ x :: suf) (pre.length : Int) = x := rdT_nat _ _ _ (by simp)
theorem tiTimes_loop (n : Int) : ∀ (suf pre : List S45) (acc : Int), (pre ++ suf).length ≤ 1000000000 → 0 ≤ acc → acc + 2 * suf.length ≤ 4000000000000000000 → Ev (fun k => spec_tiTimes.l0 k n acc (pre ++ suf) ((pre ++ suf).length : Int) (pre.length : Int)) (acc + timesT suf n) := by
  intro suf
  induction suf with
  | nil =>
    intro pre acc hl ha hb
    refine ⟨1, fun k hk => ?_⟩
    obtain ⟨k, rfl⟩ : ∃ m, k = m + 1 := ⟨k - 1, by omega⟩
    simp only [spec_tiTimes.l0]
    rw [if_neg (by simp)]
    simp [timesT]
  | cons x suf ih =>
    intro pre acc hl ha hb
    have hlen : (pre ++ x :: suf).length = pre.length + suf.length + 1 := by simp; omega
    have h1 : (pre.length : Int) < ((pre ++ x :: suf).length : Int) := by omega
    have h2 : (0 : Int) ≤ (pre.length : Int) := by omega
    have hb' : acc + 2 * ((suf.length : Int) + 1) ≤ 4000000000000000000 := by simpa using hb
    have e0 : ((pre ++ [x]).length : Int) = ((pre.length + 1 : Nat) : Int) := by simp
    have key : ∀ a : Int, a = acc + (if x.f0 = n then 1 else 0) + (if x.f1 = n then 1 else 0) → Ev (fun k => spec_tiTimes.l0 k n a (pre ++ x :: suf) ((pre ++ x :: suf).length : Int) ((pre.length + 1 : Nat) : Int)) (acc + timesT (x :: suf) n) := by
      intro a ea
      have := ih (pre ++ [x]) a (by simpa using hl) (by rw [ea]; split <;> split <;> omega) (by rw [ea]; split <;> split <;> omega)
      rw [List.append_assoc, e0] at this
      rw [show acc + timesT (x :: suf) n = a + timesT suf n by rw [ea]; simp only [timesT]; omega]
      exact this
    have w1 : wrap64 (acc + 1) = acc + 1 := wrap_eq (by omega) (by omega)
    have w2 : wrap64 (acc + 1 + 1) = acc + 1 + 1 := wrap_eq (by omega) (by omega)
    by_cases c0 : x.f0 = n
    · by_cases c1 : x.f1 = n
      · refine Ev.step (fun k => ?_) (key (acc + 1 + 1) (by rw [if_pos c0, if_pos c1]))
        simp only [spec_tiTimes.l0]
        rw [if_pos h1, if_pos h2, if_pos h1, rdT_mid, if_pos c0, if_pos c1, w1, w2, wrap_succ (by omega)]
      · refine Ev.step (fun k => ?_) (key (acc + 1) (by rw [if_pos c0, if_neg c1]; omega))
        simp only [spec_tiTimes.l0]
        rw [if_pos h1, if_pos h2, if_pos h1, rdT_mid, if_pos c0, if_neg c1, w1, wrap_succ (by omega)]
    · by_cases c1 : x.f1 = n
      · refine Ev.step (fun k => ?_) (key (acc + 1) (by rw [if_neg c0, if_pos c1]; omega))
        simp only [spec_tiTimes.l0]
        rw [if_pos h1, if_pos h2, if_pos h1, rdT_mid, if_neg c0, if_pos c1, w1, wrap_succ (by omega)]
      · refine Ev.step (fun k => ?_) (key acc (by rw [if_neg c0, if_neg c1]; omega))
        simp only [spec_tiTimes.l0]
        rw [if_pos h1, if_pos h2, if_pos h1, rdT_mid, if_neg c0, if_neg c1, wrap_succ (by omega)]
theorem tiTimes_ev (l : List S45) (n : Int) (h : l.length ≤ 1000000000) : Ev (fun k => spec_tiTimes.f k l n) (timesT l n) := by
  have := tiTimes_loop n l [] 0 (by simpa using h) (by omega) (by omega)
  rw [Int.zero_add] at this
  exact this
theorem times_loop (n : Int) : ∀ (suf pre : List S45) (acc : Int), (pre ++ suf).length ≤ 1000000000 → 0 ≤ acc → acc + 2 * suf.length ≤ 4000000000000000000 → Ev (fun k => impl_times.l0 k n acc (pre ++ suf) ((pre ++ suf).length : Int) (pre.length : Int)) (acc + timesT suf n) := by
  intro suf
  induction suf with
  | nil =>
    intro pre acc hl ha hb
    refine ⟨1, fun k hk => ?_⟩
    obtain ⟨k, rfl⟩ : ∃ m, k = m + 1 := ⟨k - 1, by omega⟩
    simp only [impl_times.l0]
    rw [if_neg (by simp)]
    simp [timesT]
  | cons x suf ih =>
    intro pre acc hl ha hb
    have hlen : (pre ++ x :: suf).length = pre.length + suf.length + 1 := by simp; omega
    have h1 : (pre.length : Int) < ((pre ++ x :: suf).length : Int) := by omega
    have h2 : (0 : Int) ≤ (pre.length : Int) := by omega
    have hb' : acc + 2 * ((suf.length : Int) + 1) ≤ 4000000000000000000 := by simpa using hb
    have e0 : ((pre ++ [x]).length : Int) = ((pre.length + 1 : Nat) : Int) := by simp
    have hbit : ∀ a : Int, impl_bit.f (a == n) = some (if a = n then 1 else 0) := fun a => by
      unfold impl_bit.f
      by_cases e : a = n <;> simp [e]
    have w1 : wrap64 ((if x.f0 = n then 1 else 0) + (if x.f1 = n then 1 else 0)) = (if x.f0 = n then 1 else 0) + (if x.f1 = n then 1 else 0) := wrap_eq (by split <;> split <;> omega) (by split <;> split <;> omega)
    have w2 : wrap64 (acc + ((if x.f0 = n then 1 else 0) + (if x.f1 = n then 1 else 0))) = acc + ((if x.f0 = n then 1 else 0) + (if x.f1 = n then 1 else 0)) := wrap_eq (by split <;> split <;> omega) (by split <;> split <;> omega)
    have := ih (pre ++ [x]) (acc + ((if x.f0 = n then 1 else 0) + (if x.f1 = n then 1 else 0))) (by simpa using hl) (by split <;> split <;> omega) (by split <;> split <;> omega)
    rw [List.append_assoc, e0] at this
    rw [show acc + timesT (x :: suf) n = acc + ((if x.f0 = n then 1 else 0) + (if x.f1 = n then 1 else 0)) + timesT suf n by simp only [timesT]; omega]
    refine Ev.step (fun k => ?_) this
    simp only [impl_times.l0]
    rw [if_pos h1, if_pos h2, if_pos h1, rdT_mid, hbit, hbit, Option.bind_some, Option.bind_some, w1, w2, wrap_succ (by omega)]
    rfl
theorem times_ev (l : List S45) (n : Int) (h : l.length ≤ 1000000000) : Ev (fun k => impl_times.f k l n) (timesT l n) := by
  have := times_loop n l [] 0 (by simpa using h) (by omega) (by omega)
  rw [Int.zero_add] at this
  exact this
/-! NumsI -/
/-- i, i + 1, .., d of them. -/
def upFrom (i : Nat) : Nat → List Int
  | 0 => []
  | d + 1 => (i : Int) :: upFrom (i + 1) d
theorem upFrom_length (i d : Nat) : (upFrom i d).length = d := by
  induction d generalizing i with
  | zero => rfl
  | succ d ih => simp [upFrom, ih]
/-- The numbers that are in a list of tiles. -/
def numsT (l : List S45) : List Int := (upFrom 0 10).filter fun n => decide (timesT l n > 0)
theorem numsT_len (l : List S45) : (numsT l).length ≤ 10 := by
  have := List.length_filter_le (fun n => decide (timesT l n > 0)) (upFrom 0 10)
  rw [upFrom_length] at this
  exact this
theorem numbers_loop (l : List S45) (hl : l.length ≤ 1000000000) : ∀ d i (acc : List Int), i + d = 10 → acc.length ≤ i → Ev (fun k => impl_numbers.l0 k l acc (i : Int)) (acc ++ (upFrom i d).filter fun n => decide (timesT l n > 0)) := by
  intro d
  induction d with
  | zero =>
    intro i acc h ha
    refine ⟨1, fun k hk => ?_⟩
    obtain ⟨k, rfl⟩ : ∃ m, k = m + 1 := ⟨k - 1, by omega⟩
    simp only [impl_numbers.l0]
    rw [if_neg (by omega)]
    simp [upFrom]
  | succ d ih =>
    intro i acc h ha
    refine Ev.step (f := fun k => (impl_times.f k l (i : Int)).bind fun t => if t > 0 then (if acc.length < 17592186044416 then impl_numbers.l0 k l (acc ++ [(i : Int)]) ((i + 1 : Nat) : Int) else none) else impl_numbers.l0 k l acc ((i + 1 : Nat) : Int)) (fun k => ?_) (Ev.bind (times_ev l i hl) ?_)
    · simp only [impl_numbers.l0]
      rw [if_pos (by omega), wrap_succ (by omega)]
    · by_cases c : timesT l i > 0
      · have := ih (i + 1) (acc ++ [(i : Int)]) (by omega) (by simp; omega)
        rw [show acc ++ (upFrom i (d + 1)).filter (fun n => decide (timesT l n > 0)) = acc ++ [(i : Int)] ++ (upFrom (i + 1) d).filter (fun n => decide (timesT l n > 0)) by rw [upFrom, List.filter_cons, if_pos (by simpa using c)]; simp]
        exact Ev.congr (fun k => by rw [if_pos c, if_pos (by omega)]) this
      · have := ih (i + 1) acc (by omega) (by omega)
        rw [show acc ++ (upFrom i (d + 1)).filter (fun n => decide (timesT l n > 0)) = acc ++ (upFrom (i + 1) d).filter (fun n => decide (timesT l n > 0)) by rw [upFrom, List.filter_cons, if_neg (by simpa using c)]]
        exact Ev.congr (fun k => by rw [if_neg c]) this
theorem numbers_ev (l : List S45) (hl : l.length ≤ 1000000000) : Ev (fun k => impl_numbers.f k l) (numsT l) := by
  have := numbers_loop l hl 10 0 [] (by omega) (by simp)
  rw [List.nil_append] at this
  exact this
/-! Hand -/
theorem tiGood_some (x : S45) : spec_tiGood.f x.f0 x.f1 = some (goodT x) := by
  unfold spec_tiGood.f spec_l1In.f goodT
  by_cases h : x.f0 ≥ 0
  · rw [if_pos h]; by_cases h2 : x.f0 ≤ x.f1 <;> simp [h, h2]
  · rw [if_neg h]; simp [h]
theorem same_tile (x : S45) (a b : Int) : ((x.f0 == a && (x.f1 == b)) = true) ↔ x = ⟨a, b⟩ := by
  rw [tile_ext]; simp
theorem same_tile' (x : S45) (a b : Int) : ((a == x.f0 && (b == x.f1)) = true) ↔ x = ⟨a, b⟩ := by
  rw [tile_ext, Bool.and_eq_true, beq_iff_eq, beq_iff_eq]
  exact ⟨fun h => ⟨h.1.symm, h.2.symm⟩, fun h => ⟨h.1.symm, h.2.symm⟩⟩
/-- Where a tile stands in a list, -1 if it doesn't. -/
def placeT (l : List S45) (t : S45) : Int := idxB (fun x => decide (x = t)) l
theorem placeT_hit (l : List S45) (t : S45) (i : Nat) (h : l[i]? = some t) (hb : ∀ j, j < i → ∀ x, l[j]? = some x → x ≠ t) : placeT l t = i :=
  idxB_hit _ _ _ t h (by simp) (fun j hj x hx => by simpa using hb j hj x hx)
theorem placeT_miss (l : List S45) (t : S45) (h : t ∉ l) : placeT l t = -1 :=
  idxB_miss _ _ (fun j hj x hx => by simp; rintro rfl; exact h (List.mem_of_getElem? hx))
theorem placeT_nonneg (l : List S45) (t : S45) : placeT l t ≥ 0 ↔ t ∈ l := by
  have h := idxB_nonneg (fun x => decide (x = t)) l
  rw [← decide_eq_true_iff (p := placeT l t ≥ 0)]
  show decide (idxB _ l ≥ 0) = true ↔ _
  rw [h]; simp
theorem tiPlace_loop (l : List S45) (t : S45) (hl : l.length ≤ 9223372036854775800) : ∀ d i, i + d = l.length → (∀ j, j < i → ∀ x, l[j]? = some x → x ≠ t) → Ev (fun k => spec_tiPlace.l0 k l (l.length : Int) (i : Int) t.f0 t.f1) (placeT l t) := by
  intro d
  induction d with
  | zero =>
    intro i h hb
    refine ⟨1, fun k hk => ?_⟩
    obtain ⟨k, rfl⟩ : ∃ m, k = m + 1 := ⟨k - 1, by omega⟩
    simp only [spec_tiPlace.l0]
    rw [if_neg (by omega), placeT_miss]
    intro hm
    obtain ⟨j, hj⟩ := List.getElem?_of_mem hm
    exact hb j (by have := (List.getElem?_eq_some_iff.1 hj).1; omega) t hj rfl
  | succ d ih =>
    intro i h hb
    have hi : i < l.length := by omega
    have ex := List.getElem?_eq_getElem hi
    by_cases e : l[i] = t
    · refine Ev.step (f := fun _ => some (placeT l t)) (fun k => ?_) (Ev.now _)
      simp only [spec_tiPlace.l0]
      rw [if_pos (by omega), if_pos (by omega), if_pos (by omega), rdT_nat l i _ ex, if_pos ((same_tile _ _ _).2 e), placeT_hit l t i (by rw [ex, e]) hb]
    · refine Ev.step (f := fun k => spec_tiPlace.l0 k l (l.length : Int) ((i + 1 : Nat) : Int) t.f0 t.f1) (fun k => ?_) (ih (i + 1) (by omega) (fun j hj x hx => ?_))
      · simp only [spec_tiPlace.l0]
        rw [if_pos (by omega), if_pos (by omega), if_pos (by omega), rdT_nat l i _ ex, if_neg (fun h => e ((same_tile _ _ _).1 h)), wrap_succ (by omega)]
      · rcases Nat.lt_or_ge j i with hj2 | hj2
        · exact hb j hj2 x hx
        · obtain rfl : j = i := by omega
          rw [ex] at hx; cases hx; exact e
theorem tiPlace_ev (l : List S45) (t : S45) (hl : l.length ≤ 9223372036854775800) : Ev (fun k => spec_tiPlace.f k l t.f0 t.f1) (placeT l t) :=
  tiPlace_loop l t hl l.length 0 (by omega) (fun j hj => absurd hj (Nat.not_lt_zero _))
theorem index_loop (l : List S45) (t : S45) (hl : l.length ≤ 9223372036854775800) : ∀ d i, i + d = l.length → (∀ j, j < i → ∀ x, l[j]? = some x → x ≠ t) → Ev (fun k => slices_Index_Tile.l0 k l (l.length : Int) (i : Int) t.f0 t.f1) (placeT l t) := by
  intro d
  induction d with
  | zero =>
    intro i h hb
    refine ⟨1, fun k hk => ?_⟩
    obtain ⟨k, rfl⟩ : ∃ m, k = m + 1 := ⟨k - 1, by omega⟩
    simp only [slices_Index_Tile.l0]
    rw [if_neg (by omega), placeT_miss]
    intro hm
    obtain ⟨j, hj⟩ := List.getElem?_of_mem hm
    exact hb j (by have := (List.getElem?_eq_some_iff.1 hj).1; omega) t hj rfl
  | succ d ih =>
    intro i h hb
    have hi : i < l.length := by omega
    have ex := List.getElem?_eq_getElem hi
    by_cases e : l[i] = t
    · refine Ev.step (f := fun _ => some (placeT l t)) (fun k => ?_) (Ev.now _)
      simp only [slices_Index_Tile.l0]
      rw [if_pos (by omega), if_pos (by omega), if_pos (by omega), rdT_nat l i _ ex, if_pos ((same_tile' _ _ _).2 e), placeT_hit l t i (by rw [ex, e]) hb]
    · refine Ev.step (f := fun k => slices_Index_Tile.l0 k l (l.length : Int) ((i + 1 : Nat) : Int) t.f0 t.f1) (fun k => ?_) (ih (i + 1) (by omega) (fun j hj x hx => ?_))
      · simp only [slices_Index_Tile.l0]
        rw [if_pos (by omega), if_pos (by omega), if_pos (by omega), rdT_nat l i _ ex, if_neg (fun h => e ((same_tile' _ _ _).1 h)), wrap_succ (by omega)]
      · rcases Nat.lt_or_ge j i with hj2 | hj2
        · exact hb j hj2 x hx
        · obtain rfl : j = i := by omega
          rw [ex] at hx; cases hx; exact e
theorem index_ev (l : List S45) (t : S45) (hl : l.length ≤ 9223372036854775800) : Ev (fun k => slices_Index_Tile.f k l t.f0 t.f1) (placeT l t) :=
  index_loop l t hl l.length 0 (by omega) (fun j hj => absurd hj (Nat.not_lt_zero _))
theorem contains_ev (l : List S45) (t : S45) (hl : l.length ≤ 9223372036854775800) : Ev (fun k => slices_Contains_Tile.f k l t.f0 t.f1) (decide (t ∈ l)) := by
  unfold slices_Contains_Tile.f
  refine Ev.bind (index_ev l t hl) ?_
  refine ev_const (fun k => ?_)
  congr 1
  rw [decide_eq_decide]
  exact placeT_nonneg l t
theorem take_snoc {α : Type} (l : List α) (i : Nat) (x : α) (h : l[i]? = some x) : l.take (i + 1) = l.take i ++ [x] := by
  rw [List.take_add_one, h]; rfl
theorem nodup_snoc {α : Type} (l : List α) (x : α) : (l ++ [x]).Nodup ↔ l.Nodup ∧ x ∉ l := by
  rw [List.nodup_append]
  constructor
  · rintro ⟨h1, _, h3⟩
    exact ⟨h1, fun hx => h3 x hx x (by simp) rfl⟩
  · rintro ⟨h1, h2⟩
    exact ⟨h1, by simp, fun a ha b hb => by simp at hb; subst hb; rintro rfl; exact h2 ha⟩
theorem not_nodup_of {α : Type} (l : List α) (i : Nat) (x : α) (h : l[i]? = some x) (hm : x ∈ l.take i) : ¬ l.Nodup := by
  intro hn
  have h1 : (l.take (i + 1)).Nodup := List.Nodup.sublist (List.take_sublist _ _) hn
  rw [take_snoc l i x h, nodup_snoc] at h1
  exact h1.2 hm
/-- A hand, as the document has it. -/
def handB (l : List S45) : Bool := decide (l.length ≤ 55) && (l.all goodT && decide l.Nodup)
theorem tiHand_loop (l : List S45) (hl : l.length ≤ 55) : ∀ d i, i + d = l.length → (l.take i).all goodT = true → (l.take i).Nodup → Ev (fun k => spec_tiHand.l0 k l l (l.length : Int) (i : Int)) (l.all goodT && decide l.Nodup) := by
  intro d
  induction d with
  | zero =>
    intro i h hg hn
    refine ⟨1, fun k hk => ?_⟩
    obtain ⟨k, rfl⟩ : ∃ m, k = m + 1 := ⟨k - 1, by omega⟩
    rw [List.take_of_length_le (by omega)] at hg hn
    simp only [spec_tiHand.l0]
    rw [if_neg (by omega), hg, decide_eq_true hn]
    rfl
  | succ d ih =>
    intro i h hg hn
    have hi : i < l.length := by omega
    have ex := List.getElem?_eq_getElem hi
    have h1 : (i : Int) < (l.length : Int) := by omega
    by_cases hgi : goodT l[i] = true
    · by_cases hm : l[i] ∈ l.take i
      · have hf : (l.all goodT && decide l.Nodup) = false := by rw [decide_eq_false (not_nodup_of l i _ ex hm), Bool.and_false]
        rw [hf]
        refine Ev.step (f := fun k => (spec_tiPlace.f k (l.take i) l[i].f0 l[i].f1).bind fun t => if t ≥ 0 then some false else spec_tiHand.l0 k l l (l.length : Int) ((i + 1 : Nat) : Int)) (fun k => ?_) ?_
        · simp only [spec_tiHand.l0]
          rw [if_pos h1, if_pos (by omega), if_pos h1, rdT_nat l i _ ex, tiGood_some, hgi, Option.bind_some, if_pos rfl, if_pos (by omega), Int.toNat_natCast, wrap_succ (by omega)]
        · refine Ev.bind (tiPlace_ev (l.take i) l[i] (by simp; omega)) ?_
          exact ev_const (fun k => by rw [if_pos ((placeT_nonneg _ _).2 hm)])
      · have hsn := take_snoc l i _ ex
        refine Ev.step (f := fun k => (spec_tiPlace.f k (l.take i) l[i].f0 l[i].f1).bind fun t => if t ≥ 0 then some false else spec_tiHand.l0 k l l (l.length : Int) ((i + 1 : Nat) : Int)) (fun k => ?_) ?_
        · simp only [spec_tiHand.l0]
          rw [if_pos h1, if_pos (by omega), if_pos h1, rdT_nat l i _ ex, tiGood_some, hgi, Option.bind_some, if_pos rfl, if_pos (by omega), Int.toNat_natCast, wrap_succ (by omega)]
        · refine Ev.bind (tiPlace_ev (l.take i) l[i] (by simp; omega)) ?_
          refine Ev.congr (fun k => by rw [if_neg (fun h => hm ((placeT_nonneg _ _).1 h))]) (ih (i + 1) (by omega) ?_ ?_)
          · rw [hsn, List.all_append, hg]; simp [hgi]
          · rw [hsn, nodup_snoc]; exact ⟨hn, hm⟩
    · have hgi' : goodT l[i] = false := by simpa using hgi
      have hf : (l.all goodT && decide l.Nodup) = false := by
        have : l.all goodT = false := by rw [List.all_eq_false]; exact ⟨l[i], List.getElem_mem _, hgi⟩
        rw [this, Bool.false_and]
      rw [hf]
      refine Ev.step (f := fun _ => some false) (fun k => ?_) (Ev.now _)
      simp only [spec_tiHand.l0]
      rw [if_pos h1, if_pos (by omega), if_pos h1, rdT_nat l i _ ex, tiGood_some, hgi', Option.bind_some, if_neg (by decide)]
theorem tiHand_ev (l : List S45) : Ev (fun k => spec_tiHand.f k l) (handB l) := by
  unfold spec_tiHand.f handB
  by_cases h : l.length ≤ 55
  · refine Ev.congr (fun k => by rw [if_neg (by omega)]) ?_
    · rw [decide_eq_true h, Bool.true_and]
      exact tiHand_loop l h l.length 0 (by omega) (by simp) (by simp)
  · refine ev_const (fun k => ?_)
    rw [if_pos (by omega), decide_eq_false h]; rfl
theorem different_loop (l : List S45) (hl : l.length ≤ 9223372036854775800) : ∀ d i, i + d = l.length → (l.take i).Nodup → Ev (fun k => impl_areDifferent_Tile.l0 k l l (l.length : Int) (i : Int)) (decide l.Nodup) := by
  intro d
  induction d with
  | zero =>
    intro i h hn
    refine ⟨1, fun k hk => ?_⟩
    obtain ⟨k, rfl⟩ : ∃ m, k = m + 1 := ⟨k - 1, by omega⟩
    rw [List.take_of_length_le (by omega)] at hn
    simp only [impl_areDifferent_Tile.l0]
    rw [if_neg (by omega), decide_eq_true hn]
  | succ d ih =>
    intro i h hn
    have hi : i < l.length := by omega
    have ex := List.getElem?_eq_getElem hi
    have h1 : (i : Int) < (l.length : Int) := by omega
    have hstep : ∀ k, impl_areDifferent_Tile.l0 (k + 1) l l (l.length : Int) (i : Int) = (slices_Contains_Tile.f k (l.take i) l[i].f0 l[i].f1).bind fun t => if t = true then some false else impl_areDifferent_Tile.l0 k l l (l.length : Int) ((i + 1 : Nat) : Int) := fun k => by
      simp only [impl_areDifferent_Tile.l0]
      rw [if_pos h1, if_pos (by omega), if_pos h1, if_pos (by omega), rdT_nat l i _ ex, Int.toNat_natCast, wrap_succ (by omega)]
    refine Ev.step hstep (Ev.bind (contains_ev (l.take i) l[i] (by simp; omega)) ?_)
    by_cases hm : l[i] ∈ l.take i
    · rw [decide_eq_false (not_nodup_of l i _ ex hm)]
      exact ev_const (fun k => by rw [if_pos (decide_eq_true hm)])
    · have hsn := take_snoc l i _ ex
      refine Ev.congr (fun k => by rw [if_neg (by simpa using hm)]) (ih (i + 1) (by omega) ?_)
      rw [hsn, nodup_snoc]; exact ⟨hn, hm⟩
theorem different_ev (l : List S45) (hl : l.length ≤ 9223372036854775800) : Ev (fun k => impl_areDifferent_Tile.f k l) (decide l.Nodup) :=
  different_loop l hl l.length 0 (by omega) (by simp)
theorem IsHand_ev (l : List S45) : Ev (fun k => impl_IsHand.f k l) (handB l) := by
  unfold impl_IsHand.f handB
  by_cases h : l.length ≤ 55
  · rw [decide_eq_true h, Bool.true_and]
    by_cases hg : l.any (fun t => !goodT t) = true
    · have : l.all goodT = false := by rw [← Bool.not_eq_true', List.not_all_eq_any_not]; exact hg
      rw [this, Bool.false_and]
      exact ev_const (fun k => by rw [if_pos h, if_pos hg])
    · have hg' : l.all goodT = true := by
        have : (!l.all goodT) = false := by rw [List.not_all_eq_any_not]; simpa using hg
        simpa using this
      rw [hg', Bool.true_and]
      exact Ev.congr (fun k => by rw [if_pos h, if_neg hg]) (different_ev l (by omega))
  · rw [decide_eq_false h, Bool.false_and]
    exact ev_const (fun k => by rw [if_neg h])
theorem handB_len {l : List S45} (h : handB l = true) : l.length ≤ 55 := by
  unfold handB at h; simp at h; exact h.1
theorem handB_good {l : List S45} (h : handB l = true) : ∀ x ∈ l, goodT x = true := by
  unfold handB at h; simp at h; exact h.2.1
theorem handB_nodup {l : List S45} (h : handB l = true) : l.Nodup := by
  unfold handB at h; simp at h; exact h.2.2
theorem goodT_iff (t : S45) : goodT t = true ↔ 0 ≤ t.f0 ∧ t.f0 ≤ t.f1 ∧ t.f1 ≤ 9 := by
  unfold goodT; simp
theorem times_pos (h : List S45) (n : Int) : timesT h n > 0 ↔ ∃ t ∈ h, t.f0 = n ∨ t.f1 = n := by
  induction h with
  | nil => simp [timesT]
  | cons t h ih =>
    have hb := timesT_bd h n
    simp only [timesT, List.mem_cons]
    constructor
    · intro hp
      by_cases c0 : t.f0 = n
      · exact ⟨t, .inl rfl, .inl c0⟩
      · by_cases c1 : t.f1 = n
        · exact ⟨t, .inl rfl, .inr c1⟩
        · rw [if_neg c0, if_neg c1] at hp
          obtain ⟨u, hu, h2⟩ := ih.1 (by omega)
          exact ⟨u, .inr hu, h2⟩
    · rintro ⟨u, rfl | hu, h2⟩
      · rcases h2 with c | c
        · rw [if_pos c]; split <;> omega
        · rw [if_pos c]; split <;> omega
      · have := ih.2 ⟨u, hu, h2⟩
        split <;> split <;> omega
theorem mem_upFrom (d : Nat) : ∀ (i : Nat) (n : Int), n ∈ upFrom i d ↔ (i : Int) ≤ n ∧ n < ((i + d : Nat) : Int) := by
  induction d with
  | zero => intro i n; simp [upFrom]
  | succ d ih =>
    intro i n
    rw [upFrom, List.mem_cons, ih (i + 1) n]
    omega
theorem mem_numsT {h : List S45} (hg : ∀ t ∈ h, goodT t = true) (n : Int) : n ∈ numsT h ↔ ∃ t ∈ h, t.f0 = n ∨ t.f1 = n := by
  unfold numsT
  rw [List.mem_filter, mem_upFrom, decide_eq_true_eq, times_pos]
  constructor
  · exact fun h => h.2
  · intro hx
    refine ⟨?_, hx⟩
    obtain ⟨t, ht, h2⟩ := hx
    have := (goodT_iff t).1 (hg t ht)
    omega

end Go.Proofs.Ytdklmjpimgeejaa.Q
