/- Plain lists and numbers: what the program's functions and the reference's compute. -/
import Derived.Test.YtiabjcgcbjeikaaDoorP0
import Derived.Test.YtiabjcgcbjeikaaDoorPIb
import Derived.Test.YtiabjcgcbjeikaaDoorPLa
import Derived.Test.YtiabjcgcbjeikaaDoorPLb
import Derived.Test.YtiabjcgcbjeikaaDoorPSa
namespace Go.Proofs.YtiabjcgcbjeikaaDoor.Q
open Go.RowKit Go.Proofs.YtiabjcgcbjeikaaDoor.P Go.Proofs.YtiabjcgcbjeikaaDoorW.PrintWords Go.Proofs.YtiabjcgcbjeikaaDoorW.PrintLast Go.Proofs.YtiabjcgcbjeikaaDoorW.PrintMore
set_option linter.unusedVariables false
set_option linter.unusedSimpArgs false

theorem wrap_eq {x : Int} (h0 : -9223372036854775808 ≤ x) (h1 : x ≤ 9223372036854775807) : wrap64 x = x := by unfold wrap64; omega
theorem wrap_succ {n : Nat} (h : n < 9223372036854775807) : wrap64 ((n : Int) + 1) = ((n + 1 : Nat) : Int) := by unfold wrap64; omega
theorem ev_of_at {α : Type} {g : Nat → Option α} {r : α} (K : Nat) (h : ∀ k, g (K + k) = some r) : Ev g r := ⟨K, fun k hk => by
  obtain ⟨m, rfl⟩ : ∃ m, k = K + m := ⟨k - K, by omega⟩
  exact h m⟩
theorem ev_const {α : Type} {g : Nat → Option α} {r : α} (h : ∀ k, g k = some r) : Ev g r := ⟨0, fun k _ => h k⟩
theorem rdT_nat (xs : List S31) (i : Nat) (x : S31) (h : xs[i]? = some x) : rd_T31 xs (i : Int) = x := by
  show xs.getD (i : Int).toNat _ = x
  rw [Int.toNat_natCast, List.getD_eq_getElem?_getD, h]; rfl
theorem rd_nat (xs : List Int) (i : Nat) (x : Int) (h : xs[i]? = some x) : rd xs (i : Int) = x := by
  show xs.getD (i : Int).toNat _ = x
  rw [Int.toNat_natCast, List.getD_eq_getElem?_getD, h]; rfl
theorem eqTile_some (a b : S31) : laws_eqTile.f a.f0 a.f1 b.f0 b.f1 = some (decide (a = b)) := by
  unfold laws_eqTile.f
  by_cases h : a.f0 = b.f0
  · rw [if_pos h]; by_cases h2 : a.f1 = b.f1
    · rw [if_pos h2]; simp [tile_ext, h, h2]
    · rw [if_neg h2]; simp [tile_ext, h2]
  · rw [if_neg h]; simp [tile_ext, h]
theorem eqTileS_loop (a b : List S31) (hl : a.length = b.length) (ha : a.length ≤ 9223372036854775800) : ∀ d i, i + d = a.length → Ev (fun k => laws_eqTileS.l0 k a b (i : Int)) (decide (a.drop i = b.drop i)) := by
  intro d
  induction d with
  | zero =>
    intro i h
    refine ⟨1, fun k hk => ?_⟩
    obtain ⟨k, rfl⟩ : ∃ m, k = m + 1 := ⟨k - 1, by omega⟩
    simp only [laws_eqTileS.l0]
    rw [if_neg (by omega), List.drop_of_length_le (by omega), List.drop_of_length_le (by omega)]
    simp
  | succ d ih =>
    intro i h
    have hi : i < a.length := by omega
    have hi2 : i < b.length := by omega
    have ex := List.getElem?_eq_getElem hi
    have ey := List.getElem?_eq_getElem hi2
    by_cases e : a[i] = b[i]
    · have hd : decide (a.drop i = b.drop i) = decide (a.drop (i + 1) = b.drop (i + 1)) := by
        rw [List.drop_eq_getElem_cons hi, List.drop_eq_getElem_cons hi2]
        simp only [List.cons.injEq, e, true_and]
      rw [hd]
      refine Ev.step (f := fun k => laws_eqTileS.l0 k a b ((i + 1 : Nat) : Int)) (fun k => ?_) (ih (i + 1) (by omega))
      simp only [laws_eqTileS.l0]
      rw [if_pos (by omega), if_pos (by omega), if_pos (by omega), rdT_nat a i _ ex, rdT_nat b i _ ey, eqTile_some, Option.bind_some, if_pos (by simp [e]), wrap_succ (by omega)]
    · have hd : decide (a.drop i = b.drop i) = false := by
        rw [List.drop_eq_getElem_cons hi, List.drop_eq_getElem_cons hi2]
        simp only [List.cons.injEq, e, false_and, decide_false]
      rw [hd]
      refine Ev.step (f := fun _ => some false) (fun k => ?_) (Ev.now _)
      simp only [laws_eqTileS.l0]
      rw [if_pos (by omega), if_pos (by omega), if_pos (by omega), rdT_nat a i _ ex, rdT_nat b i _ ey, eqTile_some, Option.bind_some, if_neg (by simp [e])]
theorem eqTileS_ev (a b : List S31) (ha : a.length ≤ 9223372036854775800) : Ev (fun k => laws_eqTileS.f k a b) (decide (a = b)) := by
  unfold laws_eqTileS.f
  by_cases h : a.length = b.length
  · have := eqTileS_loop a b h ha a.length 0 (by omega)
    simp only [List.drop_zero] at this
    refine Ev.congr (fun k => ?_) this
    rw [if_pos (by omega)]
    rfl
  · refine ⟨0, fun k _ => ?_⟩
    show (if _ then _ else _) = _
    rw [if_neg (by omega)]
    simp only [Option.some.injEq]
    symm
    rw [decide_eq_false_iff_not]
    intro e
    exact h (by rw [e])
theorem bind_true {α : Type} {g : Nat → Option Bool} {A B : Nat → Option α} {r : α} (hg : Ev g true) (h : Ev A r) : Ev (fun k => (g k).bind fun t => if t = true then A k else B k) r :=
  Ev.bind (f := fun k t => if t = true then A k else B k) hg (Ev.congr (fun k => by rw [if_pos rfl]) h)
theorem bind_false {α : Type} {g : Nat → Option Bool} {A B : Nat → Option α} {r : α} (hg : Ev g false) (h : Ev B r) : Ev (fun k => (g k).bind fun t => if t = true then A k else B k) r :=
  Ev.bind (f := fun k t => if t = true then A k else B k) hg (Ev.congr (fun k => by rw [if_neg (by decide)]) h)
theorem rdT_mid (pre : List S31) (x : S31) (suf : List S31) : rd_T31 (pre ++ x :: suf) (pre.length : Int) = x := rdT_nat _ _ _ (by simp)
theorem tiGood_some (x : S31) : spec_tiGood.f x.f0 x.f1 = some (goodT x) := by
  unfold spec_tiGood.f spec_l1In.f goodT
  by_cases h : x.f0 ≥ 0
  · rw [if_pos h]; by_cases h2 : x.f0 ≤ x.f1 <;> simp [h, h2]
  · rw [if_neg h]; simp [h]
theorem same_tile (x : S31) (a b : Int) : ((x.f0 == a && (x.f1 == b)) = true) ↔ x = ⟨a, b⟩ := by
  rw [tile_ext]; simp
theorem same_tile' (x : S31) (a b : Int) : ((a == x.f0 && (b == x.f1)) = true) ↔ x = ⟨a, b⟩ := by
  rw [tile_ext, Bool.and_eq_true, beq_iff_eq, beq_iff_eq]
  exact ⟨fun h => ⟨h.1.symm, h.2.symm⟩, fun h => ⟨h.1.symm, h.2.symm⟩⟩
/-- Where a tile stands in a list, -1 if it doesn't. -/
def placeT (l : List S31) (t : S31) : Int := idxB (fun x => decide (x = t)) l
theorem placeT_hit (l : List S31) (t : S31) (i : Nat) (h : l[i]? = some t) (hb : ∀ j, j < i → ∀ x, l[j]? = some x → x ≠ t) : placeT l t = i :=
  idxB_hit _ _ _ t h (by simp) (fun j hj x hx => by simpa using hb j hj x hx)
theorem placeT_miss (l : List S31) (t : S31) (h : t ∉ l) : placeT l t = -1 :=
  idxB_miss _ _ (fun j hj x hx => by simp; rintro rfl; exact h (List.mem_of_getElem? hx))
theorem placeT_nonneg (l : List S31) (t : S31) : placeT l t ≥ 0 ↔ t ∈ l := by
  have h := idxB_nonneg (fun x => decide (x = t)) l
  rw [← decide_eq_true_iff (p := placeT l t ≥ 0)]
  show decide (idxB _ l ≥ 0) = true ↔ _
  rw [h]; simp
theorem tiPlace_loop (l : List S31) (t : S31) (hl : l.length ≤ 9223372036854775800) : ∀ d i, i + d = l.length → (∀ j, j < i → ∀ x, l[j]? = some x → x ≠ t) → Ev (fun k => spec_tiPlace.l0 k l (l.length : Int) (i : Int) t.f0 t.f1) (placeT l t) := by
  intro d
  induction d with
  | zero =>
    intro i h hb
    refine ⟨1, fun k hk => ?_⟩
    obtain ⟨k, rfl⟩ : ∃ m, k = m + 1 := ⟨k - 1, by omega⟩
    simp only [spec_tiPlace.l0]
    rw [if_neg (by omega), placeT_miss]
    intro hm
    obtain ⟨j, hj⟩ := List.getElem?_of_mem hm
    exact hb j (by have := (List.getElem?_eq_some_iff.1 hj).1; omega) t hj rfl
  | succ d ih =>
    intro i h hb
    have hi : i < l.length := by omega
    have ex := List.getElem?_eq_getElem hi
    by_cases e : l[i] = t
    · refine Ev.step (f := fun _ => some (placeT l t)) (fun k => ?_) (Ev.now _)
      simp only [spec_tiPlace.l0]
      rw [if_pos (by omega), if_pos (by omega), if_pos (by omega), rdT_nat l i _ ex, if_pos ((same_tile _ _ _).2 e), placeT_hit l t i (by rw [ex, e]) hb]
    · refine Ev.step (f := fun k => spec_tiPlace.l0 k l (l.length : Int) ((i + 1 : Nat) : Int) t.f0 t.f1) (fun k => ?_) (ih (i + 1) (by omega) (fun j hj x hx => ?_))
      · simp only [spec_tiPlace.l0]
        rw [if_pos (by omega), if_pos (by omega), if_pos (by omega), rdT_nat l i _ ex, if_neg (fun h => e ((same_tile _ _ _).1 h)), wrap_succ (by omega)]
      · rcases Nat.lt_or_ge j i with hj2 | hj2
        · exact hb j hj2 x hx
        · obtain rfl : j = i := by omega
          rw [ex] at hx; cases hx; exact e
theorem tiPlace_ev (l : List S31) (t : S31) (hl : l.length ≤ 9223372036854775800) : Ev (fun k => spec_tiPlace.f k l t.f0 t.f1) (placeT l t) :=
  tiPlace_loop l t hl l.length 0 (by omega) (fun j hj => absurd hj (Nat.not_lt_zero _))
theorem index_loop (l : List S31) (t : S31) (hl : l.length ≤ 9223372036854775800) : ∀ d i, i + d = l.length → (∀ j, j < i → ∀ x, l[j]? = some x → x ≠ t) → Ev (fun k => slices_Index_Tile.l0 k l (l.length : Int) (i : Int) t.f0 t.f1) (placeT l t) := by
  intro d
  induction d with
  | zero =>
    intro i h hb
    refine ⟨1, fun k hk => ?_⟩
    obtain ⟨k, rfl⟩ : ∃ m, k = m + 1 := ⟨k - 1, by omega⟩
    simp only [slices_Index_Tile.l0]
    rw [if_neg (by omega), placeT_miss]
    intro hm
    obtain ⟨j, hj⟩ := List.getElem?_of_mem hm
    exact hb j (by have := (List.getElem?_eq_some_iff.1 hj).1; omega) t hj rfl
  | succ d ih =>
    intro i h hb
    have hi : i < l.length := by omega
    have ex := List.getElem?_eq_getElem hi
    by_cases e : l[i] = t
    · refine Ev.step (f := fun _ => some (placeT l t)) (fun k => ?_) (Ev.now _)
      simp only [slices_Index_Tile.l0]
      rw [if_pos (by omega), if_pos (by omega), if_pos (by omega), rdT_nat l i _ ex, if_pos ((same_tile' _ _ _).2 e), placeT_hit l t i (by rw [ex, e]) hb]
    · refine Ev.step (f := fun k => slices_Index_Tile.l0 k l (l.length : Int) ((i + 1 : Nat) : Int) t.f0 t.f1) (fun k => ?_) (ih (i + 1) (by omega) (fun j hj x hx => ?_))
      · simp only [slices_Index_Tile.l0]
        rw [if_pos (by omega), if_pos (by omega), if_pos (by omega), rdT_nat l i _ ex, if_neg (fun h => e ((same_tile' _ _ _).1 h)), wrap_succ (by omega)]
      · rcases Nat.lt_or_ge j i with hj2 | hj2
        · exact hb j hj2 x hx
        · obtain rfl : j = i := by omega
          rw [ex] at hx; cases hx; exact e
theorem index_ev (l : List S31) (t : S31) (hl : l.length ≤ 9223372036854775800) : Ev (fun k => slices_Index_Tile.f k l t.f0 t.f1) (placeT l t) :=
  index_loop l t hl l.length 0 (by omega) (fun j hj => absurd hj (Nat.not_lt_zero _))
theorem contains_ev (l : List S31) (t : S31) (hl : l.length ≤ 9223372036854775800) : Ev (fun k => slices_Contains_Tile.f k l t.f0 t.f1) (decide (t ∈ l)) := by
  unfold slices_Contains_Tile.f
  refine Ev.bind (index_ev l t hl) ?_
  refine ev_const (fun k => ?_)
  congr 1
  rw [decide_eq_decide]
  exact placeT_nonneg l t
theorem take_snoc {α : Type} (l : List α) (i : Nat) (x : α) (h : l[i]? = some x) : l.take (i + 1) = l.take i ++ [x] := by
  rw [List.take_add_one, h]; rfl
theorem nodup_snoc {α : Type} (l : List α) (x : α) : (l ++ [x]).Nodup ↔ l.Nodup ∧ x ∉ l := by
  rw [List.nodup_append]
  constructor
  · rintro ⟨h1, _, h3⟩
    exact ⟨h1, fun hx => h3 x hx x (by simp) rfl⟩
  · rintro ⟨h1, h2⟩
    exact ⟨h1, by simp, fun a ha b hb => by simp at hb; subst hb; rintro rfl; exact h2 ha⟩
theorem not_nodup_of {α : Type} (l : List α) (i : Nat) (x : α) (h : l[i]? = some x) (hm : x ∈ l.take i) : ¬ l.Nodup := by
  intro hn
  have h1 : (l.take (i + 1)).Nodup := List.Nodup.sublist (List.take_sublist _ _) hn
  rw [take_snoc l i x h, nodup_snoc] at h1
  exact h1.2 hm
/-- A hand, as the document has it. -/
def handB (l : List S31) : Bool := decide (l.length ≤ 55) && (l.all goodT && decide l.Nodup)
theorem tiHand_loop (l : List S31) (hl : l.length ≤ 55) : ∀ d i, i + d = l.length → (l.take i).all goodT = true → (l.take i).Nodup → Ev (fun k => spec_tiHand.l0 k l l (l.length : Int) (i : Int)) (l.all goodT && decide l.Nodup) := by
  intro d
  induction d with
  | zero =>
    intro i h hg hn
    refine ⟨1, fun k hk => ?_⟩
    obtain ⟨k, rfl⟩ : ∃ m, k = m + 1 := ⟨k - 1, by omega⟩
    rw [List.take_of_length_le (by omega)] at hg hn
    simp only [spec_tiHand.l0]
    rw [if_neg (by omega), hg, decide_eq_true hn]
    rfl
  | succ d ih =>
    intro i h hg hn
    have hi : i < l.length := by omega
    have ex := List.getElem?_eq_getElem hi
    have h1 : (i : Int) < (l.length : Int) := by omega
    by_cases hgi : goodT l[i] = true
    · by_cases hm : l[i] ∈ l.take i
      · have hf : (l.all goodT && decide l.Nodup) = false := by rw [decide_eq_false (not_nodup_of l i _ ex hm), Bool.and_false]
        rw [hf]
        refine Ev.step (f := fun k => (spec_tiPlace.f k (l.take i) l[i].f0 l[i].f1).bind fun t => if t ≥ 0 then some false else spec_tiHand.l0 k l l (l.length : Int) ((i + 1 : Nat) : Int)) (fun k => ?_) ?_
        · simp only [spec_tiHand.l0]
          rw [if_pos h1, if_pos (by omega), if_pos h1, rdT_nat l i _ ex, tiGood_some, hgi, Option.bind_some, if_pos rfl, if_pos (by omega), Int.toNat_natCast, wrap_succ (by omega)]
        · refine Ev.bind (tiPlace_ev (l.take i) l[i] (by simp; omega)) ?_
          exact ev_const (fun k => by rw [if_pos ((placeT_nonneg _ _).2 hm)])
      · have hsn := take_snoc l i _ ex
        refine Ev.step (f := fun k => (spec_tiPlace.f k (l.take i) l[i].f0 l[i].f1).bind fun t => if t ≥ 0 then some false else spec_tiHand.l0 k l l (l.length : Int) ((i + 1 : Nat) : Int)) (fun k => ?_) ?_
        · simp only [spec_tiHand.l0]
          rw [if_pos h1, if_pos (by omega), if_pos h1, rdT_nat l i _ ex, tiGood_some, hgi, Option.bind_some, if_pos rfl, if_pos (by omega), Int.toNat_natCast, wrap_succ (by omega)]
        · refine Ev.bind (tiPlace_ev (l.take i) l[i] (by simp; omega)) ?_
          refine Ev.congr (fun k => by rw [if_neg (fun h => hm ((placeT_nonneg _ _).1 h))]) (ih (i + 1) (by omega) ?_ ?_)
          · rw [hsn, List.all_append, hg]; simp [hgi]
          · rw [hsn, nodup_snoc]; exact ⟨hn, hm⟩
    · have hgi' : goodT l[i] = false := by simpa using hgi
      have hf : (l.all goodT && decide l.Nodup) = false := by
        have : l.all goodT = false := by rw [List.all_eq_false]; exact ⟨l[i], List.getElem_mem _, hgi⟩
        rw [this, Bool.false_and]
      rw [hf]
      refine Ev.step (f := fun _ => some false) (fun k => ?_) (Ev.now _)
      simp only [spec_tiHand.l0]
      rw [if_pos h1, if_pos (by omega), if_pos h1, rdT_nat l i _ ex, tiGood_some, hgi', Option.bind_some, if_neg (by decide)]
theorem tiHand_ev (l : List S31) : Ev (fun k => spec_tiHand.f k l) (handB l) := by
  unfold spec_tiHand.f handB
  by_cases h : l.length ≤ 55
  · refine Ev.congr (fun k => by rw [if_neg (by omega)]) ?_
    · rw [decide_eq_true h, Bool.true_and]
      exact tiHand_loop l h l.length 0 (by omega) (by simp) (by simp)
  · refine ev_const (fun k => ?_)
    rw [if_pos (by omega), decide_eq_false h]; rfl
theorem different_loop (l : List S31) (hl : l.length ≤ 9223372036854775800) : ∀ d i, i + d = l.length → (l.take i).Nodup → Ev (fun k => impl_areDifferent_Tile.l0 k l l (l.length : Int) (i : Int)) (decide l.Nodup) := by
  intro d
  induction d with
  | zero =>
    intro i h hn
    refine ⟨1, fun k hk => ?_⟩
    obtain ⟨k, rfl⟩ : ∃ m, k = m + 1 := ⟨k - 1, by omega⟩
    rw [List.take_of_length_le (by omega)] at hn
    simp only [impl_areDifferent_Tile.l0]
    rw [if_neg (by omega), decide_eq_true hn]
  | succ d ih =>
    intro i h hn
    have hi : i < l.length := by omega
    have ex := List.getElem?_eq_getElem hi
    have h1 : (i : Int) < (l.length : Int) := by omega
    have hstep : ∀ k, impl_areDifferent_Tile.l0 (k + 1) l l (l.length : Int) (i : Int) = (slices_Contains_Tile.f k (l.take i) l[i].f0 l[i].f1).bind fun t => if t = true then some false else impl_areDifferent_Tile.l0 k l l (l.length : Int) ((i + 1 : Nat) : Int) := fun k => by
      simp only [impl_areDifferent_Tile.l0]
      rw [if_pos h1, if_pos (by omega), if_pos h1, if_pos (by omega), rdT_nat l i _ ex, Int.toNat_natCast, wrap_succ (by omega)]
    refine Ev.step hstep (Ev.bind (contains_ev (l.take i) l[i] (by simp; omega)) ?_)
    by_cases hm : l[i] ∈ l.take i
    · rw [decide_eq_false (not_nodup_of l i _ ex hm)]
      exact ev_const (fun k => by rw [if_pos (decide_eq_true hm)])
    · have hsn := take_snoc l i _ ex
      refine Ev.congr (fun k => by rw [if_neg (by simpa using hm)]) (ih (i + 1) (by omega) ?_)
      rw [hsn, nodup_snoc]; exact ⟨hn, hm⟩
theorem different_ev (l : List S31) (hl : l.length ≤ 9223372036854775800) : Ev (fun k => impl_areDifferent_Tile.f k l) (decide l.Nodup) :=
  different_loop l hl l.length 0 (by omega) (by simp)
theorem IsHand_ev (l : List S31) : Ev (fun k => impl_IsHand.f k l) (handB l) := by
  unfold impl_IsHand.f handB
  by_cases h : l.length ≤ 55
  · rw [decide_eq_true h, Bool.true_and]
    by_cases hg : l.any (fun t => !goodT t) = true
    · have : l.all goodT = false := by rw [← Bool.not_eq_true', List.not_all_eq_any_not]; exact hg
      rw [this, Bool.false_and]
      exact ev_const (fun k => by rw [if_pos h, if_pos hg])
    · have hg' : l.all goodT = true := by
        have : (!l.all goodT) = false := by rw [List.not_all_eq_any_not]; simpa using hg
        simpa using this
      rw [hg', Bool.true_and]
      exact Ev.congr (fun k => by rw [if_pos h, if_neg hg]) (different_ev l (by omega))
  · rw [decide_eq_false h, Bool.false_and]
    exact ev_const (fun k => by rw [if_neg h])
theorem handB_len {l : List S31} (h : handB l = true) : l.length ≤ 55 := by
  unfold handB at h; simp at h; exact h.1
theorem handB_good {l : List S31} (h : handB l = true) : ∀ x ∈ l, goodT x = true := by
  unfold handB at h; simp at h; exact h.2.1
theorem handB_nodup {l : List S31} (h : handB l = true) : l.Nodup := by
  unfold handB at h; simp at h; exact h.2.2
theorem goodT_iff (t : S31) : goodT t = true ↔ 0 ≤ t.f0 ∧ t.f0 ≤ t.f1 ∧ t.f1 ≤ 9 := by
  unfold goodT; simp
def marksT (m : Int) : Nat → List S31
  | 0 => []
  | n + 1 => ⟨m, m + 1⟩ :: marksT (m + 2) n
theorem markTileS_loop : ∀ (d : Nat) (pre suf : List S31) (m : Int), suf.length = d → 0 ≤ m → m + 2 * d ≤ 1000000000 → pre.length + d ≤ 1000000000 → Ev (fun k => laws_markTileS.l0 k (pre ++ suf) m (pre.length : Int)) (m + 2 * d, pre ++ marksT m d) := by
  intro d
  induction d with
  | zero =>
    intro pre suf m h hm hb hp
    obtain rfl : suf = [] := List.length_eq_zero_iff.1 h
    refine ⟨1, fun k hk => ?_⟩
    obtain ⟨k, rfl⟩ : ∃ m, k = m + 1 := ⟨k - 1, by omega⟩
    simp only [laws_markTileS.l0]
    rw [if_neg (by simp)]
    simp [marksT]
  | succ d ih =>
    intro pre suf m h hm hb hp
    match suf, h with
    | x :: suf, h =>
      have hs : suf.length = d := by simpa using h
      have := ih (pre ++ [⟨m, m + 1⟩]) suf (m + 2) hs (by omega) (by omega) (by simp; omega)
      have e1 : m + 2 + 2 * (d : Int) = m + 2 * ((d + 1 : Nat) : Int) := by omega
      rw [e1, List.append_assoc, List.append_assoc] at this
      refine Ev.step (fun k => ?_) this
      have r1 : rd_T31 (pre ++ x :: suf) (pre.length : Int) = x := rdT_nat _ _ _ (by simp)
      have r2 : ∀ y : S31, rd_T31 (pre ++ y :: suf) (pre.length : Int) = y := fun y => rdT_nat _ _ _ (by simp)
      have e2 : wrap64 (m + 1 + 1) = m + 2 := by rw [wrap_eq (by omega) (by omega)]; omega
      simp only [laws_markTileS.l0, Option.bind_some]
      rw [if_pos (by simp; omega), if_pos (by omega), Int.toNat_natCast, List.set_append_right _ _ (by omega), Nat.sub_self, List.set_cons_zero, r1, List.set_append_right _ _ (by omega), Nat.sub_self, List.set_cons_zero, r2, wrap_succ (by omega), wrap_eq (x := m + 1) (by omega) (by omega), e2]
      simp
theorem markTileS_ev (l : List S31) (h : l.length ≤ 1048576) : Ev (fun k => laws_markTileS.f k l 1) (1 + 2 * (l.length : Int), marksT 1 l.length) :=
  markTileS_loop l.length [] l 1 rfl (by omega) (by omega) (by simp; omega)


end Go.Proofs.YtiabjcgcbjeikaaDoor.Q
