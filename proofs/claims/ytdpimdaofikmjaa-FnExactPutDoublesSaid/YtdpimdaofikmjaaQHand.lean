/- Plain lists and numbers: what the program's functions and the reference's compute. -/
import Derived.Test.YtdpimdaofikmjaaP0
import Derived.Test.YtdpimdaofikmjaaPIb
import Derived.Test.YtdpimdaofikmjaaPSa
import Derived.Test.YtdpimdaofikmjaaQScaf
namespace Go.Proofs.Ytdpimdaofikmjaa.Q
open Go.RowKit Go.Proofs.Ytdpimdaofikmjaa.P Go.Proofs.YtdpimdaofikmjaaW.PrintWords Go.Proofs.YtdpimdaofikmjaaW.PrintLast Go.Proofs.YtdpimdaofikmjaaW.PrintMore
set_option linter.unusedVariables false
set_option linter.unusedSimpArgs false

theorem tiGood_some (x : S67) : spec_tiGood.f x.f0 x.f1 = some (goodT x) := by
  unfold spec_tiGood.f spec_l1In.f goodT
  by_cases h : x.f0 ≥ 0
  · rw [if_pos h]; by_cases h2 : x.f0 ≤ x.f1 <;> simp [h, h2]
  · rw [if_neg h]; simp [h]
theorem same_tile (x : S67) (a b : Int) : ((x.f0 == a && (x.f1 == b)) = true) ↔ x = ⟨a, b⟩ := by
  rw [tile_ext]; simp
theorem same_tile' (x : S67) (a b : Int) : ((a == x.f0 && (b == x.f1)) = true) ↔ x = ⟨a, b⟩ := by
  rw [tile_ext, Bool.and_eq_true, beq_iff_eq, beq_iff_eq]
  exact ⟨fun h => ⟨h.1.symm, h.2.symm⟩, fun h => ⟨h.1.symm, h.2.symm⟩⟩
/-- Where a tile stands in a list, -1 if it doesn't. -/
def placeT (l : List S67) (t : S67) : Int := idxB (fun x => decide (x = t)) l
theorem placeT_hit (l : List S67) (t : S67) (i : Nat) (h : l[i]? = some t) (hb : ∀ j, j < i → ∀ x, l[j]? = some x → x ≠ t) : placeT l t = i :=
  idxB_hit _ _ _ t h (by simp) (fun j hj x hx => by simpa using hb j hj x hx)
theorem placeT_miss (l : List S67) (t : S67) (h : t ∉ l) : placeT l t = -1 :=
  idxB_miss _ _ (fun j hj x hx => by simp; rintro rfl; exact h (List.mem_of_getElem? hx))
theorem placeT_nonneg (l : List S67) (t : S67) : placeT l t ≥ 0 ↔ t ∈ l := by
  have h := idxB_nonneg (fun x => decide (x = t)) l
  rw [← decide_eq_true_iff (p := placeT l t ≥ 0)]
  show decide (idxB _ l ≥ 0) = true ↔ _
  rw [h]; simp
theorem tiPlace_loop (l : List S67) (t : S67) (hl : l.length ≤ 9223372036854775800) : ∀ d i, i + d = l.length → (∀ j, j < i → ∀ x, l[j]? = some x → x ≠ t) → Ev (fun k => spec_tiPlace.l0 k l (l.length : Int) (i : Int) t.f0 t.f1) (placeT l t) := by
  intro d
  induction d with
  | zero =>
    intro i h hb
    refine ⟨1, fun k hk => ?_⟩
    obtain ⟨k, rfl⟩ : ∃ m, k = m + 1 := ⟨k - 1, by omega⟩
    simp only [spec_tiPlace.l0]
    rw [if_neg (by omega), placeT_miss]
    intro hm
    obtain ⟨j, hj⟩ := List.getElem?_of_mem hm
    exact hb j (by have := (List.getElem?_eq_some_iff.1 hj).1; omega) t hj rfl
  | succ d ih =>
    intro i h hb
    have hi : i < l.length := by omega
    have ex := List.getElem?_eq_getElem hi
    by_cases e : l[i] = t
    · refine Ev.step (f := fun _ => some (placeT l t)) (fun k => ?_) (Ev.now _)
      simp only [spec_tiPlace.l0]
      rw [if_pos (by omega), if_pos (by omega), if_pos (by omega), rdT_nat l i _ ex, if_pos ((same_tile _ _ _).2 e), placeT_hit l t i (by rw [ex, e]) hb]
    · refine Ev.step (f := fun k => spec_tiPlace.l0 k l (l.length : Int) ((i + 1 : Nat) : Int) t.f0 t.f1) (fun k => ?_) (ih (i + 1) (by omega) (fun j hj x hx => ?_))
      · simp only [spec_tiPlace.l0]
        rw [if_pos (by omega), if_pos (by omega), if_pos (by omega), rdT_nat l i _ ex, if_neg (fun h => e ((same_tile _ _ _).1 h)), wrap_succ (by omega)]
      · rcases Nat.lt_or_ge j i with hj2 | hj2
        · exact hb j hj2 x hx
        · obtain rfl : j = i := by omega
          rw [ex] at hx; cases hx; exact e
theorem tiPlace_ev (l : List S67) (t : S67) (hl : l.length ≤ 9223372036854775800) : Ev (fun k => spec_tiPlace.f k l t.f0 t.f1) (placeT l t) :=
  tiPlace_loop l t hl l.length 0 (by omega) (fun j hj => absurd hj (Nat.not_lt_zero _))
theorem index_loop (l : List S67) (t : S67) (hl : l.length ≤ 9223372036854775800) : ∀ d i, i + d = l.length → (∀ j, j < i → ∀ x, l[j]? = some x → x ≠ t) → Ev (fun k => slices_Index_Tile.l0 k l (l.length : Int) (i : Int) t.f0 t.f1) (placeT l t) := by
  intro d
  induction d with
  | zero =>
    intro i h hb
    refine ⟨1, fun k hk => ?_⟩
    obtain ⟨k, rfl⟩ : ∃ m, k = m + 1 := ⟨k - 1, by omega⟩
    simp only [slices_Index_Tile.l0]
    rw [if_neg (by omega), placeT_miss]
    intro hm
    obtain ⟨j, hj⟩ := List.getElem?_of_mem hm
    exact hb j (by have := (List.getElem?_eq_some_iff.1 hj).1; omega) t hj rfl
  | succ d ih =>
    intro i h hb
    have hi : i < l.length := by omega
    have ex := List.getElem?_eq_getElem hi
    by_cases e : l[i] = t
    · refine Ev.step (f := fun _ => some (placeT l t)) (fun k => ?_) (Ev.now _)
      simp only [slices_Index_Tile.l0]
      rw [if_pos (by omega), if_pos (by omega), if_pos (by omega), rdT_nat l i _ ex, if_pos ((same_tile' _ _ _).2 e), placeT_hit l t i (by rw [ex, e]) hb]
    · refine Ev.step (f := fun k => slices_Index_Tile.l0 k l (l.length : Int) ((i + 1 : Nat) : Int) t.f0 t.f1) (fun k => ?_) (ih (i + 1) (by omega) (fun j hj x hx => ?_))
      · simp only [slices_Index_Tile.l0]
        rw [if_pos (by omega), if_pos (by omega), if_pos (by omega), rdT_nat l i _ ex, if_neg (fun h => e ((same_tile' _ _ _).1 h)), wrap_succ (by omega)]
      · rcases Nat.lt_or_ge j i with hj2 | hj2
        · exact hb j hj2 x hx
        · obtain rfl : j = i := by omega
          rw [ex] at hx; cases hx; exact e
theorem index_ev (l : List S67) (t : S67) (hl : l.length ≤ 9223372036854775800) : Ev (fun k => slices_Index_Tile.f k l t.f0 t.f1) (placeT l t) :=
  index_loop l t hl l.length 0 (by omega) (fun j hj => absurd hj (Nat.not_lt_zero _))
theorem contains_ev (l : List S67) (t : S67) (hl : l.length ≤ 9223372036854775800) : Ev (fun k => slices_Contains_Tile.f k l t.f0 t.f1) (decide (t ∈ l)) := by
  unfold slices_Contains_Tile.f
  refine Ev.bind (index_ev l t hl) ?_
  refine ev_const (fun k => ?_)
  congr 1
  rw [decide_eq_decide]
  exact placeT_nonneg l t
theorem take_snoc {α : Type} (l : List α) (i : Nat) (x : α) (h : l[i]? = some x) : l.take (i + 1) = l.take i ++ [x] := by
  rw [List.take_add_one, h]; rfl
theorem nodup_snoc {α : Type} (l : List α) (x : α) : (l ++ [x]).Nodup ↔ l.Nodup ∧ x ∉ l := by
  rw [List.nodup_append]
  constructor
  · rintro ⟨h1, _, h3⟩
    exact ⟨h1, fun hx => h3 x hx x (by simp) rfl⟩
  · rintro ⟨h1, h2⟩
    exact ⟨h1, by simp, fun a ha b hb => by simp at hb; subst hb; rintro rfl; exact h2 ha⟩
theorem not_nodup_of {α : Type} (l : List α) (i : Nat) (x : α) (h : l[i]? = some x) (hm : x ∈ l.take i) : ¬ l.Nodup := by
  intro hn
  have h1 : (l.take (i + 1)).Nodup := List.Nodup.sublist (List.take_sublist _ _) hn
  rw [take_snoc l i x h, nodup_snoc] at h1
  exact h1.2 hm
/-- A hand, as the document has it. -/
def handB (l : List S67) : Bool := decide (l.length ≤ 55) && (l.all goodT && decide l.Nodup)
theorem tiHand_loop (l : List S67) (hl : l.length ≤ 55) : ∀ d i, i + d = l.length → (l.take i).all goodT = true → (l.take i).Nodup → Ev (fun k => spec_tiHand.l0 k l l (l.length : Int) (i : Int)) (l.all goodT && decide l.Nodup) := by
  intro d
  induction d with
  | zero =>
    intro i h hg hn
    refine ⟨1, fun k hk => ?_⟩
    obtain ⟨k, rfl⟩ : ∃ m, k = m + 1 := ⟨k - 1, by omega⟩
    rw [List.take_of_length_le (by omega)] at hg hn
    simp only [spec_tiHand.l0]
    rw [if_neg (by omega), hg, decide_eq_true hn]
    rfl
  | succ d ih =>
    intro i h hg hn
    have hi : i < l.length := by omega
    have ex := List.getElem?_eq_getElem hi
    have h1 : (i : Int) < (l.length : Int) := by omega
    by_cases hgi : goodT l[i] = true
    · by_cases hm : l[i] ∈ l.take i
      · have hf : (l.all goodT && decide l.Nodup) = false := by rw [decide_eq_false (not_nodup_of l i _ ex hm), Bool.and_false]
        rw [hf]
        refine Ev.step (f := fun k => (spec_tiPlace.f k (l.take i) l[i].f0 l[i].f1).bind fun t => if t ≥ 0 then some false else spec_tiHand.l0 k l l (l.length : Int) ((i + 1 : Nat) : Int)) (fun k => ?_) ?_
        · simp only [spec_tiHand.l0]
          rw [if_pos h1, if_pos (by omega), if_pos h1, rdT_nat l i _ ex, tiGood_some, hgi, Option.bind_some, if_pos rfl, if_pos (by omega), Int.toNat_natCast, wrap_succ (by omega)]
        · refine Ev.bind (tiPlace_ev (l.take i) l[i] (by simp; omega)) ?_
          exact ev_const (fun k => by rw [if_pos ((placeT_nonneg _ _).2 hm)])
      · have hsn := take_snoc l i _ ex
        refine Ev.step (f := fun k => (spec_tiPlace.f k (l.take i) l[i].f0 l[i].f1).bind fun t => if t ≥ 0 then some false else spec_tiHand.l0 k l l (l.length : Int) ((i + 1 : Nat) : Int)) (fun k => ?_) ?_
        · simp only [spec_tiHand.l0]
          rw [if_pos h1, if_pos (by omega), if_pos h1, rdT_nat l i _ ex, tiGood_some, hgi, Option.bind_some, if_pos rfl, if_pos (by omega), Int.toNat_natCast, wrap_succ (by omega)]
        · refine Ev.bind (tiPlace_ev (l.take i) l[i] (by simp; omega)) ?_
          refine Ev.congr (fun k => by rw [if_neg (fun h => hm ((placeT_nonneg _ _).1 h))]) (ih (i + 1) (by omega) ?_ ?_)
          · rw [hsn, List.all_append, hg]; simp [hgi]
          · rw [hsn, nodup_snoc]; exact ⟨hn, hm⟩
    · have hgi' : goodT l[i] = false := by simpa using hgi
      have hf : (l.all goodT && decide l.Nodup) = false := by
        have : l.all goodT = false := by rw [List.all_eq_false]; exact ⟨l[i], List.getElem_mem _, hgi⟩
        rw [this, Bool.false_and]
      rw [hf]
      refine Ev.step (f := fun _ => some false) (fun k => ?_) (Ev.now _)
      simp only [spec_tiHand.l0]
      rw [if_pos h1, if_pos (by omega), if_pos h1, rdT_nat l i _ ex, tiGood_some, hgi', Option.bind_some, if_neg (by decide)]
theorem tiHand_ev (l : List S67) : Ev (fun k => spec_tiHand.f k l) (handB l) := by
  unfold spec_tiHand.f handB
  by_cases h : l.length ≤ 55
  · refine Ev.congr (fun k => by rw [if_neg (by omega)]) ?_
    · rw [decide_eq_true h, Bool.true_and]
      exact tiHand_loop l h l.length 0 (by omega) (by simp) (by simp)
  · refine ev_const (fun k => ?_)
    rw [if_pos (by omega), decide_eq_false h]; rfl
theorem different_loop (l : List S67) (hl : l.length ≤ 9223372036854775800) : ∀ d i, i + d = l.length → (l.take i).Nodup → Ev (fun k => impl_areDifferent_Tile.l0 k l l (l.length : Int) (i : Int)) (decide l.Nodup) := by
  intro d
  induction d with
  | zero =>
    intro i h hn
    refine ⟨1, fun k hk => ?_⟩
    obtain ⟨k, rfl⟩ : ∃ m, k = m + 1 := ⟨k - 1, by omega⟩
    rw [List.take_of_length_le (by omega)] at hn
    simp only [impl_areDifferent_Tile.l0]
    rw [if_neg (by omega), decide_eq_true hn]
  | succ d ih =>
    intro i h hn
    have hi : i < l.length := by omega
    have ex := List.getElem?_eq_getElem hi
    have h1 : (i : Int) < (l.length : Int) := by omega
    have hstep : ∀ k, impl_areDifferent_Tile.l0 (k + 1) l l (l.length : Int) (i : Int) = (slices_Contains_Tile.f k (l.take i) l[i].f0 l[i].f1).bind fun t => if t = true then some false else impl_areDifferent_Tile.l0 k l l (l.length : Int) ((i + 1 : Nat) : Int) := fun k => by
      simp only [impl_areDifferent_Tile.l0]
      rw [if_pos h1, if_pos (by omega), if_pos h1, if_pos (by omega), rdT_nat l i _ ex, Int.toNat_natCast, wrap_succ (by omega)]
    refine Ev.step hstep (Ev.bind (contains_ev (l.take i) l[i] (by simp; omega)) ?_)
    by_cases hm : l[i] ∈ l.take i
    · rw [decide_eq_false (not_nodup_of l i _ ex hm)]
      exact ev_const (fun k => by rw [if_pos (decide_eq_true hm)])
    · have hsn := take_snoc l i _ ex
      refine Ev.congr (fun k => by rw [if_neg (by simpa using hm)]) (ih (i + 1) (by omega) ?_)
      rw [hsn, nodup_snoc]; exact ⟨hn, hm⟩
theorem different_ev (l : List S67) (hl : l.length ≤ 9223372036854775800) : Ev (fun k => impl_areDifferent_Tile.f k l) (decide l.Nodup) :=
  different_loop l hl l.length 0 (by omega) (by simp)
theorem IsHand_ev (l : List S67) : Ev (fun k => impl_IsHand.f k l) (handB l) := by
  unfold impl_IsHand.f handB
  by_cases h : l.length ≤ 55
  · rw [decide_eq_true h, Bool.true_and]
    by_cases hg : l.any (fun t => !goodT t) = true
    · have : l.all goodT = false := by rw [← Bool.not_eq_true', List.not_all_eq_any_not]; exact hg
      rw [this, Bool.false_and]
      exact ev_const (fun k => by rw [if_pos h, if_pos hg])
    · have hg' : l.all goodT = true := by
        have : (!l.all goodT) = false := by rw [List.not_all_eq_any_not]; simpa using hg
        simpa using this
      rw [hg', Bool.true_and]
      exact Ev.congr (fun k => by rw [if_pos h, if_neg hg]) (different_ev l (by omega))
  · rw [decide_eq_false h, Bool.false_and]
    exact ev_const (fun k => by rw [if_neg h])
theorem handB_len {l : List S67} (h : handB l = true) : l.length ≤ 55 := by
  unfold handB at h; simp at h; exact h.1
theorem handB_good {l : List S67} (h : handB l = true) : ∀ x ∈ l, goodT x = true := by
  unfold handB at h; simp at h; exact h.2.1
theorem handB_nodup {l : List S67} (h : handB l = true) : l.Nodup := by
  unfold handB at h; simp at h; exact h.2.2
theorem goodT_iff (t : S67) : goodT t = true ↔ 0 ≤ t.f0 ∧ t.f0 ≤ t.f1 ∧ t.f1 ≤ 9 := by
  unfold goodT; simp

end Go.Proofs.Ytdpimdaofikmjaa.Q
