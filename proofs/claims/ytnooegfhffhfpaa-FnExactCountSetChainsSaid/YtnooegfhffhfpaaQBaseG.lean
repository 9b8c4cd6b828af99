/- Plain lists and numbers: what the program's functions and the reference's compute. -/
import Derived.Test.YtnooegfhffhfpaaP0
import Derived.Test.YtnooegfhffhfpaaPIb
import Derived.Test.YtnooegfhffhfpaaPIw
import Derived.Test.YtnooegfhffhfpaaPSa
import Derived.Test.YtnooegfhffhfpaaPSb
import Derived.Test.YtnooegfhffhfpaaPSk
import Derived.Test.YtnooegfhffhfpaaQBaseF
namespace Go.Proofs.Ytnooegfhffhfpaa.Q
open Go.RowKit Go.Proofs.Ytnooegfhffhfpaa.P Go.Proofs.YtnooegfhffhfpaaW.PrintWords Go.Proofs.YtnooegfhffhfpaaW.PrintLast Go.Proofs.YtnooegfhffhfpaaW.PrintMore
set_option linter.unusedVariables false
set_option linter.unusedSimpArgs false

/-! HasI -/
theorem hasI_loop (l : List Int) (n : Int) (hl : l.length ≤ 1000000000) : ∀ d i, i + d = l.length → Ev (fun k => spec_l1Has.l0 k n l (l.length : Int) (i : Int)) (decide (n ∈ l.drop i)) := by
  intro d
  induction d with
  | zero =>
    intro i h
    refine ⟨1, fun k hk => ?_⟩
    obtain ⟨k, rfl⟩ : ∃ m, k = m + 1 := ⟨k - 1, by omega⟩
    simp only [spec_l1Has.l0]
    rw [if_neg (by omega), List.drop_of_length_le (by omega)]
    simp
  | succ d ih =>
    intro i h
    have hi : i < l.length := by omega
    have ex := List.getElem?_eq_getElem hi
    rw [List.drop_eq_getElem_cons hi]
    by_cases e : l[i] = n
    · rw [decide_eq_true (by rw [e]; exact List.mem_cons_self)]
      refine Ev.step (f := fun _ => some true) (fun k => ?_) (Ev.now _)
      simp only [spec_l1Has.l0]
      rw [if_pos (by omega), if_pos (by omega), if_pos (by omega), rd_nat l i _ ex, if_pos e]
    · have : decide (n ∈ l[i] :: l.drop (i + 1)) = decide (n ∈ l.drop (i + 1)) := by
        rw [decide_eq_decide, List.mem_cons]
        exact ⟨fun h => h.resolve_left (fun h => e h.symm), .inr⟩
      rw [this]
      refine Ev.step (fun k => ?_) (ih (i + 1) (by omega))
      simp only [spec_l1Has.l0]
      rw [if_pos (by omega), if_pos (by omega), if_pos (by omega), rd_nat l i _ ex, if_neg e, wrap_succ (by omega)]
theorem hasI_ev (l : List Int) (n : Int) (hl : l.length ≤ 1000000000) : Ev (fun k => spec_l1Has.f k l n) (decide (n ∈ l)) := by
  have := hasI_loop l n hl l.length 0 (by omega)
  rwa [List.drop_zero] at this
/-! SetNE -/
def pairT (t : S39) : Int × Int := (t.f0, t.f1)
theorem pairs_inj : ∀ a b : List S39, a.map pairT = b.map pairT → a = b
  | [], [], _ => rfl
  | x :: a, y :: b, h => by
    simp only [List.map_cons, List.cons.injEq] at h
    have h1 : x = y := (tile_ext x y).2 (by have := h.1; simp only [pairT, Prod.mk.injEq] at this; exact this)
    rw [h1, pairs_inj a b h.2]
  | [], _ :: _, h => by cases h
  | _ :: _, [], h => by cases h
/-- The set of n. -/
def setN (n : Nat) : List S39 := (List.range (n + 1)).flatMap fun (a : Nat) => ((List.range (n + 1)).filter fun (b : Nat) => decide (a ≤ b)).map fun (b : Nat) => ⟨((a : Nat) : Int), ((b : Nat) : Int)⟩
theorem tiSet_eval (n : Nat) (h : n < 10) : spec_tiSet.f 200 (n : Int) = some (setN n) := by
  have H : ∀ m : Fin 10, ((spec_tiSet.f 200 ((m.val : Nat) : Int)).map (·.map pairT)) = some ((setN m.val).map pairT) := by decide +kernel
  have := H ⟨n, h⟩
  simp only [Option.map_eq_some_iff] at this
  obtain ⟨a, ha, he⟩ := this
  rw [ha, pairs_inj _ _ he]
theorem setN_length (n : Nat) (h : n < 10) : (setN n).length ≤ 55 := by
  have H : ∀ m : Fin 10, (setN m.val).length ≤ 55 := by decide +kernel
  exact H ⟨n, h⟩
theorem tiSet_ev (n : Nat) (h : n < 10) : Ev (fun k => spec_tiSet.f k (n : Int)) (setN n) := Ev.of (fun k => spec_tiSet.mono _ _) (tiSet_eval n h)
/-! PickE -/
theorem tiPick_loop (l : List S39) (b : Bool) (s : List S39) (hs : s.length ≤ 1000000000) (hl : l.length ≤ 1000000000) : ∀ d i (acc : List S39), i + d = s.length → acc.length ≤ i → Ev (fun k => spec_tiPick.l0 k l b acc s (s.length : Int) (i : Int)) (acc ++ (s.drop i).filter fun t => decide (t ∈ l) == b) := by
  intro d
  induction d with
  | zero =>
    intro i acc h ha
    refine ⟨1, fun k hk => ?_⟩
    obtain ⟨k, rfl⟩ : ∃ m, k = m + 1 := ⟨k - 1, by omega⟩
    simp only [spec_tiPick.l0]
    rw [if_neg (by omega), List.drop_of_length_le (by omega)]
    simp
  | succ d ih =>
    intro i acc h ha
    have hi : i < s.length := by omega
    obtain ⟨x, hx⟩ : ∃ x, s[i]? = some x := ⟨_, List.getElem?_eq_getElem hi⟩
    have hd : s.drop i = x :: s.drop (i + 1) := by
      rw [List.drop_eq_getElem_cons hi]
      rw [List.getElem?_eq_getElem hi] at hx
      cases hx; rfl
    have hc : (decide (placeT l x ≥ 0) == b) = (decide (x ∈ l) == b) := by
      have := placeT_nonneg l x
      by_cases c : x ∈ l
      · rw [decide_eq_true c, decide_eq_true (this.2 c)]
      · rw [decide_eq_false c, decide_eq_false (fun h => c (this.1 h))]
    refine Ev.step (f := fun k => (spec_tiPlace.f k l x.f0 x.f1).bind fun t => if ((decide (t ≥ 0)) == b) = true then (if acc.length < 8796093022208 then spec_tiPick.l0 k l b (acc ++ [x]) s (s.length : Int) ((i + 1 : Nat) : Int) else none) else spec_tiPick.l0 k l b acc s (s.length : Int) ((i + 1 : Nat) : Int)) (fun k => ?_) (Ev.bind (tiPlace_ev l x (by omega)) ?_)
    · simp only [spec_tiPick.l0]
      rw [if_pos (by omega), if_pos (by omega), if_pos (by omega), rdT_nat s i x hx, wrap_succ (by omega)]
    · rw [hd]
      by_cases c : (decide (x ∈ l) == b) = true
      · have := ih (i + 1) (acc ++ [x]) (by omega) (by simp; omega)
        rw [List.filter_cons, if_pos c]
        rw [List.append_assoc] at this
        exact Ev.congr (fun k => by rw [if_pos (hc.trans c), if_pos (by omega)]) this
      · have := ih (i + 1) acc (by omega) (by omega)
        rw [List.filter_cons, if_neg c]
        exact Ev.congr (fun k => by rw [if_neg (by rw [hc]; exact c)]) this
theorem tiPick_ev (n : Nat) (h : n < 10) (l : List S39) (b : Bool) (hl : l.length ≤ 1000000000) : Ev (fun k => spec_tiPick.f k (n : Int) l b) ((setN n).filter fun t => decide (t ∈ l) == b) := by
  have hn := setN_length n h
  have := tiPick_loop l b (setN n) (by omega) hl (setN n).length 0 [] (by omega) (by simp)
  exact Ev.bind (f := fun k s => spec_tiPick.l0 k l b [] s (s.length : Int) 0) (tiSet_ev n h) this
/-- The tiles of a list, each once, sorted. -/
def sortN (l : List S39) : List S39 := (setN 9).filter fun t => decide (t ∈ l) == true
theorem sortN_length (l : List S39) : (sortN l).length ≤ 55 := Nat.le_trans (List.length_filter_le _ _) (setN_length 9 (by omega))
theorem tiSort_ev (l : List S39) (hl : l.length ≤ 1000000000) : Ev (fun k => spec_tiSort.f k l) (sortN l) := Ev.bind (tiPick_ev 9 (by omega) l true hl) (Ev.now _)
/-! SortedE -/
theorem mem_setN9 (t : S39) : t ∈ setN 9 ↔ goodT t = true := by
  rw [goodT_iff]
  unfold setN
  simp only [List.mem_flatMap, List.mem_map, List.mem_filter, List.mem_range, decide_eq_true_eq]
  constructor
  · rintro ⟨a, ha, b, ⟨hb, hab⟩, rfl⟩
    refine ⟨?_, ?_, ?_⟩ <;> simp only <;> omega
  · rintro ⟨h1, h2, h3⟩
    refine ⟨t.f0.toNat, by omega, t.f1.toNat, ⟨by omega, by omega⟩, ?_⟩
    rw [tile_ext]
    simp only
    omega
theorem setN9_sorted : (setN 9).Pairwise fun a b => leT a b = true ∧ a ≠ b := by
  have H : ((setN 9).map pairT).Pairwise (fun a b => a.1 < b.1 ∨ (a.1 = b.1 ∧ a.2 < b.2)) := by decide +kernel
  rw [List.pairwise_map] at H
  refine H.imp ?_
  intro a b h
  simp only [pairT] at h
  refine ⟨by rw [leT_iff]; omega, fun e => ?_⟩
  subst e
  omega
theorem sortN_sorted (l : List S39) : (sortN l).Pairwise fun a b => leT a b = true := (setN9_sorted.imp fun h => h.1).sublist List.filter_sublist
theorem sortN_nodup (l : List S39) : (sortN l).Nodup := (setN9_sorted.imp fun h => h.2).sublist List.filter_sublist
theorem mem_sortN {l : List S39} (h : ∀ x ∈ l, goodT x = true) (t : S39) : t ∈ sortN l ↔ t ∈ l := by
  unfold sortN
  rw [List.mem_filter, mem_setN9]
  simp only [beq_iff_eq, decide_eq_true_eq]
  exact ⟨fun h => h.2, fun ht => ⟨h t ht, ht⟩⟩
theorem sortN_good (l : List S39) : ∀ x ∈ sortN l, goodT x = true := by
  intro x hx
  exact (mem_setN9 x).1 (List.mem_filter.1 hx).1
/-- A sorted list of different tiles is its own sorting. -/
theorem sortN_self {l : List S39} (h : ∀ x ∈ l, goodT x = true) (hs : l.Pairwise fun a b => leT a b = true) (hn : l.Nodup) : sortN l = l := by
  refine List.Perm.eq_of_pairwise (le := fun a b => leT a b = true) (fun a b _ _ => leT_anti a b) (sortN_sorted l) hs ?_
  rw [List.perm_ext_iff_of_nodup (sortN_nodup l) hn]
  exact mem_sortN h
theorem mergeSort_eq {l : List S39} (h : ∀ x ∈ l, goodT x = true) (hn : l.Nodup) : l.mergeSort leT = sortN l := by
  refine List.Perm.eq_of_pairwise (le := fun a b => leT a b = true) (fun a b _ _ => leT_anti a b) (List.pairwise_mergeSort leT_trans leT_total l) (sortN_sorted l) ?_
  refine (List.mergeSort_perm l leT).trans ?_
  rw [List.perm_ext_iff_of_nodup hn (sortN_nodup l)]
  intro t
  exact (mem_sortN h t).symm
theorem good_in {x : S39} (h : goodT x = true) : inT x := by
  rw [goodT_iff] at h
  unfold inT
  omega
theorem sorted_some {l : List S39} (h : ∀ x ∈ l, goodT x = true) (hn : l.Nodup) (hl : l.length ≤ 1000000000) : impl_sorted.f l = some (sortN l) := by
  unfold impl_sorted.f
  rw [if_pos ⟨by omega, fun x hx => good_in (h x hx)⟩, mergeSort_eq h hn]
/-! ThoseE -/
theorem tiThose_loop (l : List S39) (b : Bool) (s : List S39) (hs : s.length ≤ 1000000000) (hl : l.length ≤ 1000000000) : ∀ d i (acc : List S39), i + d = s.length → acc.length ≤ i → Ev (fun k => spec_tiThose.l0 k l b acc s (s.length : Int) (i : Int)) (acc ++ (s.drop i).filter fun t => decide (t ∈ l) == b) := by
  intro d
  induction d with
  | zero =>
    intro i acc h ha
    refine ⟨1, fun k hk => ?_⟩
    obtain ⟨k, rfl⟩ : ∃ m, k = m + 1 := ⟨k - 1, by omega⟩
    simp only [spec_tiThose.l0]
    rw [if_neg (by omega), List.drop_of_length_le (by omega)]
    simp
  | succ d ih =>
    intro i acc h ha
    have hi : i < s.length := by omega
    obtain ⟨x, hx⟩ : ∃ x, s[i]? = some x := ⟨_, List.getElem?_eq_getElem hi⟩
    have hd : s.drop i = x :: s.drop (i + 1) := by
      rw [List.drop_eq_getElem_cons hi]
      rw [List.getElem?_eq_getElem hi] at hx
      cases hx; rfl
    have hc : (decide (placeT l x ≥ 0) == b) = (decide (x ∈ l) == b) := by
      have := placeT_nonneg l x
      by_cases c : x ∈ l
      · rw [decide_eq_true c, decide_eq_true (this.2 c)]
      · rw [decide_eq_false c, decide_eq_false (fun h => c (this.1 h))]
    refine Ev.step (f := fun k => (spec_tiPlace.f k l x.f0 x.f1).bind fun t => if ((decide (t ≥ 0)) == b) = true then (if acc.length < 8796093022208 then spec_tiThose.l0 k l b (acc ++ [x]) s (s.length : Int) ((i + 1 : Nat) : Int) else none) else spec_tiThose.l0 k l b acc s (s.length : Int) ((i + 1 : Nat) : Int)) (fun k => ?_) (Ev.bind (tiPlace_ev l x (by omega)) ?_)
    · simp only [spec_tiThose.l0]
      rw [if_pos (by omega), if_pos (by omega), if_pos (by omega), rdT_nat s i x hx, wrap_succ (by omega)]
    · rw [hd]
      by_cases c : (decide (x ∈ l) == b) = true
      · have := ih (i + 1) (acc ++ [x]) (by omega) (by simp; omega)
        rw [List.filter_cons, if_pos c]
        rw [List.append_assoc] at this
        exact Ev.congr (fun k => by rw [if_pos (hc.trans c), if_pos (by omega)]) this
      · have := ih (i + 1) acc (by omega) (by omega)
        rw [List.filter_cons, if_neg c]
        exact Ev.congr (fun k => by rw [if_neg (by rw [hc]; exact c)]) this
theorem tiThose_ev (a l : List S39) (b : Bool) (ha : a.length ≤ 1000000000) (hl : l.length ≤ 1000000000) : Ev (fun k => spec_tiThose.f k a l b) ((sortN a).filter fun t => decide (t ∈ l) == b) := by
  have hn := sortN_length a
  have := tiThose_loop l b (sortN a) (by omega) hl (sortN a).length 0 [] (by omega) (by simp)
  exact Ev.bind (f := fun k s => spec_tiThose.l0 k l b [] s (s.length : Int) 0) (tiSort_ev a ha) this
/-! Reach -/
theorem Conn.congr {a b : List S39} (h : ∀ x, x ∈ a → x ∈ b) {u v : Int} (c : Conn a u v) : Conn b u v := by
  induction c with
  | refl => exact .refl _
  | fwd t _ ht ih => exact .fwd t ih (h t ht)
  | bwd t _ ht ih => exact .bwd t ih (h t ht)
/-- What a tile adds to the numbers that are reached, from the number r. -/
def addT (r : Int) (R : List Int) (t : S39) : List Int :=
  if r = t.f0 then (if t.f1 ∈ R then R else R ++ [t.f1]) else if r = t.f1 then (if t.f0 ∈ R then R else R ++ [t.f0]) else R
structure RInv (h : List S39) (n : Int) (R : List Int) : Prop where
  nodup : R.Nodup
  conn : ∀ x ∈ R, Conn h n x
  start : n ∈ R
theorem nodup_snocI (l : List Int) (x : Int) (h : l.Nodup) (hx : x ∉ l) : (l ++ [x]).Nodup := by
  rw [List.nodup_append]
  exact ⟨h, by simp, fun a ha b hb => by simp at hb; subst hb; rintro rfl; exact hx ha⟩
theorem addT_inv {h : List S39} {n r : Int} {R : List Int} (H : RInv h n R) (hr : r ∈ R) {t : S39} (ht : t ∈ h) : RInv h n (addT r R t) ∧ (∃ e, addT r R t = R ++ e) ∧ (t.f0 = r → t.f1 ∈ addT r R t) ∧ (t.f1 = r → t.f0 ∈ addT r R t) := by
  unfold addT
  by_cases c : r = t.f0
  · rw [if_pos c]
    have h1 : Conn h n t.f1 := .fwd t (by rw [← c]; exact H.conn r hr) ht
    by_cases d : t.f1 ∈ R
    · rw [if_pos d]
      exact ⟨H, ⟨[], by simp⟩, fun _ => d, fun _ => by rw [← c]; exact hr⟩
    · rw [if_neg d]
      refine ⟨⟨nodup_snocI _ _ H.nodup d, fun x hx => ?_, List.mem_append_left _ H.start⟩, ⟨_, rfl⟩, fun _ => by simp, fun _ => by rw [← c]; exact List.mem_append_left _ hr⟩
      rcases List.mem_append.1 hx with hx | hx
      · exact H.conn x hx
      · rw [List.mem_singleton.1 hx]; exact h1
  · rw [if_neg c]
    by_cases c1 : r = t.f1
    · rw [if_pos c1]
      have h1 : Conn h n t.f0 := .bwd t (by rw [← c1]; exact H.conn r hr) ht
      by_cases d : t.f0 ∈ R
      · rw [if_pos d]
        exact ⟨H, ⟨[], by simp⟩, fun e => absurd e.symm c, fun _ => d⟩
      · rw [if_neg d]
        refine ⟨⟨nodup_snocI _ _ H.nodup d, fun x hx => ?_, List.mem_append_left _ H.start⟩, ⟨_, rfl⟩, fun e => absurd e.symm c, fun _ => by simp⟩
        rcases List.mem_append.1 hx with hx | hx
        · exact H.conn x hx
        · rw [List.mem_singleton.1 hx]; exact h1
    · rw [if_neg c1]
      exact ⟨H, ⟨[], by simp⟩, fun e => absurd e.symm c, fun e => absurd e.symm c1⟩
theorem pass_inv {h : List S39} {n r : Int} : ∀ (ts : List S39) (R : List Int), RInv h n R → r ∈ R → (∀ t ∈ ts, t ∈ h) → RInv h n (ts.foldl (addT r) R) ∧ (∃ e, ts.foldl (addT r) R = R ++ e) ∧ ∀ t ∈ ts, (t.f0 = r → t.f1 ∈ ts.foldl (addT r) R) ∧ (t.f1 = r → t.f0 ∈ ts.foldl (addT r) R)
  | [], R, H, _, _ => ⟨H, ⟨[], by simp⟩, fun t ht => by cases ht⟩
  | t :: ts, R, H, hr, hts => by
    obtain ⟨H1, ⟨e1, he1⟩, a, b⟩ := addT_inv H hr (hts t List.mem_cons_self)
    have hr1 : r ∈ addT r R t := by rw [he1]; exact List.mem_append_left _ hr
    obtain ⟨H2, ⟨e2, he2⟩, c⟩ := pass_inv ts (addT r R t) H1 hr1 (fun x hx => hts x (List.mem_cons_of_mem _ hx))
    refine ⟨H2, ⟨e1 ++ e2, by rw [List.foldl_cons, he2, he1, List.append_assoc]⟩, fun x hx => ?_⟩
    rcases List.mem_cons.1 hx with rfl | hx
    · rw [List.foldl_cons, he2]
      exact ⟨fun e => List.mem_append_left _ (a e), fun e => List.mem_append_left _ (b e)⟩
    · exact c x hx
/-- The first k numbers that are reached are used up: what hangs at them is reached. -/
def Used (h : List S39) (R : List Int) (k : Nat) : Prop := ∀ j, j < k → ∀ r, R[j]? = some r → ∀ t ∈ h, (t.f0 = r → t.f1 ∈ R) ∧ (t.f1 = r → t.f0 ∈ R)
theorem Used.pass {h : List S39} {n r : Int} {R : List Int} {k : Nat} (H : RInv h n R) (hu : Used h R k) (hr : R[k]? = some r) : RInv h n (h.foldl (addT r) R) ∧ Used h (h.foldl (addT r) R) (k + 1) ∧ ∃ e, h.foldl (addT r) R = R ++ e := by
  obtain ⟨H2, ⟨e, he⟩, c⟩ := pass_inv h R H (List.mem_of_getElem? hr) (fun t ht => ht)
  have hk := (List.getElem?_eq_some_iff.1 hr).1
  refine ⟨H2, fun j hj q hq t ht => ?_, ⟨e, he⟩⟩
  rw [he, List.getElem?_append_left (by omega)] at hq
  by_cases ej : j = k
  · subst ej
    rw [hr] at hq
    cases hq
    exact c t ht
  · have := hu j (by omega) q hq t ht
    rw [he]
    exact ⟨fun e => List.mem_append_left _ (this.1 e), fun e => List.mem_append_left _ (this.2 e)⟩
theorem used_all {h : List S39} {n : Int} {R : List Int} (H : RInv h n R) (hu : Used h R R.length) (v : Int) : v ∈ R ↔ Conn h n v := by
  refine ⟨H.conn v, fun c => ?_⟩
  induction c with
  | refl => exact H.start
  | fwd t _ ht ih =>
    obtain ⟨j, hj⟩ := List.getElem?_of_mem ih
    exact (hu j (List.getElem?_eq_some_iff.1 hj).1 _ hj t ht).1 rfl
  | bwd t _ ht ih =>
    obtain ⟨j, hj⟩ := List.getElem?_of_mem ih
    exact (hu j (List.getElem?_eq_some_iff.1 hj).1 _ hj t ht).2 rfl
/-! Part -/
theorem nodup_leI : ∀ (l s : List Int), l.Nodup → (∀ x ∈ l, x ∈ s) → l.length ≤ s.length
  | [], s, _, _ => Nat.zero_le _
  | x :: l, s, hn, hs => by
    obtain ⟨h1, h2⟩ := List.nodup_cons.1 hn
    have hx := hs x List.mem_cons_self
    have := nodup_leI l (s.erase x) h2 (fun y hy => (List.mem_erase_of_ne (fun e => h1 (by rw [← e]; exact hy))).2 (hs y (List.mem_cons_of_mem _ hy)))
    rw [List.length_erase_of_mem hx] at this
    have hp := List.length_pos_of_mem hx
    rw [List.length_cons]
    omega
theorem reached_le {h : List S39} (hg : ∀ t ∈ h, goodT t = true) {n : Int} {R : List Int} (H : RInv h n R) (hn : 0 ≤ n ∧ n ≤ 9) : R.length ≤ 10 := by
  have := nodup_leI R [0, 1, 2, 3, 4, 5, 6, 7, 8, 9] H.nodup (fun x hx => by
    have := conn_dom hg (H.conn x hx) hn
    simp only [List.mem_cons, List.not_mem_nil, or_false]
    omega)
  exact this
theorem whPart_l2 (R : List Int) (hR : R.length ≤ 1000) (s : List S39) (hs : s.length ≤ 1000000000) : ∀ (d i : Nat) (acc : List S39), i + d = s.length → acc.length ≤ i → Ev (fun k => spec_whPart.l2 k R acc s (s.length : Int) (i : Int)) (acc ++ (s.drop i).filter fun t => decide (t.f0 ∈ R)) := by
  intro d
  induction d with
  | zero =>
    intro i acc h ha
    refine ⟨1, fun k hk => ?_⟩
    obtain ⟨k, rfl⟩ : ∃ m, k = m + 1 := ⟨k - 1, by omega⟩
    simp only [spec_whPart.l2]
    rw [if_neg (by omega), List.drop_of_length_le (by omega)]
    simp
  | succ d ih =>
    intro i acc h ha
    have hi : i < s.length := by omega
    obtain ⟨x, hx⟩ : ∃ x, s[i]? = some x := ⟨_, List.getElem?_eq_getElem hi⟩
    have hd : s.drop i = x :: s.drop (i + 1) := by
      rw [List.drop_eq_getElem_cons hi]
      rw [List.getElem?_eq_getElem hi] at hx
      cases hx; rfl
    refine Ev.step (f := fun k => (spec_l1Has.f k R x.f0).bind fun t => if t = true then (if acc.length < 8796093022208 then spec_whPart.l2 k R (acc ++ [x]) s (s.length : Int) ((i + 1 : Nat) : Int) else none) else spec_whPart.l2 k R acc s (s.length : Int) ((i + 1 : Nat) : Int)) (fun k => ?_) (Ev.bind (hasI_ev R x.f0 (by omega)) ?_)
    · simp only [spec_whPart.l2]
      rw [if_pos (by omega), if_pos (by omega), if_pos (by omega), rdT_nat s i x hx, wrap_succ (by omega)]
    · rw [hd, List.filter_cons]
      by_cases c : x.f0 ∈ R
      · have := ih (i + 1) (acc ++ [x]) (by omega) (by simp; omega)
        rw [List.append_assoc] at this
        rw [if_pos (decide_eq_true c)]
        exact Ev.congr (fun k => by rw [if_pos (decide_eq_true c), if_pos (by omega)]) this
      · have := ih (i + 1) acc (by omega) (by omega)
        rw [if_neg (by simpa using c)]
        exact Ev.congr (fun k => by rw [if_neg (by simpa using c)]) this
theorem whPart_l1 (h : List S39) (hl : h.length ≤ 1000000) (kk : Nat) (r : Int) (hkk : kk ≤ 1000) (res : List S39) : ∀ (d i : Nat) (R : List Int), i + d = h.length → R[kk]? = some r → R.length ≤ 1000 + i → Ev (fun k => spec_whPart.l0 k h ((h.drop i).foldl (addT r) R) ((kk + 1 : Nat) : Int)) res → Ev (fun k => spec_whPart.l1 k h R (kk : Int) h (h.length : Int) (i : Int)) res := by
  intro d
  induction d with
  | zero =>
    intro i R hid hr hR hres
    rw [List.drop_of_length_le (by omega)] at hres
    refine Ev.step (fun k => ?_) hres
    simp only [spec_whPart.l1, List.foldl_nil]
    rw [if_neg (by omega), wrap_succ (by omega)]
  | succ d ih =>
    intro i R hid hr hR hres
    have hi : i < h.length := by omega
    obtain ⟨x, hx⟩ : ∃ x, h[i]? = some x := ⟨_, List.getElem?_eq_getElem hi⟩
    have hd : h.drop i = x :: h.drop (i + 1) := by
      rw [List.drop_eq_getElem_cons hi]
      rw [List.getElem?_eq_getElem hi] at hx
      cases hx; rfl
    rw [hd, List.foldl_cons] at hres
    have hkl := (List.getElem?_eq_some_iff.1 hr).1
    have hal : ∃ e, addT r R x = R ++ e ∧ e.length ≤ 1 := by
      unfold addT
      by_cases c : r = x.f0
      · rw [if_pos c]
        by_cases m : x.f1 ∈ R
        · rw [if_pos m]; exact ⟨[], by simp, by simp⟩
        · rw [if_neg m]; exact ⟨_, rfl, by simp⟩
      · rw [if_neg c]
        by_cases c1 : r = x.f1
        · rw [if_pos c1]
          by_cases m : x.f0 ∈ R
          · rw [if_pos m]; exact ⟨[], by simp, by simp⟩
          · rw [if_neg m]; exact ⟨_, rfl, by simp⟩
        · rw [if_neg c1]; exact ⟨[], by simp, by simp⟩
    obtain ⟨e, he, hel⟩ := hal
    have next := ih (i + 1) (addT r R x) (by omega) (by rw [he, List.getElem?_append_left hkl]; exact hr) (by rw [he, List.length_append]; omega) hres
    have hrd : rd R (kk : Int) = r := rd_nat R kk r hr
    by_cases c : r = x.f0
    · have ha : addT r R x = if x.f1 ∈ R then R else R ++ [x.f1] := by unfold addT; rw [if_pos c]
      refine Ev.step (f := fun k => (spec_l1Has.f k R x.f1).bind fun t => if t = true then spec_whPart.l1 k h R (kk : Int) h (h.length : Int) ((i + 1 : Nat) : Int) else (if R.length < 17592186044416 then spec_whPart.l1 k h (R ++ [x.f1]) (kk : Int) h (h.length : Int) ((i + 1 : Nat) : Int) else none)) (fun k => ?_) (Ev.bind (hasI_ev R x.f1 (by omega)) ?_)
      · simp only [spec_whPart.l1]
        rw [if_pos (by omega), if_pos (by omega), if_pos (by omega), if_pos (by omega), if_pos (by omega), rdT_nat h i x hx, hrd, if_pos c, wrap_succ (by omega)]
      · rw [ha] at next
        by_cases m : x.f1 ∈ R
        · rw [if_pos m] at next
          exact Ev.congr (fun k => by rw [if_pos (decide_eq_true m)]) next
        · rw [if_neg m] at next
          exact Ev.congr (fun k => by rw [if_neg (by simpa using m), if_pos (by omega)]) next
    · by_cases c1 : r = x.f1
      · have ha : addT r R x = if x.f0 ∈ R then R else R ++ [x.f0] := by unfold addT; rw [if_neg c, if_pos c1]
        refine Ev.step (f := fun k => (spec_l1Has.f k R x.f0).bind fun t => if t = true then spec_whPart.l1 k h R (kk : Int) h (h.length : Int) ((i + 1 : Nat) : Int) else (if R.length < 17592186044416 then spec_whPart.l1 k h (R ++ [x.f0]) (kk : Int) h (h.length : Int) ((i + 1 : Nat) : Int) else none)) (fun k => ?_) (Ev.bind (hasI_ev R x.f0 (by omega)) ?_)
        · simp only [spec_whPart.l1]
          rw [if_pos (by omega), if_pos (by omega), if_pos (by omega), if_pos (by omega), if_pos (by omega), rdT_nat h i x hx, hrd, if_neg c, if_pos c1, wrap_succ (by omega)]
        · rw [ha] at next
          by_cases m : x.f0 ∈ R
          · rw [if_pos m] at next
            exact Ev.congr (fun k => by rw [if_pos (decide_eq_true m)]) next
          · rw [if_neg m] at next
            exact Ev.congr (fun k => by rw [if_neg (by simpa using m), if_pos (by omega)]) next
      · have ha : addT r R x = R := by unfold addT; rw [if_neg c, if_neg c1]
        rw [ha] at next
        refine Ev.step (fun k => ?_) next
        simp only [spec_whPart.l1]
        rw [if_pos (by omega), if_pos (by omega), if_pos (by omega), if_pos (by omega), if_pos (by omega), rdT_nat h i x hx, hrd, if_neg c, if_neg c1, wrap_succ (by omega)]
theorem whPart_l0 {h : List S39} (hg : ∀ t ∈ h, goodT t = true) (hl : h.length ≤ 1000000) {n : Int} (hn : 0 ≤ n ∧ n ≤ 9) : ∀ (d kk : Nat) (R : List Int), kk + d = 10 → RInv h n R → Used h R kk → ∃ R' : List Int, (∀ v, v ∈ R' ↔ Conn h n v) ∧ Ev (fun k => spec_whPart.l0 k h R (kk : Int)) ((sortN h).filter fun t => decide (t.f0 ∈ R')) := by
  intro d
  have fin : ∀ (kk : Nat) (R : List Int), ¬ kk < R.length → RInv h n R → Used h R kk → ∃ R' : List Int, (∀ v, v ∈ R' ↔ Conn h n v) ∧ Ev (fun k => spec_whPart.l0 k h R (kk : Int)) ((sortN h).filter fun t => decide (t.f0 ∈ R')) := by
    intro kk R hkk H hu
    have hR := reached_le hg H hn
    have hu' : Used h R R.length := fun j hj => hu j (by omega)
    refine ⟨R, used_all H hu', ?_⟩
    have hs := sortN_length h
    have h2 := whPart_l2 R (by omega) (sortN h) (by omega) (sortN h).length 0 [] (by omega) (by simp)
    refine Ev.step (f := fun k => (spec_tiSort.f k h).bind fun t => spec_whPart.l2 k R [] t (t.length : Int) 0) (fun k => ?_) (Ev.bind (tiSort_ev h (by omega)) h2)
    simp only [spec_whPart.l0]
    rw [if_neg (by omega)]
  induction d with
  | zero =>
    intro kk R hd H hu
    have hR := reached_le hg H hn
    exact fin kk R (by omega) H hu
  | succ d ih =>
    intro kk R hd H hu
    by_cases hkk : kk < R.length
    · have hR := reached_le hg H hn
      obtain ⟨r, hr⟩ : ∃ r, R[kk]? = some r := ⟨_, List.getElem?_eq_getElem hkk⟩
      obtain ⟨H2, hu2, _⟩ := Used.pass H hu hr
      obtain ⟨R', h1, h2⟩ := ih (kk + 1) _ (by omega) H2 hu2
      refine ⟨R', h1, ?_⟩
      have := whPart_l1 h hl kk r (by omega) _ h.length 0 R (by omega) hr (by omega) (by rw [List.drop_zero]; exact h2)
      refine Ev.step (fun k => ?_) this
      simp only [spec_whPart.l0]
      rw [if_pos (by omega)]
      rfl
    · exact fin kk R hkk H hu
theorem whPart_ev {h : List S39} (hg : ∀ t ∈ h, goodT t = true) (hl : h.length ≤ 1000000) {n : Int} (hn : 0 ≤ n ∧ n ≤ 9) : ∃ R' : List Int, (∀ v, v ∈ R' ↔ Conn h n v) ∧ Ev (fun k => spec_whPart.f k h n) ((sortN h).filter fun t => decide (t.f0 ∈ R')) :=
  whPart_l0 hg hl hn 10 0 [n] (by omega) ⟨by simp, fun x hx => by rw [List.mem_singleton.1 hx]; exact .refl _, by simp⟩ (fun j hj => absurd hj (Nat.not_lt_zero _))
/-- All tiles hang together. -/
def OneC (h : List S39) : Prop := ∀ t ∈ h, ∀ u ∈ h, Conn h t.f0 u.f0

end Go.Proofs.Ytnooegfhffhfpaa.Q
