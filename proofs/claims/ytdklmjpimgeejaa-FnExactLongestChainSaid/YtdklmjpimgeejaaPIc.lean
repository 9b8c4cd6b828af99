-- Printed by a program of this session (wip/myprint.py, which drives the kit's print): what one function of the program does, and the proof that its call does so.
import Derived.Deep.RegionLaw
import Derived.Lib.SliceRun
import Derived.WalkSpells
import Derived.Test.YtdklmjpimgeejaaP0
import Derived.Test.YtdklmjpimgeejaaPIy
namespace Go.Proofs.Ytdklmjpimgeejaa.P
open Go.RowKit Go.Proofs.YtdklmjpimgeejaaW.PrintWords Go.Proofs.YtdklmjpimgeejaaW.PrintLast Go.Proofs.YtdklmjpimgeejaaW.PrintMore
attribute [local go_sem] max2_int min2_int max_two min_two max_three min_three max_four min_four   -- for this text's walks alone
set_option linter.unusedVariables false
set_option linter.unusedSimpArgs false

section
/-! ### impl_tile: function 37 -/
def impl_tile.f (a0 : Int) (a1 : Int) : Option (Int × Int) := some (mn a0 a1, mx a0 a1)
set_option maxHeartbeats 8000000 in
set_option maxRecDepth 100000 in
theorem impl_tile.calls (a0 : Int) (a1 : Int) (r1 : Int) (r2 : Int) (w : World) (h : impl_tile.f a0 a1 = some (r1, r2)) :
  Calls Try.prog 37 #[.int .i64 a0, .int .i64 a1] w fun e w' => e = .returned (.agg #[.int .i64 r1, .int .i64 r2]) ∧ Below w.heap.size w w' := by
 have hu45 := Try.underlying45
 have HB := aM (Below.refl w.heap.size w)
 have H : (some (mn a0 a1, mx a0 a1)) = some (r1, r2) := h
 clear h
 obtain ⟨ji3, hji3⟩ : ∃ j_ : Int, (mn a0 a1) = j_ := ⟨_, rfl⟩
 replace H : (some (ji3, mx a0 a1)) = some (r1, r2) := by first | (rw [hji3] at H; exact H) | (simp only [hji3] at H ⊢; exact H)
 have hji3_ : (if a1 < a0 then a1 else a0) = ji3 := hji3
 obtain ⟨ji4, hji4⟩ : ∃ j_ : Int, (mx a0 a1) = j_ := ⟨_, rfl⟩
 replace H : (some (ji3, ji4)) = some (r1, r2) := by first | (rw [hji4] at H; exact H) | (simp only [hji4] at H ⊢; exact H)
 have hji4_ : (if a0 < a1 then a1 else a0) = ji4 := hji4
 simp only [Option.some.injEq, Prod.mk.injEq] at H
 obtain ⟨rfl, rfl⟩ := H
 go_enter Try.func37, Try.ntmps37
 go_wp2_with (first | ((with_reducible refine gate_dst (N := 4) rfl ?_); refine box_event ?hg (N := 4) ?hd (cs := #[.int .i64 0, .int .i64 0]) (t := 45) ?hr ?_; (case hd => rfl); (case hg => rfl); (case hr => first | (go_simp; done) | (go_simp; rfl)); intro gb150 hg w5 hbox hb; have n0_ := aM (below_step (by repeat (first | (with_reducible first | exact HB.out | apply bA | apply bN | apply bD) | exact HB.out)) hb); have n1_ := aM (hbox); have n2_ := aM ((by rw [hg]; exact (below_size (by repeat (first | (with_reducible first | exact HB.out | apply bA | apply bN | apply bD) | exact HB.out))) : w.heap.size ≤ gb150)); have n3_ := aM ((by rw [hg]; exact (below_size (by repeat (first | (with_reducible first | exact HB.out | apply bA | apply bN | apply bD) | exact HB.out))) : w.heap.size ≤ gb150)); clear HB; have HB := n0_; have BK150 := n1_; have GW150 := n2_; have GE150 := n3_; clear n0_ n1_ n2_ n3_; clear hb hbox hg; have hcz6_0 : w5.cell? ⟨gb150, 0, none⟩ = some (.int .i64 0) := (blk_cell BK150.out 0).trans rfl; have hcz6_1 : w5.cell? ⟨gb150, 1, none⟩ = some (.int .i64 0) := (blk_cell BK150.out 1).trans rfl; have hfz6_0 := blk_frozen BK150.out 0; have hfz6_1 := blk_frozen BK150.out 1))
 refine bodyPost_ret (results_cell_row rfl _ _ gb150 45 #[.int .i64 ji3, .int .i64 ji4] (0, 0) _ rfl (by (with_reducible repeat (first | refine blk_drewN ?_ _ | refine blk_drew ?_ | refine blk_alloc ?_ _)); refine blk_put (cs := #[.int .i64 ji3, .int .i64 0]) ?_ 1 _ rfl; (with_reducible repeat (first | refine blk_drewN ?_ _ | refine blk_drew ?_ | refine blk_alloc ?_ _)); refine blk_put (cs := #[.int .i64 0, .int .i64 0]) ?_ 0 _ rfl; (with_reducible repeat (first | refine blk_drewN ?_ _ | refine blk_drew ?_ | refine blk_alloc ?_ _)); exact BK150.out) Try.underlying45 rfl (by kernel_rfl)) rfl ?_
 exact ⟨by first | rfl | (simp [errW_none, errW_some] <;> rfl) | (simp only [← hji3, ← hji4]; first | rfl | (simp [errW_none, errW_some] <;> rfl)) | (simp [*, errW_none, errW_some] <;> rfl), by repeat (first | (with_reducible first | exact HB.out | apply bA | apply bN | apply bD | refine below_set ?_ GE150.out) | exact HB.out)⟩

end

section
/-! ### slices_Clone_int: function 38: written by hand -/
def slices_Clone_int.f (l0 : List Int) : Option (List Int) := if l0.length < 17592186044416 then some l0 else none
set_option maxHeartbeats 8000000 in
set_option maxRecDepth 100000 in
theorem slices_Clone_int.calls (A0 : Option Addr) (c0 : Nat) (l0 : List Int) (r : List Int) (w : World) (hr0 : Kd.C (Kd.int .i64) w A0 l0.length l0) (hc0 : l0.length ≤ c0) (h : slices_Clone_int.f l0 = some r) :
  Calls Try.prog 38 #[.slice A0 l0.length c0] w fun e w' => ∃ v0_ : Value, e = .returned (v0_) ∧ Kd.R (Kd.int .i64) 3 w' w.heap.size (fun _ => True) v0_ r ∧ Below w.heap.size w w' := by
 have hnil : ∀ (w : World) (a : Option Addr) (n c n' c' : Nat), (Go.binOp .eql 34 (.slice a n c) (.slice none n' c')).run Try.prog w = .ok (.bool a.isNone) w := fun w a n c n' c' => Lib.run_eql_slice_nil w _ _ a n c n' c' Try.underlying34
 unfold slices_Clone_int.f at h
 by_cases c2 : l0.length < 17592186044416
 ·rw [if_pos c2] at h
  obtain rfl := Option.some.inj h
  clear h
  have LMc2 := aM c2
  clear c2
  cases A0 with
  | none =>
   have h0 : l0.length = 0 := by
    rcases Nat.eq_zero_or_pos l0.length with h | h
    ·exact h
    ·obtain ⟨ad, e, _⟩ := hr0.2.2 h; cases e
   obtain rfl : l0 = [] := List.length_eq_zero_iff.1 h0
   clear hr0 hc0
   go_enter Try.func38, Try.ntmps38
   go_wp2
   go_ret
   exact ⟨_, rfl, Kd.R_nil _ _ _ _ _, Below.refl _ _⟩
  | some ad0 =>
   have HR0 := aM hr0
   have HC0 := aM hc0
   clear hr0 hc0
   have HB := aM (Below.refl w.heap.size w)
   obtain ⟨y5, hy5⟩ : ∃ y_ : List Int, y_ = (([] : List Int)) := ⟨_, rfl⟩
   have Ny5 := aM hy5
   have hy5l : y5.length = 0 := by rw [hy5]; rfl
   obtain ⟨r, hr⟩ : ∃ y_ : List Int, y_ = (y5 ++ l0) := ⟨_, rfl⟩
   have er := aM (show r = l0 by rw [hr, hy5]; rfl)
   have Nr := aM hr
   clear hr hy5
   have HL5 := aM hy5l
   clear hy5l
   go_enter Try.func38, Try.ntmps38
   go_wp2_with (first | ((with_reducible refine gate_dst (N := 5) rfl ?_); refine Kd.R_lit (Kd.int .i64) _ 3 ?hg (N := 5) ?hd (xs := ([] : List Int)) (inner := []) (ok := fun _ => True) (okp := fun _ => True) ?hr ?hp (fun _ hk => hk) trivial (Below.refl _ _) (Nat.le_refl _) (by simp) ?_; (case hd => rfl); (case hg => rfl); (case hr => first | (go_simp; done) | (go_simp; rfl)); (case hp => exact (Reps.none _ _)); intro v534 w3 ho4 hb hg_ hnew_; clear hg_ hnew_; (first | rw [← Ny5.out] at ho4 | (simp only [Int.reduceToNat] at ho4; rw [← Ny5.out] at ho4)); have n0_ := aM (Kd.R_lower ho4 (below_size (by repeat (first | (with_reducible first | exact HB.out | apply bA | apply bN | apply bD) | exact HB.out)))); have n1_ := aM (below_step (by repeat (first | (with_reducible first | exact HB.out | apply bA | apply bN | apply bD) | exact HB.out)) hb); clear HB; have HO535 := n0_; have HB := n1_; clear n0_ n1_; clear hb ho4) | ((with_reducible refine gate_builtin (b := .append) (xs := #[.tmp 5, .tmp 6]) rfl ?_); at_builtin; refine Kd.R_append_rows (Kd.int .i64) (w0 := w) w.heap.size rfl (.tmp 5) (.tmp 6) 34 3 (.int .i64 0) 8 rfl Try.underlying34 info3 rfl (by decide) (by omega) v534 y5 l0 _ _ _ (fun _ => True) (fun _ => False) rfl rfl ?aO ?aR (fun _ _ h => h) (fun _ h => h.elim) ?aF ?aB ?aS ?aL ?_; (case aR => repeat (first | exact (Kd.C_below HR0.out HB.out) | (with_reducible refine Kd.C_alloc ?_ _) | (with_reducible refine Kd.C_drewN ?_ _) | (with_reducible refine Kd.C_drew ?_))); (case aB => exact (by repeat (first | (with_reducible first | exact HB.out | apply bA | apply bN | apply bD) | exact HB.out))); (case aF => exact (fun _ _ => trivial)); (case aO => exact (by (with_reducible repeat (first | apply rA | apply rN | apply rD)); exact HO535.out)); (case aS => exact (below_size (by repeat (first | (with_reducible first | exact HB.out | apply bA | apply bN | apply bD) | exact HB.out)))); (case aL => have := LMc2.out; have := HL5.out; omega); intro v537 w5 ho hb hg hat; rw [← Nr.out] at ho; have n0_ := aM (hb); have n1_ := aM (ho); clear HB; clear HO535; have HB := n0_; have HO538 := n1_; clear n0_ n1_; clear ho hb hg hat))
   go_ret
   rw [← er.out]
   exact ⟨_, by first | rfl | (simp; done) | (simp [*]; done), by (with_reducible repeat (first | apply rA | apply rN | apply rD)); exact HO538.out, by repeat (first | (with_reducible first | exact HB.out | apply bA | apply bN | apply bD) | exact HB.out)⟩
 ·rw [if_neg c2] at h
  exact absurd h (by simp)

end

section
/-! ### slices_Delete_Tile: function 39: written by hand -/
theorem heap_setCells_mid {g : Nat} {e : TypeId} {fr : Nat × Nat} : ∀ (vs : List Value) (w : World) (o : Nat) (cur : Array Value), w.heap[g]? = some (.cells cur e fr) → o + vs.length ≤ cur.size → ∃ cur', (w.setCells g o vs).heap[g]? = some (.cells cur' e fr) ∧ cur'.size = cur.size ∧ (∀ j, j < o → cur'[j]? = cur[j]?) ∧ (∀ j, o + vs.length ≤ j → cur'[j]? = cur[j]?) ∧ ∀ j, j < vs.length → cur'[o + j]? = vs[j]?
 | [], w, o, cur, h, _ => ⟨cur, h, rfl, fun _ _ => rfl, fun _ _ => rfl, fun j hj => absurd hj (Nat.not_lt_zero _)⟩
 | v :: vs, w, o, cur, h, hl => by
  rw [List.length_cons] at hl
  obtain ⟨c, h1, h2, h3, h4, h5⟩ := heap_setCells_mid vs (w.setCell ⟨g, o, none⟩ v) (o + 1) _ (heap_setCell_at h) (by simp; omega)
  refine ⟨c, h1, by simpa using h2, fun j hj => by rw [h3 j (by omega), Array.getElem?_setIfInBounds_ne (by omega)], fun j hj => by rw [List.length_cons] at hj; rw [h4 j (by omega), Array.getElem?_setIfInBounds_ne (by omega)], fun j hj => ?_⟩
  cases j with
  | zero => rw [Nat.add_zero, h3 o (by omega), Array.getElem?_setIfInBounds_self_of_lt (by omega)]; rfl
  | succ j =>
   rw [List.length_cons] at hj
   rw [show o + (j + 1) = o + 1 + j by omega, h5 j (by omega)]; rfl
def encTs : List S45 → List Value
 | [] => []
 | x :: l => .int .i64 x.f0 :: .int .i64 x.f1 :: encTs l
theorem encTs_length : ∀ l, (encTs l).length = l.length * 2
 | [] => rfl
 | x :: l => by rw [encTs, List.length_cons, List.length_cons, encTs_length l, List.length_cons]; omega
theorem encTs_at : ∀ (l : List S45) (j : Nat) (x : S45), l[j]? = some x → (encTs l)[j * 2]? = some (.int .i64 x.f0) ∧ (encTs l)[j * 2 + 1]? = some (.int .i64 x.f1)
 | [], j, x, h => by simp at h
 | y :: l, 0, x, h => by
  obtain rfl : y = x := by simpa using h
  exact ⟨rfl, rfl⟩
 | y :: l, j + 1, x, h => by
  have := encTs_at l j x (by simpa using h)
  rw [encTs, show (j + 1) * 2 = j * 2 + 1 + 1 by omega, List.getElem?_cons_succ, List.getElem?_cons_succ, show j * 2 + 1 + 1 + 1 = (j * 2 + 1) + 1 + 1 by omega, List.getElem?_cons_succ, List.getElem?_cons_succ]
  exact this
theorem encTs_some (l : List S45) (t : Nat) (u : Value) (h : (encTs l)[t]? = some u) : ∃ j x, l[j]? = some x ∧ ((t = j * 2 ∧ u = .int .i64 x.f0) ∨ (t = j * 2 + 1 ∧ u = .int .i64 x.f1)) := by
 have ht := (List.getElem?_eq_some_iff.1 h).1
 rw [encTs_length] at ht
 obtain ⟨x, hx⟩ : ∃ x, l[t / 2]? = some x := ⟨_, List.getElem?_eq_getElem (by omega)⟩
 obtain ⟨a, b⟩ := encTs_at l (t / 2) x hx
 refine ⟨t / 2, x, hx, ?_⟩
 rcases Nat.mod_two_eq_zero_or_one t with c | c
 ·have e : t / 2 * 2 = t := by omega
  rw [e, h] at a
  exact .inl ⟨e.symm, Option.some.inj a⟩
 ·have e : t / 2 * 2 + 1 = t := by omega
  rw [e, h] at b
  exact .inr ⟨e.symm, Option.some.inj b⟩
theorem encTs_one (l : List S45) : ∀ u ∈ encTs l, u.oneCell' = true := by
 intro u hu
 obtain ⟨t, ht⟩ := List.getElem?_of_mem hu
 obtain ⟨j, x, _, ⟨_, rfl⟩ | ⟨_, rfl⟩⟩ := encTs_some l t u ht <;> rfl
theorem rowIs_moved {w : World} {g cap : Nat} {l : List S45} (h : rowIs w g cap l) (i : Nat) (hi : i < l.length) : ∃ m : List S45, m.length = l.length ∧ m.take (l.length - 1) = l.eraseIdx i ∧ rowIs (w.setCells g (i * 2) (encTs (l.drop (i + 1)))) g cap m := by
 obtain ⟨z, hz⟩ : ∃ z, l[l.length - 1]? = some z := ⟨_, List.getElem?_eq_getElem (by omega)⟩
 have hle : (l.eraseIdx i).length = l.length - 1 := by rw [List.length_eraseIdx, if_pos hi]
 refine ⟨l.eraseIdx i ++ [z], by rw [List.length_append, hle, List.length_singleton]; omega, by rw [← hle, List.take_left], ?_⟩
 obtain ⟨cur, h1, h2, h3, h4⟩ := h
 have hdl : (encTs (l.drop (i + 1))).length = (l.length - (i + 1)) * 2 := by rw [encTs_length, List.length_drop]
 obtain ⟨c1, k1, k2, k3, k4, k5⟩ := heap_setCells_mid (encTs (l.drop (i + 1))) w (i * 2) cur h1 (by rw [hdl]; omega)
 rw [hdl] at k4 k5
 refine ⟨c1, k1, by omega, by rw [List.length_append, hle, List.length_singleton]; omega, fun j x hx => ?_⟩
 by_cases c : j < l.length - 1
 ·rw [List.getElem?_append_left (by omega), List.getElem?_eraseIdx] at hx
  by_cases d : j < i
  ·rw [if_pos d] at hx
   rw [k3 _ (by omega), k3 _ (by omega)]
   exact h4 j x hx
  ·rw [if_neg d] at hx
   have hd : (l.drop (i + 1))[j - i]? = some x := by rw [List.getElem?_drop, show i + 1 + (j - i) = j + 1 by omega]; exact hx
   obtain ⟨a, b⟩ := encTs_at _ _ _ hd
   rw [← k5 _ (by omega)] at a b
   rw [show i * 2 + (j - i) * 2 = j * 2 by omega] at a
   rw [show i * 2 + ((j - i) * 2 + 1) = j * 2 + 1 by omega] at b
   exact ⟨a, b⟩
 ·have hj := (List.getElem?_eq_some_iff.1 hx).1
  rw [List.length_append, hle, List.length_singleton] at hj
  rw [List.getElem?_append_right (by omega), hle, show j - (l.length - 1) = 0 by omega] at hx
  obtain rfl : z = x := by simpa using hx
  have := h4 (l.length - 1) z hz
  rw [k4 _ (by omega), k4 _ (by omega), show j = l.length - 1 by omega]
  exact this
theorem grown_setCells {w0 : World} {g : Nat} : ∀ (vs : List Value) (w : World) (o : Nat), w0.grownBy w (some g) → w0.grownBy (w.setCells g o vs) (some g)
 | [], w, o, h => h
 | v :: vs, w, o, h => grown_setCells vs _ _ ⟨h.os, h.tape, h.output, by simpa [World.setCell] using h.size, fun k hk hne => by
   rw [Below.heap_setCell w ⟨g, o, none⟩ v k (by intro e; exact hne (by rw [e]))]
   exact h.block k hk hne⟩
set_option maxHeartbeats 4000000 in
set_option maxRecDepth 1000000 in
theorem slices_Delete_Tile.gcallsG (base : Nat) (ok : Nat → Prop) (v : Value) (l : List S45) (i : Nat) (w : World) (hbase : base ≤ w.heap.size) (ho : Kd.R k45 45 w base ok v l) (hi : i < l.length) :
  Calls Try.prog 39 #[v, .int .i64 (i : Int), .int .i64 ((i + 1 : Nat) : Int)] w fun e w' => ∃ v', e = .returned v' ∧ Kd.R k45 45 w' base ok v' (l.eraseIdx i) ∧ Below base w w' ∧ w.grownBy w' v.ownBlock := by
 rcases rowIs_of_R ho with ⟨_, rfl⟩ | ⟨g, cap, rfl, hg, hokg, hlc, hcap, hrow⟩
 ·exact absurd hi (Nat.not_lt_zero _)
 have hcap' : cap ≤ 9223372036854775807 := by simpa [maxLen] using hcap
 obtain ⟨i0, hi0, hz0, hz1, hz2⟩ := info_parts info45
 obtain ⟨m, hml, hmt, hrm⟩ := rowIs_moved (w := w.drew) (show rowIs w.drew g cap l from hrow) i hi
 obtain ⟨news, hnews⟩ : ∃ news, news = encTs (l.drop (i + 1)) := ⟨_, rfl⟩
 rw [← hnews] at hrm
 have hlen : news.length = (l.length - (i + 1)) * 2 := by rw [hnews, encTs_length, List.length_drop]
 obtain ⟨A, hA, hsrc⟩ : ∃ A : Addr, (if cap = i + 1 then (some ⟨g, 0, none⟩ : Option Addr) else some ⟨g, (i + 1) * 2, none⟩) = some A ∧ Hid (∀ t u, news[t]? = some u → w.drew.cell? (A.add t) = some u) := by
  by_cases h : cap = i + 1
  ·refine ⟨⟨g, 0, none⟩, by simp [h], fun t u hu => ?_⟩
   have h0 : news.length = 0 := by rw [hlen]; omega
   rw [List.length_eq_zero_iff.1 h0] at hu
   simp at hu
  ·refine ⟨⟨g, (i + 1) * 2, none⟩, by simp [h], fun t u hu => ?_⟩
   rw [hnews] at hu
   obtain ⟨j, x, hx, hu2⟩ := encTs_some _ t u hu
   rw [List.getElem?_drop] at hx
   obtain ⟨a, b, _, _⟩ := rowIs_at hrow (i + 1 + j) x hx
   show w.cell? ((⟨g, (i + 1) * 2, none⟩ : Addr).add t) = some u
   rw [Addr.add_lit]
   rcases hu2 with ⟨rfl, rfl⟩ | ⟨rfl, rfl⟩
   ·rw [show (i + 1) * 2 + j * 2 = (i + 1 + j) * 2 by omega]; exact a
   ·rw [show (i + 1) * 2 + (j * 2 + 1) = (i + 1 + j) * 2 + 1 by omega]; exact b
 have s1 : Hid (news.length = (l.length - (i + 1)) * 2) := hlen
 have s2 : Hid (∀ u ∈ news, u.oneCell' = true) := by rw [hnews]; exact encTs_one _
 have s3 : Hid (∀ t, t < news.length → (w.drew.cell? ⟨g, 0 + i * 2 + t, none⟩).isSome = true ∧ w.drew.frozen? ⟨g, 0 + i * 2 + t, none⟩ = false) := by
  intro t ht
  rw [hlen] at ht
  obtain ⟨cur, h1, h2, h3, h4⟩ := hrow
  have h1' : w.drew.heap[g]? = some (.cells cur 45 (0, 0)) := h1
  refine ⟨?_, by simp [World.frozen?, h1']⟩
  simp only [World.cell?, h1']
  simp only [Option.isSome_none, Bool.false_eq_true, if_false]
  rw [Array.getElem?_eq_getElem (by omega)]; rfl
 obtain ⟨W1, hW1⟩ : ∃ W1, W1 = w.drew.setCells g (i * 2) news := ⟨_, rfl⟩
 rw [← hW1] at hrm
 have hcl := fun ty => clear_tiles hrm (i + (l.length - (i + 1))) (by omega) (cap - (i + (l.length - (i + 1)))) ty
 rw [hml] at hcl
 have HM := aM (And.intro hml (And.intro hmt hrm))
 have HG := aM (show base ≤ g ∧ ok g ∧ cap ≤ maxLen from ⟨hg, hokg, hcap⟩)
 have hW : Hid (W1 = w.drew.setCells g (0 + i * 2) news) := by rw [Nat.zero_add]; exact hW1
 have HW := aM hW1
 have hic : i ≤ cap := by omega
 have hjc : i + 1 ≤ cap := by omega
 have hne : ¬ ((i : Int) = ((i + 1 : Nat) : Int)) := by omega
 have hq1 : 0 ≤ (i : Int) + 1 := by omega
 have hq2 : (i : Int) + 1 ≤ (l.length : Int) := by omega
 clear hW1 hrow hrm hml hmt hlen hnews hg hokg hcap
 go_enter Try.func39, Try.ntmps39
 go_wp2_with fail
 go_region_law (refine step_append_room rfl (.tmp 22) (.tmp 25) 27 rfl 45 i0 2 Try.underlying27 hi0 hz1 g 0 i cap (by simp [Act.eval, Act.put]) A (l.length - (i + 1)) (cap - (i + 1)) news (by simp [Act.eval, Act.put]) s1.out hsrc.out s2.out (by omega) s3.out ?_; rw [← hW.out])
 go_wp2
 go_ret
 have hq : i + (l.length - (i + 1)) = l.length - 1 := by omega
 have hml := HM.out.1
 have hR := R_of_rowIs (base := base) (ok := ok) (rowIs_clear HM.out.2.2 (l.length - 1) (by omega) ((l.length - 1) * 2) (Nat.le_refl _) (clearZ (l.length - (l.length - 1)))) HG.out.1 HG.out.2.1 HG.out.2.2
 have hel : (l.eraseIdx i).length = l.length - 1 := by rw [List.length_eraseIdx, if_pos hi]
 rw [HM.out.2.1, hel] at hR
 refine ⟨_, rfl, by rw [hq]; exact hR, below_setCells HG.out.1 _ _ _ ?_, grown_setCells _ _ _ ?_⟩
 ·rw [HW.out]
  exact below_setCells HG.out.1 _ _ _ (bD ((Below.refl w.heap.size w).mono hbase))
 ·rw [HW.out]
  exact grown_setCells _ _ _ ⟨rfl, rfl, rfl, Nat.le_refl _, fun _ _ _ => rfl⟩
theorem slices_Delete_Tile.gcalls (base : Nat) (ok : Nat → Prop) (v : Value) (l : List S45) (i : Nat) (w : World) (hbase : base ≤ w.heap.size) (ho : Kd.R k45 45 w base ok v l) (hi : i < l.length) :
  Calls Try.prog 39 #[v, .int .i64 (i : Int), .int .i64 ((i + 1 : Nat) : Int)] w fun e w' => ∃ v', e = .returned v' ∧ Kd.R k45 45 w' base ok v' (l.eraseIdx i) ∧ Below base w w' :=
 (slices_Delete_Tile.gcallsG base ok v l i w hbase ho hi).mono fun e w' ⟨v', h1, h2, h3, _⟩ => ⟨v', h1, h2, h3⟩
/-! ### a statement whose order is drawn: a chain's copy grown by a number, a hand's copy without a tile -/
structure RS (W0 : World) (chain : List Int) (left dl : List S45) (o : Int) (fc fl fa fx fd : Bool) (W : World) (vc vl va vx vd : Value) : Prop where
 B : Below W0.heap.size W0 W
 c : fc = true → Kd.R (Kd.int .i64) 3 W W0.heap.size (fun k => fl = true → some k ≠ vl.ownBlock) vc chain
 l : fl = true → Kd.R (Kd.int .i64) 3 W W0.heap.size (fun k => fc = true → some k ≠ vc.ownBlock) vl [o]
 a : fa = true → Kd.R (Kd.int .i64) 3 W W0.heap.size (fun _ => True) va (chain ++ [o])
 x : fx = true → Kd.R k45 45 W W0.heap.size (fun _ => True) vx left
 d : fd = true → Kd.R k45 45 W W0.heap.size (fun _ => True) vd dl
section
variable {W0 W W' : World} {chain : List Int} {left dl : List S45} {o : Int} {fc fl fa fx fd : Bool} {vc vl va vx vd v : Value}
theorem RS.start (h : Below W0.heap.size W0 W) : RS W0 chain left dl o false false false false false W vc vl va vx vd := ⟨h, (fun h => by cases h), (fun h => by cases h), (fun h => by cases h), (fun h => by cases h), (fun h => by cases h)⟩
theorem RS.below (h : RS W0 chain left dl o fc fl fa fx fd W vc vl va vx vd) (hb : Below W.heap.size W W') : RS W0 chain left dl o fc fl fa fx fd W' vc vl va vx vd :=
 ⟨below_then h.B h.B.size hb, fun e => Kd.R_below (h.c e) hb, fun e => Kd.R_below (h.l e) hb, fun e => Kd.R_below (h.a e) hb, fun e => Kd.R_below (h.x e) hb, fun e => Kd.R_below (h.d e) hb⟩
theorem RS.clone_c (h : RS W0 chain left dl o false fl fa fx fd W vc vl va vx vd) (ho : Kd.R (Kd.int .i64) 3 W' W.heap.size (fun _ => True) v chain) (hb : Below W.heap.size W W') : RS W0 chain left dl o true fl fa fx fd W' v vl va vx vd :=
 ⟨below_then h.B h.B.size hb, fun _ => Kd.R_lower (Kd.R_mono (Kd.R_bound ho) fun k hk hf e => by have h1 := Kd.R_lt (h.l hf) k e.symm; have h2 := hk.2.1; omega) h.B.size, fun e => Kd.R_below (Kd.R_mono (Kd.R_bound (h.l e)) fun k hk _ e2 => by have h1 := Kd.R_base ho k e2.symm; have h2 := hk.2.2.1; omega) hb, fun e => Kd.R_below (h.a e) hb, fun e => Kd.R_below (h.x e) hb, fun e => Kd.R_below (h.d e) hb⟩
theorem RS.lit (h : RS W0 chain left dl o fc false fa fx fd W vc vl va vx vd) : RS W0 chain left dl o fc true fa fx fd (W.alloc (.cells #[.int .i64 o] 3)) vc (.slice (some ⟨W.heap.size, 0, none⟩) 1 1) va vx vd := by
 have hr : Kd.R (Kd.int .i64) 3 (W.alloc (.cells #[.int .i64 o] 3)) W0.heap.size (fun k => fc = true → some k ≠ vc.ownBlock) (.slice (some ⟨W.heap.size, 0, none⟩) 1 1) [o] := by
  have h1 : rowI (W.alloc (.cells #[.int .i64 o] 3)) W.heap.size 1 [o] := ⟨_, heap_alloc_new _ _, rfl, Nat.le_refl _, fun i y hy => by
   match i, hy with
   | 0, hy => cases hy; rfl⟩
  exact R_of_rowI h1 h.B.size (fun e e2 => by have := Kd.R_lt (h.c e) _ e2.symm; omega) (by simp [maxLen])
 refine ⟨h.B.alloc h.B.size _, fun e => rA (Kd.R_mono (Kd.R_bound (h.c e)) fun k hk _ e2 => ?_) _, fun _ => hr, fun e => rA (h.a e) _, fun e => rA (h.x e) _, fun e => rA (h.d e) _⟩
 have h2 := hk.2.2.1
 have h3 : k = W.heap.size := by simpa [Value.ownBlock] using e2
 omega
theorem RS.clone_x (h : RS W0 chain left dl o fc fl fa false fd W vc vl va vx vd) (ho : Kd.R k45 45 W' W.heap.size (fun _ => True) v left) (hb : Below W.heap.size W W') : RS W0 chain left dl o fc fl fa true fd W' vc vl va v vd :=
 ⟨below_then h.B h.B.size hb, fun e => Kd.R_below (h.c e) hb, fun e => Kd.R_below (h.l e) hb, fun e => Kd.R_below (h.a e) hb, fun _ => Kd.R_lower ho h.B.size, fun e => Kd.R_below (h.d e) hb⟩
theorem RS.del (h : RS W0 chain left dl o fc fl fa true false W vc vl va vx vd) (ho : Kd.R k45 45 W' W0.heap.size (fun _ => True) v dl) (hb : Below W0.heap.size W W') (hg : W.grownBy W' vx.ownBlock) : RS W0 chain left dl o fc fl fa false true W' vc vl va vx v :=
 ⟨h.B.trans hb, fun e => Kd.R_over' (h.c e) (Kd.R_typed (h.x rfl)) (by decide) hg, fun e => Kd.R_over' (h.l e) (Kd.R_typed (h.x rfl)) (by decide) hg, fun e => Kd.R_over' (h.a e) (Kd.R_typed (h.x rfl)) (by decide) hg, (fun e => by cases e), fun _ => ho⟩
theorem RS.app (h : RS W0 chain left dl o true true false fx fd W vc vl va vx vd) (ho : Kd.R (Kd.int .i64) 3 W' W0.heap.size (fun k => true = true → some k ≠ vl.ownBlock) v (chain ++ [o])) (hb : Below W0.heap.size W0 W') (hg : W.grownBy W' vc.ownBlock) : RS W0 chain left dl o false false true fx fd W' vc vl v vx vd :=
 ⟨hb, (fun e => by cases e), (fun e => by cases e), fun _ => Kd.R_mono ho fun _ _ => trivial, fun e => Kd.R_over' (h.x e) (Kd.R_typed (h.c rfl)) (by decide) hg, fun e => Kd.R_over' (h.d e) (Kd.R_typed (h.c rfl)) (by decide) hg⟩
end

end

section
/-! ### slices_Clone_Tile: function 40: written by hand -/
def slices_Clone_Tile.f (l0 : List S45) : Option (List S45) := if l0.length < 8796093022208 then some l0 else none
set_option maxHeartbeats 8000000 in
set_option maxRecDepth 100000 in
theorem slices_Clone_Tile.calls (A0 : Option Addr) (c0 : Nat) (l0 : List S45) (r : List S45) (w : World) (hr0 : Kd.C k45 w A0 l0.length l0) (hc0 : l0.length ≤ c0) (h : slices_Clone_Tile.f l0 = some r) :
  Calls Try.prog 40 #[.slice A0 l0.length c0] w fun e w' => ∃ v0_ : Value, e = .returned (v0_) ∧ Kd.R k45 45 w' w.heap.size (fun _ => True) v0_ r ∧ Below w.heap.size w w' := by
 have hnil : ∀ (w : World) (a : Option Addr) (n c n' c' : Nat), (Go.binOp .eql 27 (.slice a n c) (.slice none n' c')).run Try.prog w = .ok (.bool a.isNone) w := fun w a n c n' c' => Lib.run_eql_slice_nil w _ _ a n c n' c' Try.underlying27
 unfold slices_Clone_Tile.f at h
 by_cases c2 : l0.length < 8796093022208
 ·rw [if_pos c2] at h
  obtain rfl := Option.some.inj h
  clear h
  have LMc2 := aM c2
  clear c2
  cases A0 with
  | none =>
   have h0 : l0.length = 0 := by
    rcases Nat.eq_zero_or_pos l0.length with h | h
    ·exact h
    ·obtain ⟨ad, e, _⟩ := hr0.2.2 h; cases e
   obtain rfl : l0 = [] := List.length_eq_zero_iff.1 h0
   clear hr0 hc0
   go_enter Try.func40, Try.ntmps40
   go_wp2
   go_ret
   exact ⟨_, rfl, Kd.R_nil _ _ _ _ _, Below.refl _ _⟩
  | some ad0 =>
   have HR0 := aM hr0
   have HC0 := aM hc0
   clear hr0 hc0
   have HB := aM (Below.refl w.heap.size w)
   obtain ⟨y5, hy5⟩ : ∃ y_ : List S45, y_ = (([] : List S45)) := ⟨_, rfl⟩
   have Ny5 := aM hy5
   have hy5l : y5.length = 0 := by rw [hy5]; rfl
   obtain ⟨r, hr⟩ : ∃ y_ : List S45, y_ = (y5 ++ l0) := ⟨_, rfl⟩
   have er := aM (show r = l0 by rw [hr, hy5]; rfl)
   have Nr := aM hr
   clear hr hy5
   have HL5 := aM hy5l
   clear hy5l
   go_enter Try.func40, Try.ntmps40
   go_wp2_with (first | ((with_reducible refine gate_dst (N := 5) rfl ?_); refine Kd.R_lit k45 _ 45 ?hg (N := 5) ?hd (xs := ([] : List S45)) (inner := []) (ok := fun _ => True) (okp := fun _ => True) ?hr ?hp (fun _ hk => hk) trivial (Below.refl _ _) (Nat.le_refl _) (by simp) ?_; (case hd => rfl); (case hg => rfl); (case hr => first | (go_simp; done) | (go_simp; rfl)); (case hp => exact (Reps.none _ _)); intro v534 w3 ho4 hb hg_ hnew_; clear hg_ hnew_; (first | rw [← Ny5.out] at ho4 | (simp only [Int.reduceToNat] at ho4; rw [← Ny5.out] at ho4)); have n0_ := aM (Kd.R_lower ho4 (below_size (by repeat (first | (with_reducible first | exact HB.out | apply bA | apply bN | apply bD) | exact HB.out)))); have n1_ := aM (below_step (by repeat (first | (with_reducible first | exact HB.out | apply bA | apply bN | apply bD) | exact HB.out)) hb); clear HB; have HO535 := n0_; have HB := n1_; clear n0_ n1_; clear hb ho4) | ((with_reducible refine gate_builtin (b := .append) (xs := #[.tmp 5, .tmp 6]) rfl ?_); at_builtin; refine Kd.R_append_rows k45 (w0 := w) w.heap.size rfl (.tmp 5) (.tmp 6) 27 45 (.agg #[.int .i64 0, .int .i64 0]) 16 rfl Try.underlying27 info45 rfl (by decide) (by omega) v534 y5 l0 _ _ _ (fun _ => True) (fun _ => False) rfl rfl ?aO ?aR (fun _ _ h => h) (fun _ h => h.elim) ?aF ?aB ?aS ?aL ?_; (case aR => repeat (first | exact (Kd.C_below HR0.out HB.out) | (with_reducible refine Kd.C_alloc ?_ _) | (with_reducible refine Kd.C_drewN ?_ _) | (with_reducible refine Kd.C_drew ?_))); (case aB => exact (by repeat (first | (with_reducible first | exact HB.out | apply bA | apply bN | apply bD) | exact HB.out))); (case aF => exact (fun _ _ => trivial)); (case aO => exact (by (with_reducible repeat (first | apply rA | apply rN | apply rD)); exact HO535.out)); (case aS => exact (below_size (by repeat (first | (with_reducible first | exact HB.out | apply bA | apply bN | apply bD) | exact HB.out)))); (case aL => have := LMc2.out; have := HL5.out; omega); intro v537 w5 ho hb hg hat; rw [← Nr.out] at ho; have n0_ := aM (hb); have n1_ := aM (ho); clear HB; clear HO535; have HB := n0_; have HO538 := n1_; clear n0_ n1_; clear ho hb hg hat))
   go_ret
   rw [← er.out]
   exact ⟨_, by first | rfl | (simp; done) | (simp [*]; done), by (with_reducible repeat (first | apply rA | apply rN | apply rD)); exact HO538.out, by repeat (first | (with_reducible first | exact HB.out | apply bA | apply bN | apply bD) | exact HB.out)⟩
 ·rw [if_neg c2] at h
  exact absurd h (by simp)

end

end Go.Proofs.Ytdklmjpimgeejaa.P
