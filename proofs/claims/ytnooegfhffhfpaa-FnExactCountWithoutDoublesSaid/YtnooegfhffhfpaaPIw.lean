-- Printed by a program of this session (wip/myprint.py, which drives the kit's print): what one function of the program does, and the proof that its call does so.
import Derived.Deep.RegionLaw
import Derived.Ground.SlsfProg
import Derived.Lib.SliceRun
import Derived.Shelf.Lay
import Derived.Shelf.SlSortCmp.WholeK
import Derived.Shelf.Small.Bits
import Derived.WalkSpells
import Derived.Test.YtnooegfhffhfpaaP0
import Derived.Test.YtnooegfhffhfpaaPIb
namespace Go.Proofs.Ytnooegfhffhfpaa.P
open Go.RowKit Go.Proofs.YtnooegfhffhfpaaW.PrintWords Go.Proofs.YtnooegfhffhfpaaW.PrintLast Go.Proofs.YtnooegfhffhfpaaW.PrintMore
attribute [local go_sem] max2_int min2_int max_two min_two max_three min_three max_four min_four   -- for this text's walks alone
set_option linter.unusedVariables false
set_option linter.unusedSimpArgs false

section
/-! ### slices_Clone_Tile: function 61: written by hand -/
def slices_Clone_Tile.f (l0 : List S39) : Option (List S39) := if l0.length < 8796093022208 then some l0 else none
set_option maxHeartbeats 8000000 in
set_option maxRecDepth 100000 in
theorem slices_Clone_Tile.calls (A0 : Option Addr) (c0 : Nat) (l0 : List S39) (r : List S39) (w : World) (hr0 : Kd.C k39 w A0 l0.length l0) (hc0 : l0.length ≤ c0) (h : slices_Clone_Tile.f l0 = some r) :
  Calls Try.prog 61 #[.slice A0 l0.length c0] w fun e w' => ∃ v0_ : Value, e = .returned (v0_) ∧ Kd.R k39 39 w' w.heap.size (fun _ => True) v0_ r ∧ Below w.heap.size w w' := by
 have hnil : ∀ (w : World) (a : Option Addr) (n c n' c' : Nat), (Go.binOp .eql 26 (.slice a n c) (.slice none n' c')).run Try.prog w = .ok (.bool a.isNone) w := fun w a n c n' c' => Lib.run_eql_slice_nil w _ _ a n c n' c' Try.underlying26
 unfold slices_Clone_Tile.f at h
 by_cases c2 : l0.length < 8796093022208
 ·rw [if_pos c2] at h
  obtain rfl := Option.some.inj h
  clear h
  have LMc2 := aM c2
  clear c2
  cases A0 with
  | none =>
   have h0 : l0.length = 0 := by
    rcases Nat.eq_zero_or_pos l0.length with h | h
    ·exact h
    ·obtain ⟨ad, e, _⟩ := hr0.2.2 h; cases e
   obtain rfl : l0 = [] := List.length_eq_zero_iff.1 h0
   clear hr0 hc0
   go_enter Try.func61, Try.ntmps61
   go_wp2
   go_ret
   exact ⟨_, rfl, Kd.R_nil _ _ _ _ _, Below.refl _ _⟩
  | some ad0 =>
   have HR0 := aM hr0
   have HC0 := aM hc0
   clear hr0 hc0
   have HB := aM (Below.refl w.heap.size w)
   obtain ⟨y5, hy5⟩ : ∃ y_ : List S39, y_ = (([] : List S39)) := ⟨_, rfl⟩
   have Ny5 := aM hy5
   have hy5l : y5.length = 0 := by rw [hy5]; rfl
   obtain ⟨r, hr⟩ : ∃ y_ : List S39, y_ = (y5 ++ l0) := ⟨_, rfl⟩
   have er := aM (show r = l0 by rw [hr, hy5]; rfl)
   have Nr := aM hr
   clear hr hy5
   have HL5 := aM hy5l
   clear hy5l
   go_enter Try.func61, Try.ntmps61
   go_wp2_with (first | ((with_reducible refine gate_dst (N := 5) rfl ?_); refine Kd.R_lit k39 _ 39 ?hg (N := 5) ?hd (xs := ([] : List S39)) (inner := []) (ok := fun _ => True) (okp := fun _ => True) ?hr ?hp (fun _ hk => hk) trivial (Below.refl _ _) (Nat.le_refl _) (by simp) ?_; (case hd => rfl); (case hg => rfl); (case hr => first | (go_simp; done) | (go_simp; rfl)); (case hp => exact (Reps.none _ _)); intro v534 w3 ho4 hb hg_ hnew_; clear hg_ hnew_; (first | rw [← Ny5.out] at ho4 | (simp only [Int.reduceToNat] at ho4; rw [← Ny5.out] at ho4)); have n0_ := aM (Kd.R_lower ho4 (below_size (by repeat (first | (with_reducible first | exact HB.out | apply bA | apply bN | apply bD) | exact HB.out)))); have n1_ := aM (below_step (by repeat (first | (with_reducible first | exact HB.out | apply bA | apply bN | apply bD) | exact HB.out)) hb); clear HB; have HO535 := n0_; have HB := n1_; clear n0_ n1_; clear hb ho4) | ((with_reducible refine gate_builtin (b := .append) (xs := #[.tmp 5, .tmp 6]) rfl ?_); at_builtin; refine Kd.R_append_rows k39 (w0 := w) w.heap.size rfl (.tmp 5) (.tmp 6) 26 39 (.agg #[.int .i64 0, .int .i64 0]) 16 rfl Try.underlying26 info39 rfl (by decide) (by omega) v534 y5 l0 _ _ _ (fun _ => True) (fun _ => False) rfl rfl ?aO ?aR (fun _ _ h => h) (fun _ h => h.elim) ?aF ?aB ?aS ?aL ?_; (case aR => repeat (first | exact (Kd.C_below HR0.out HB.out) | (with_reducible refine Kd.C_alloc ?_ _) | (with_reducible refine Kd.C_drewN ?_ _) | (with_reducible refine Kd.C_drew ?_))); (case aB => exact (by repeat (first | (with_reducible first | exact HB.out | apply bA | apply bN | apply bD) | exact HB.out))); (case aF => exact (fun _ _ => trivial)); (case aO => exact (by (with_reducible repeat (first | apply rA | apply rN | apply rD)); exact HO535.out)); (case aS => exact (below_size (by repeat (first | (with_reducible first | exact HB.out | apply bA | apply bN | apply bD) | exact HB.out)))); (case aL => have := LMc2.out; have := HL5.out; omega); intro v537 w5 ho hb hg hat; rw [← Nr.out] at ho; have n0_ := aM (hb); have n1_ := aM (ho); clear HB; clear HO535; have HB := n0_; have HO538 := n1_; clear n0_ n1_; clear ho hb hg hat))
   go_ret
   rw [← er.out]
   exact ⟨_, by first | rfl | (simp; done) | (simp [*]; done), by (with_reducible repeat (first | apply rA | apply rN | apply rD)); exact HO538.out, by repeat (first | (with_reducible first | exact HB.out | apply bA | apply bN | apply bD) | exact HB.out)⟩
 ·rw [if_neg c2] at h
  exact absurd h (by simp)

end

section
/-! ### impl_compareTiles: function 70 -/
def impl_compareTiles.f (a0_0 : Int) (a0_1 : Int) (a1_0 : Int) (a1_1 : Int) : Option (Int) := if a0_0 = a1_0 then (some (wrap64 (a0_1 - a1_1))) else (some (wrap64 (a0_0 - a1_0)))
set_option maxHeartbeats 8000000 in
set_option maxRecDepth 100000 in
theorem impl_compareTiles.calls (a0_0 : Int) (a0_1 : Int) (a1_0 : Int) (a1_1 : Int) (r : Int) (w : World) (h : impl_compareTiles.f a0_0 a0_1 a1_0 a1_1 = some r) :
  Calls Try.prog 70 #[.agg #[.int .i64 a0_0, .int .i64 a0_1], .agg #[.int .i64 a1_0, .int .i64 a1_1]] w fun e w' => e = .returned (.int .i64 r) ∧ Below w.heap.size w w' := by
 have hu39 := Try.underlying39
 have HB := aM (Below.refl w.heap.size w)
 have H : (if a0_0 = a1_0 then (some (wrap64 (a0_1 - a1_1))) else (some (wrap64 (a0_0 - a1_0)))) = some r := h
 clear h
 by_cases c3 : a0_0 = a1_0
 ·rw [if_pos c3] at H
  have c3b0 : (a0_0 == a1_0) = true := beq_iff_eq.mpr c3
  have c3b1 : (a0_0 != a1_0) = false := bne_eq_false_iff_eq.mpr c3
  clear c3
  obtain rfl := Option.some.inj H
  go_enter Try.func70, Try.ntmps70
  go_wp2_with (first | ((with_reducible refine gate_dst (N := 2) rfl ?_); refine box_event ?hg (N := 2) ?hd (cs := #[.int .i64 a0_0, .int .i64 a0_1]) (t := 39) ?hr ?_; (case hd => rfl); (case hg => rfl); (case hr => first | (go_simp; done) | (go_simp; rfl)); intro gb247 hg w4 hbox hb; have n0_ := aM (below_step (by repeat (first | (with_reducible first | exact HB.out | apply bA | apply bN | apply bD) | exact HB.out)) hb); have n1_ := aM (hbox); have n2_ := aM ((by rw [hg]; exact (below_size (by repeat (first | (with_reducible first | exact HB.out | apply bA | apply bN | apply bD) | exact HB.out))) : w.heap.size ≤ gb247)); have n3_ := aM ((by rw [hg]; exact (below_size (by repeat (first | (with_reducible first | exact HB.out | apply bA | apply bN | apply bD) | exact HB.out))) : w.heap.size ≤ gb247)); clear HB; have HB := n0_; have BK247 := n1_; have GW247 := n2_; have GE247 := n3_; clear n0_ n1_ n2_ n3_; clear hb hbox hg) | ((with_reducible refine gate_dst (N := 3) rfl ?_); refine box_event ?hg (N := 3) ?hd (cs := #[.int .i64 a1_0, .int .i64 a1_1]) (t := 39) ?hr ?_; (case hd => rfl); (case hg => rfl); (case hr => first | (go_simp; done) | (go_simp; rfl)); intro gb248 hg w5 hbox hb; have n0_ := aM (blk_below (g := gb247) (o := .cells #[.int .i64 a0_0, .int .i64 a0_1] 39 (0, 0)) (by (with_reducible repeat (first | refine blk_drewN ?_ _ | refine blk_drew ?_ | refine blk_alloc ?_ _)); exact BK247.out) hb); have n1_ := aM (below_step (by repeat (first | (with_reducible first | exact HB.out | apply bA | apply bN | apply bD | refine below_set ?_ GE247.out) | exact HB.out)) hb); have n2_ := aM (hbox); have n3_ := aM ((by rw [hg]; exact (below_size (by repeat (first | (with_reducible first | exact HB.out | apply bA | apply bN | apply bD | refine below_set ?_ GE247.out) | exact HB.out))) : w.heap.size ≤ gb248)); have n4_ := aM ((by rw [hg]; exact (below_size (by repeat (first | (with_reducible first | exact HB.out | apply bA | apply bN | apply bD | refine below_set ?_ GE247.out) | exact HB.out))) : w.heap.size ≤ gb248)); have n5_ := aM ((by rw [hg]; exact Nat.ne_of_lt (blk_lt (g := gb247) (o := .cells #[.int .i64 a0_0, .int .i64 a0_1] 39 (0, 0)) (by (with_reducible repeat (first | refine blk_drewN ?_ _ | refine blk_drew ?_ | refine blk_alloc ?_ _)); exact BK247.out)) : gb247 ≠ gb248)); have n6_ := aM ((by rw [hg]; exact Nat.ne_of_gt (blk_lt (g := gb247) (o := .cells #[.int .i64 a0_0, .int .i64 a0_1] 39 (0, 0)) (by (with_reducible repeat (first | refine blk_drewN ?_ _ | refine blk_drew ?_ | refine blk_alloc ?_ _)); exact BK247.out)) : gb248 ≠ gb247)); clear BK247; clear HB; have BK247 := n0_; have HB := n1_; have BK248 := n2_; have GW248 := n3_; have GE248 := n4_; have NB247_248 := n5_; have NB248_247 := n6_; clear n0_ n1_ n2_ n3_ n4_ n5_ n6_; clear hb hbox hg; have hnb6 := NB247_248.out; have hnc6 := NB248_247.out; have hcz7_0 : w5.cell? ⟨gb247, 0, none⟩ = some (.int .i64 a0_0) := (blk_cell BK247.out 0).trans rfl; have hcz7_1 : w5.cell? ⟨gb247, 1, none⟩ = some (.int .i64 a0_1) := (blk_cell BK247.out 1).trans rfl; have hfz7_0 := blk_frozen BK247.out 0; have hfz7_1 := blk_frozen BK247.out 1; have hcz8_0 : w5.cell? ⟨gb248, 0, none⟩ = some (.int .i64 a1_0) := (blk_cell BK248.out 0).trans rfl; have hcz8_1 : w5.cell? ⟨gb248, 1, none⟩ = some (.int .i64 a1_1) := (blk_cell BK248.out 1).trans rfl; have hfz8_0 := blk_frozen BK248.out 0; have hfz8_1 := blk_frozen BK248.out 1))
  go_ret
  exact ⟨by first | rfl | (simp [errW_none, errW_some] <;> rfl) | (simp [*, errW_none, errW_some] <;> rfl), by repeat (first | (with_reducible first | exact HB.out | apply bA | apply bN | apply bD | refine below_set ?_ GE247.out | refine below_set ?_ GE248.out) | exact HB.out)⟩
 ·rw [if_neg c3] at H
  have c3b0 : (a0_0 == a1_0) = false := beq_eq_false_iff_ne.mpr c3
  have c3b1 : (a0_0 != a1_0) = true := bne_iff_ne.mpr c3
  obtain rfl := Option.some.inj H
  go_enter Try.func70, Try.ntmps70
  go_wp2_with (first | ((with_reducible refine gate_dst (N := 2) rfl ?_); refine box_event ?hg (N := 2) ?hd (cs := #[.int .i64 a0_0, .int .i64 a0_1]) (t := 39) ?hr ?_; (case hd => rfl); (case hg => rfl); (case hr => first | (go_simp; done) | (go_simp; rfl)); intro gb247 hg w9 hbox hb; have n0_ := aM (below_step (by repeat (first | (with_reducible first | exact HB.out | apply bA | apply bN | apply bD) | exact HB.out)) hb); have n1_ := aM (hbox); have n2_ := aM ((by rw [hg]; exact (below_size (by repeat (first | (with_reducible first | exact HB.out | apply bA | apply bN | apply bD) | exact HB.out))) : w.heap.size ≤ gb247)); have n3_ := aM ((by rw [hg]; exact (below_size (by repeat (first | (with_reducible first | exact HB.out | apply bA | apply bN | apply bD) | exact HB.out))) : w.heap.size ≤ gb247)); clear HB; have HB := n0_; have BK247 := n1_; have GW247 := n2_; have GE247 := n3_; clear n0_ n1_ n2_ n3_; clear hb hbox hg) | ((with_reducible refine gate_dst (N := 3) rfl ?_); refine box_event ?hg (N := 3) ?hd (cs := #[.int .i64 a1_0, .int .i64 a1_1]) (t := 39) ?hr ?_; (case hd => rfl); (case hg => rfl); (case hr => first | (go_simp; done) | (go_simp; rfl)); intro gb248 hg w10 hbox hb; have n0_ := aM (blk_below (g := gb247) (o := .cells #[.int .i64 a0_0, .int .i64 a0_1] 39 (0, 0)) (by (with_reducible repeat (first | refine blk_drewN ?_ _ | refine blk_drew ?_ | refine blk_alloc ?_ _)); exact BK247.out) hb); have n1_ := aM (below_step (by repeat (first | (with_reducible first | exact HB.out | apply bA | apply bN | apply bD | refine below_set ?_ GE247.out) | exact HB.out)) hb); have n2_ := aM (hbox); have n3_ := aM ((by rw [hg]; exact (below_size (by repeat (first | (with_reducible first | exact HB.out | apply bA | apply bN | apply bD | refine below_set ?_ GE247.out) | exact HB.out))) : w.heap.size ≤ gb248)); have n4_ := aM ((by rw [hg]; exact (below_size (by repeat (first | (with_reducible first | exact HB.out | apply bA | apply bN | apply bD | refine below_set ?_ GE247.out) | exact HB.out))) : w.heap.size ≤ gb248)); have n5_ := aM ((by rw [hg]; exact Nat.ne_of_lt (blk_lt (g := gb247) (o := .cells #[.int .i64 a0_0, .int .i64 a0_1] 39 (0, 0)) (by (with_reducible repeat (first | refine blk_drewN ?_ _ | refine blk_drew ?_ | refine blk_alloc ?_ _)); exact BK247.out)) : gb247 ≠ gb248)); have n6_ := aM ((by rw [hg]; exact Nat.ne_of_gt (blk_lt (g := gb247) (o := .cells #[.int .i64 a0_0, .int .i64 a0_1] 39 (0, 0)) (by (with_reducible repeat (first | refine blk_drewN ?_ _ | refine blk_drew ?_ | refine blk_alloc ?_ _)); exact BK247.out)) : gb248 ≠ gb247)); clear BK247; clear HB; have BK247 := n0_; have HB := n1_; have BK248 := n2_; have GW248 := n3_; have GE248 := n4_; have NB247_248 := n5_; have NB248_247 := n6_; clear n0_ n1_ n2_ n3_ n4_ n5_ n6_; clear hb hbox hg; have hnb11 := NB247_248.out; have hnc11 := NB248_247.out; have hcz12_0 : w10.cell? ⟨gb247, 0, none⟩ = some (.int .i64 a0_0) := (blk_cell BK247.out 0).trans rfl; have hcz12_1 : w10.cell? ⟨gb247, 1, none⟩ = some (.int .i64 a0_1) := (blk_cell BK247.out 1).trans rfl; have hfz12_0 := blk_frozen BK247.out 0; have hfz12_1 := blk_frozen BK247.out 1; have hcz13_0 : w10.cell? ⟨gb248, 0, none⟩ = some (.int .i64 a1_0) := (blk_cell BK248.out 0).trans rfl; have hcz13_1 : w10.cell? ⟨gb248, 1, none⟩ = some (.int .i64 a1_1) := (blk_cell BK248.out 1).trans rfl; have hfz13_0 := blk_frozen BK248.out 0; have hfz13_1 := blk_frozen BK248.out 1))
  go_ret
  exact ⟨by first | rfl | (simp [errW_none, errW_some] <;> rfl) | (simp [*, errW_none, errW_some] <;> rfl), by repeat (first | (with_reducible first | exact HB.out | apply bA | apply bN | apply bD | refine below_set ?_ GE247.out | refine below_set ?_ GE248.out) | exact HB.out)⟩

end

section
/-! ### slices_SortFunc_Tile: function 69: written by hand -/
open Go.Shelf in
shelf_lay_g SlLaysF0.n6 Slsf 6 at Try 69 as Try.sortLays
/-- A tile whose numbers are small: their differences are true ones. -/
def inT (x : S39) : Prop := 0 ≤ x.f0 ∧ x.f0 ≤ 9 ∧ 0 ≤ x.f1 ∧ x.f1 ≤ 9
instance (x : S39) : Decidable (inT x) := by unfold inT; infer_instance
abbrev ST := { x : S39 // inT x }
instance : Inhabited ST := ⟨⟨⟨0, 0⟩, ⟨by decide, by decide, by decide, by decide⟩⟩⟩
def encST (x : ST) : List Value := [.int .i64 x.1.f0, .int .i64 x.1.f1]
def cmpST (x y : ST) : Int := if x.1.f0 = y.1.f0 then x.1.f1 - y.1.f1 else x.1.f0 - y.1.f0
def leT (x y : S39) : Bool := decide (x.f0 < y.f0) || (decide (x.f0 = y.f0) && decide (x.f1 ≤ y.f1))
theorem leT_iff (x y : S39) : leT x y = true ↔ x.f0 < y.f0 ∨ (x.f0 = y.f0 ∧ x.f1 ≤ y.f1) := by simp [leT]
theorem ltST_iff (x y : ST) : Go.Proofs.ltOf cmpST x y = true ↔ x.1.f0 < y.1.f0 ∨ (x.1.f0 = y.1.f0 ∧ x.1.f1 < y.1.f1) := by
 unfold Go.Proofs.ltOf cmpST
 rw [decide_eq_true_iff]
 split <;> omega
theorem ltST_false (x y : ST) : Go.Proofs.ltOf cmpST x y = false ↔ leT y.1 x.1 = true := by
 rw [← Bool.not_eq_true, ltST_iff, leT_iff]; omega
theorem swoST : Go.Sort.SWO (Go.Proofs.ltOf cmpST) where
 irrefl x := by rw [ltST_false, leT_iff]; omega
 trans x y z h1 h2 := by rw [ltST_iff] at *; omega
 ntrans x y z h1 h2 := by rw [ltST_false, leT_iff] at *; omega
theorem leT_trans (a b c : S39) (h1 : leT a b = true) (h2 : leT b c = true) : leT a c = true := by rw [leT_iff] at *; omega
theorem leT_total (a b : S39) : (leT a b || leT b a) = true := by rw [Bool.or_eq_true, leT_iff, leT_iff]; omega
theorem leT_anti (a b : S39) (h1 : leT a b = true) (h2 : leT b a = true) : a = b := by
 obtain ⟨a0, a1⟩ := a
 obtain ⟨b0, b1⟩ := b
 rw [leT_iff] at h1 h2
 dsimp only at h1 h2
 simp only [S39.mk.injEq]
 omega
def stL (l : List S39) (h : ∀ x ∈ l, inT x) : List ST := l.attachWith inT h
theorem stL_val (l : List S39) (h : ∀ x ∈ l, inT x) : (stL l h).map Subtype.val = l := by simp [stL]
theorem stL_length (l : List S39) (h : ∀ x ∈ l, inT x) : (stL l h).length = l.length := by simp [stL]
/-- What the sort's contract says is the one sorted list. -/
theorem sorted_one (l : List S39) (h : ∀ x ∈ l, inT x) (d' : Array ST) (hp : Go.Sort.PermIn 0 (stL l h).toArray.size (stL l h).toArray d') (hs : Go.Sort.SortedIn (Go.Proofs.ltOf cmpST) 0 (stL l h).toArray.size d') : d'.toList.map Subtype.val = l.mergeSort leT := by
 obtain ⟨h1, _, h2⟩ := hp
 have e1 : d'.extract 0 (stL l h).toArray.size = d' := by rw [← h1]; simp
 rw [e1] at h2
 have hperm : (d'.toList.map Subtype.val).Perm l := by
  have e2 : ((stL l h).toArray.extract 0 (stL l h).toArray.size).toList = stL l h := by simp
  rw [e2] at h2
  have := h2.map Subtype.val
  rw [stL_val] at this
  exact this
 have hpw : (d'.toList.map Subtype.val).Pairwise (fun a b => leT a b = true) := by
  rw [List.pairwise_iff_getElem]
  intro i j hi hj hij
  simp only [List.length_map, Array.length_toList] at hi hj
  have := hs i j (Nat.zero_le _) hij (by omega)
  rw [getElem!_pos d' i (by omega), getElem!_pos d' j (by omega), ltST_false] at this
  simpa using this
 refine List.Perm.eq_of_pairwise (le := fun a b => leT a b = true) (fun a b _ _ => leT_anti a b) hpw (List.pairwise_mergeSort leT_trans leT_total l) (hperm.trans (List.mergeSort_perm l leT).symm)
theorem heap_sortedK {w : World} {g n : Nat} {os : Array Obj} {cur : Array Value} {e : TypeId} {fr : Nat × Nat} (d : Array ST) (hb : w.heap[g]? = some (.cells cur e fr)) :
  (Go.Proofs.sortWorldK encST 2 w g 0 n d os).heap[g]? = some (.cells (Go.Sort.putCells id 0 (Go.Sort.flatK encST 2 d) cur) e fr) := by
 have hg : g < w.heap.size := (Array.getElem?_eq_some_iff.1 hb).1
 unfold Go.Proofs.sortWorldK Go.Sort.putRowK
 rw [Go.Sort.heap_grow_old _ _ (by simpa using hg)]
 simp [Go.Sort.putRow, Go.Sort.mapBlock, Go.Sort.ahead, Array.getElem?_modify, hb, Go.Sort.onCells]
theorem grownBy_sortedK {w : World} {g n : Nat} {os : Array Obj} (d : Array ST) : w.grownBy (Go.Proofs.sortWorldK encST 2 w g 0 n d os) (some g) := by
 unfold Go.Proofs.sortWorldK Go.Sort.putRowK
 refine ⟨rfl, rfl, rfl, by simp, fun k hk hne => ?_⟩
 rw [Go.Sort.heap_grow_old _ _ (by simpa using hk)]
 have : g ≠ k := fun e => hne (by rw [e])
 simp [Go.Sort.putRow, Go.Sort.mapBlock, Go.Sort.ahead, Array.getElem?_modify, this]
theorem flatST_get (d : Array ST) (i : Nat) (hi : i < d.size) : (Go.Sort.flatK encST 2 d)[i * 2]? = some (.int .i64 d[i].1.f0) ∧ (Go.Sort.flatK encST 2 d)[i * 2 + 1]? = some (.int .i64 d[i].1.f1) := by
 have h1 : i * 2 < (Go.Sort.flatK encST 2 d).size := by simp; omega
 have h2 : i * 2 + 1 < (Go.Sort.flatK encST 2 d).size := by simp; omega
 have g1 := Go.Sort.get_flatK encST 2 d (i * 2) (by omega)
 have g2 := Go.Sort.get_flatK encST 2 d (i * 2 + 1) (by omega)
 rw [getElem!_pos (Go.Sort.flatK encST 2 d) (i * 2) h1, show i * 2 / 2 = i by omega, show i * 2 % 2 = 0 by omega, getElem!_pos d i hi] at g1
 rw [getElem!_pos (Go.Sort.flatK encST 2 d) (i * 2 + 1) h2, show (i * 2 + 1) / 2 = i by omega, show (i * 2 + 1) % 2 = 1 by omega, getElem!_pos d i hi] at g2
 exact ⟨by rw [Array.getElem?_eq_getElem h1, g1]; rfl, by rw [Array.getElem?_eq_getElem h2, g2]; rfl⟩
theorem reps_two {R : S39 → List Value → Prop} {l : List S39} {inner : List Value} (hR : ∀ x c, R x c → c = [.int .i64 x.f0, .int .i64 x.f1]) (hr : Reps R 2 l inner) (i : Nat) (hi : i < l.length) : inner[i * 2]? = some (.int .i64 l[i].f0) ∧ inner[i * 2 + 1]? = some (.int .i64 l[i].f1) := by
 have h := hR _ _ (hr.2 i l[i] (List.getElem?_eq_getElem hi))
 have h0 := congrArg (fun c => c[0]?) h
 have h1 := congrArg (fun c => c[1]?) h
 simp only [List.getElem?_take, List.getElem?_drop] at h0 h1
 exact ⟨by simpa using h0, by simpa using h1⟩
theorem holds_of_own {w : World} {g : Nat} {l : List S39} (h : ∀ x ∈ l, inT x) {e : TypeId} {cur : Array Value} {inner : List Value} {R : S39 → List Value → Prop} (hR : ∀ x c, R x c → c = [.int .i64 x.f0, .int .i64 x.f1]) (hb : w.heap[g]? = some (.cells cur e (0, 0))) (ht : cur.toList.take (l.length * 2) = inner) (hr : Reps R 2 l inner) : Go.Sort.HoldsK encST 2 w g 0 (stL l h).toArray := by
 intro j hj
 have hj' : j < l.length * 2 := by simpa [stL_length] using hj
 refine ⟨?_, by simp [World.frozen?, hb]⟩
 simp only [World.cell?, hb, Nat.zero_add]
 simp only [Option.isSome_none, Bool.false_eq_true, if_false]
 have h1 : cur[j]? = inner[j]? := by rw [← ht, List.getElem?_take_of_lt hj', Array.getElem?_toList]
 rw [h1]
 have hi : j / 2 < l.length := by omega
 have r2 := reps_two hR hr (j / 2) hi
 have hs : j / 2 < (stL l h).toArray.size := by simpa [stL_length] using hi
 have f2 := flatST_get (stL l h).toArray (j / 2) hs
 have hv : (stL l h).toArray[j / 2].1 = l[j / 2] := by
  have := stL_val l h
  have e1 : ((stL l h).map Subtype.val)[j / 2]? = some l[j / 2] := by rw [this]; exact List.getElem?_eq_getElem hi
  simpa [stL_length, hi] using e1
 rw [hv] at f2
 rcases Nat.mod_two_eq_zero_or_one j with hm | hm
 ·have e : j / 2 * 2 = j := by omega
  rw [e] at r2 f2
  rw [r2.1]
  show _ = some (Go.Sort.flatK encST 2 (stL l h).toArray)[j]!
  rw [getElem!_pos _ j (by simpa [stL_length] using hj'), ← Array.getElem?_eq_getElem, f2.1]
 ·have e : j / 2 * 2 + 1 = j := by omega
  rw [e] at r2 f2
  rw [r2.2]
  show _ = some (Go.Sort.flatK encST 2 (stL l h).toArray)[j]!
  rw [getElem!_pos _ j (by simpa [stL_length] using hj'), ← Array.getElem?_eq_getElem, f2.2]
theorem take_putCellsK (cur F : Array Value) (h : F.size ≤ cur.size) : (Go.Sort.putCells id 0 F cur).toList.take F.size = F.toList := by
 apply List.ext_getElem?
 intro j
 by_cases hj : j < F.size
 ·rw [List.getElem?_take_of_lt hj, Array.getElem?_toList]
  simp [Go.Sort.putCells, hj, show j < cur.size by omega]
 ·rw [List.getElem?_take_eq_none (by omega), List.getElem?_eq_none (by simp; omega)]
/-- Behind the sort the same slice owns the sorted tiles. -/
theorem own_sortedK {w : World} {base g cap n : Nat} {ok : Nat → Prop} {os : Array Obj} {cur : Array Value} {l : List S39} (d : Array ST) (hd : d.size = l.length) (hok : ok g) (hbase : base ≤ g) (hb : w.heap[g]? = some (.cells cur 39 (0, 0)))
  (h1 : l.length ≤ cap) (h2 : cap ≤ maxLen) (h3 : cur.size = cap * 2) : Kd.R k39 39 (Go.Proofs.sortWorldK encST 2 w g 0 n d os) base ok (.slice (some ⟨g, 0, none⟩) l.length cap) (d.toList.map Subtype.val) := by
 have hs : (Go.Sort.flatK encST 2 d).size = l.length * 2 := by rw [Go.Sort.size_flatK, hd]
 have hl : (d.toList.map Subtype.val).length = l.length := by simp [hd]
 refine ⟨fun k hk => ?_, (Go.Sort.flatK encST 2 d).toList, ?_, ?_, ?_⟩
 ·have : g = k := by simpa [Value.ownBlock] using hk
  subst this; exact hok
 ·rw [hl]
  refine ⟨by show _ = l.length * 2; simp [hd], .inr ⟨g, cap, _, rfl, hbase, heap_sortedK d hb, h1, h2, by show _ = cap * 2; simp [Go.Sort.putCells, h3], ?_⟩⟩
  show _ = _
  have := take_putCellsK cur (Go.Sort.flatK encST 2 d) (by rw [hs, h3]; exact Nat.mul_le_mul_right _ h1)
  rw [hs] at this
  exact this
 ·show _ = _ * 2
  simp [hd]
 ·intro j p hj
  have hjl : j < d.size := by
   have := (List.getElem?_eq_some_iff.1 hj).1
   simpa using this
  have hp : d[j].1 = p := by
   have := hj
   rw [List.getElem?_map, Array.getElem?_toList, Array.getElem?_eq_getElem hjl] at this
   simpa using this
  obtain ⟨f1, f2⟩ := flatST_get d j hjl
  have : ((Go.Sort.flatK encST 2 d).toList.drop (j * 2)).take 2 = [.int .i64 p.f0, .int .i64 p.f1] := by
   rw [← hp]
   apply List.ext_getElem?
   intro i
   match i with
   | 0 => simpa [List.getElem?_take, List.getElem?_drop] using f1
   | 1 => simpa [List.getElem?_take, List.getElem?_drop] using f2
   | i + 2 => rw [List.getElem?_take_eq_none (by omega)]; simp
  show k39.M _ _ _ _ (((Go.Sort.flatK encST 2 d).toList.drop (j * 2)).take 2)
  rw [this]
  exact k39_mkM _ _ _ p
set_option maxHeartbeats 4000000 in
theorem cmp_closure (x y : ST) (W : World) : Calls Try.prog 70 #[.agg (encST x).toArray, .agg (encST y).toArray] W fun e w' => e = .returned (.int .i64 (cmpST x y)) ∧ ∃ q os', w' = Go.Sort.grow (W.drewN q) os' := by
 obtain ⟨⟨x0, x1⟩, hx⟩ := x
 obtain ⟨⟨y0, y1⟩, hy⟩ := y
 obtain ⟨a1, a2, a3, a4⟩ : 0 ≤ x0 ∧ x0 ≤ 9 ∧ 0 ≤ x1 ∧ x1 ≤ 9 := hx
 obtain ⟨b1, b2, b3, b4⟩ : 0 ≤ y0 ∧ y0 ≤ 9 ∧ 0 ≤ y1 ∧ y1 ≤ 9 := hy
 have w0 : wrap64 (x0 - y0) = x0 - y0 := by unfold wrap64; omega
 have w1 : wrap64 (x1 - y1) = x1 - y1 := by unfold wrap64; omega
 show Calls Try.prog 70 #[.agg #[.int .i64 x0, .int .i64 x1], .agg #[.int .i64 y0, .int .i64 y1]] W fun e w' => e = .returned (.int .i64 (if x0 = y0 then x1 - y1 else x0 - y0)) ∧ ∃ q os', w' = Go.Sort.grow (W.drewN q) os'
 by_cases h : x0 = y0
 ·have hz : (x0 == y0) = true := beq_iff_eq.mpr h
  have hz2 : (x0 != y0) = false := bne_eq_false_iff_eq.mpr h
  rw [if_pos h]
  clear h
  go_enter Try.func70, Try.ntmps70
  go_wp2
  go_ret
  exact ⟨by rw [← w1]; rfl, 0, _, by rw [Go.Sort.alloc_eq_grow, Go.Sort.alloc_eq_grow, Go.Sort.grow_grow]; rfl⟩
 ·have hz : (x0 == y0) = false := beq_eq_false_iff_ne.mpr h
  have hz2 : (x0 != y0) = true := bne_iff_ne.mpr h
  rw [if_neg h]
  clear h
  go_enter Try.func70, Try.ntmps70
  go_wp2
  go_ret
  exact ⟨by rw [← w0]; rfl, 0, _, by rw [Go.Sort.alloc_eq_grow, Go.Sort.alloc_eq_grow, Go.Sort.grow_grow]; rfl⟩
section
open Go.Proofs Go.Shelf Go.Lib
variable {P : Program} {ρ : Ren}
set_option maxHeartbeats 4000000 in
set_option maxRecDepth 1000000 in
theorem nil_ins (L : SlLaysF0.n20 P ρ) (g : Nat) (cb : Array Value) (w : World) : Calls P (ρ.f 20) #[.slice none 0 0, .int .i64 0, .int .i64 0, .func (.func g) #[] cb] w fun e w' => e = .returned (.tuple #[]) ∧ w' = w := by
 have mixed := L.mixed; have t0 := L.t0; have a0 := L.a0; have z0 := L.z0; have v0 := L.v0; have t3 := L.t3; have a3 := L.a3; have z3 := L.z3; have v3 := L.v3; have t4 := L.t4; have a4 := L.a4; have z4 := L.z4; have v4 := L.v4; have t22 := L.t22; have a22 := L.a22; have z22 := L.z22; have v22 := L.v22; have t25 := L.t25; have a25 := L.a25; have z25 := L.z25; have v25 := L.v25
 have u22 := run_underlying L.t22
 obtain ⟨nm20, _, F20⟩ := L.f20
 go_enter F20, SlBodyF.n20_ntmps ρ
 go_wp2
 go_loopg [8] 0 (fun g1 vi wr => vi = .int .i64 1 ∧ wr = w)
 case atStart => exact ⟨rfl, rfl⟩
 case round =>
  obtain ⟨rfl, rfl⟩ := hrel
  go_wp2
  go_end0
  exact ⟨rfl, rfl⟩
set_option maxHeartbeats 4000000 in
set_option maxRecDepth 1000000 in
theorem nil_pdq (L : SlLaysF0.n14 P ρ) (g : Nat) (cb : Array Value) (lim : Int) (w : World) : Calls P (ρ.f 14) #[.slice none 0 0, .int .i64 0, .int .i64 0, .int .i64 lim, .func (.func g) #[] cb] w fun e w' => e = .returned (.tuple #[]) ∧ w' = w := by
 have mixed := L.mixed; have t0 := L.t0; have a0 := L.a0; have z0 := L.z0; have v0 := L.v0; have t3 := L.t3; have a3 := L.a3; have z3 := L.z3; have v3 := L.v3; have t4 := L.t4; have a4 := L.a4; have z4 := L.z4; have v4 := L.v4; have t5 := L.t5; have a5 := L.a5; have z5 := L.z5; have v5 := L.v5; have t9 := L.t9; have a9 := L.a9; have z9 := L.z9; have v9 := L.v9; have t22 := L.t22; have a22 := L.a22; have z22 := L.z22; have v22 := L.v22; have t25 := L.t25; have a25 := L.a25; have z25 := L.z25; have v25 := L.v25; have t39 := L.t39; have a39 := L.a39; have z39 := L.z39; have v39 := L.v39; have t45 := L.t45; have a45 := L.a45; have z45 := L.z45; have v45 := L.v45; have t46 := L.t46; have a46 := L.a46; have z46 := L.z46; have v46 := L.v46; have t50 := L.t50; have a50 := L.a50; have z50 := L.z50; have v50 := L.v50; have t53 := L.t53; have a53 := L.a53; have z53 := L.z53; have v53 := L.v53; have t55 := L.t55; have a55 := L.a55; have z55 := L.z55; have v55 := L.v55; have t66 := L.t66; have a66 := L.a66; have z66 := L.z66; have v66 := L.v66; have t70 := L.t70; have a70 := L.a70; have z70 := L.z70; have v70 := L.v70; have t76 := L.t76; have a76 := L.a76; have z76 := L.z76; have v76 := L.v76; have t77 := L.t77; have a77 := L.a77; have z77 := L.z77; have v77 := L.v77
 have e20 : ∀ args w, (callFunc (ρ.f 20) args).run P w = .ok (.enter (ρ.f 20) args) w := L.f20.enters rfl
 have hi := nil_ins (P := P) (ρ := ρ) { L with } g cb w
 obtain ⟨_, _, FG⟩ := L.f14
 go_enter FG, SlBodyF.n14_ntmps ρ
 go_wp2
 refine wp_loop_rounds 1 ?_
 rw [rounds_succ]
 go_wp2_with (go_at_fn (ρ.f 20); refine hi.mono ?_; rintro e w' ⟨rfl, rfl⟩)
 (try simp only [Exit.inBlock, Exit.then]); refine bodyPost_ret (results_none rfl _ _ _) rfl ?_
 exact ⟨rfl, rfl⟩
set_option maxHeartbeats 4000000 in
set_option maxRecDepth 1000000 in
theorem nil_sort (L : SlLaysF0.n6 P ρ) (g : Nat) (cb : Array Value) (w : World) : Calls P (ρ.f 6) #[.slice none 0 0, .func (.func g) #[] cb] w fun e w' => e = .returned (.tuple #[]) ∧ w' = w := by
 have mixed := L.mixed; have t0 := L.t0; have a0 := L.a0; have z0 := L.z0; have v0 := L.v0; have t3 := L.t3; have a3 := L.a3; have z3 := L.z3; have v3 := L.v3; have t4 := L.t4; have a4 := L.a4; have z4 := L.z4; have v4 := L.v4; have t5 := L.t5; have a5 := L.a5; have z5 := L.z5; have v5 := L.v5; have t9 := L.t9; have a9 := L.a9; have z9 := L.z9; have v9 := L.v9; have t22 := L.t22; have a22 := L.a22; have z22 := L.z22; have v22 := L.v22; have t25 := L.t25; have a25 := L.a25; have z25 := L.z25; have v25 := L.v25; have t39 := L.t39; have a39 := L.a39; have z39 := L.z39; have v39 := L.v39; have t45 := L.t45; have a45 := L.a45; have z45 := L.z45; have v45 := L.v45; have t46 := L.t46; have a46 := L.a46; have z46 := L.z46; have v46 := L.v46; have t50 := L.t50; have a50 := L.a50; have z50 := L.z50; have v50 := L.v50; have t53 := L.t53; have a53 := L.a53; have z53 := L.z53; have v53 := L.v53; have t55 := L.t55; have a55 := L.a55; have z55 := L.z55; have v55 := L.v55; have t66 := L.t66; have a66 := L.a66; have z66 := L.z66; have v66 := L.v66; have t70 := L.t70; have a70 := L.a70; have z70 := L.z70; have v70 := L.v70; have t76 := L.t76; have a76 := L.a76; have z76 := L.z76; have v76 := L.v76; have t77 := L.t77; have a77 := L.a77; have z77 := L.z77; have v77 := L.v77
 have e14 : ∀ args w, (callFunc (ρ.f 14) args).run P w = .ok (.enter (ρ.f 14) args) w := L.f14.enters rfl
 have e15 : ∀ args w, (callFunc (ρ.f 15) args).run P w = .ok (.enter (ρ.f 15) args) w := enters_of L.f15 (by kernel_rfl) rfl
 have hp := fun lim => nil_pdq (P := P) (ρ := ρ) { L with } g cb lim w
 have hl : Calls P (ρ.f 15) #[.int .u64 0] w fun e w' => e = .returned (.int .i64 (Lib.bitLen 0 : Nat)) ∧ w' = w := by
  have h := Any.bits_Len (SlLaysF0.n15.bits (P := P) (ρ := ρ) { L with }) (0 : Int) w (by omega) (by omega)
  exact h
 obtain ⟨_, _, FG⟩ := L.f6
 go_enter FG, SlBodyF.n6_ntmps ρ
 go_wp2_with (first | (go_at_fn (ρ.f 15); refine hl.mono ?_; rintro e w' ⟨rfl, rfl⟩) | (go_at_fn (ρ.f 14); refine (hp _).mono ?_; rintro e w' ⟨rfl, rfl⟩))
 go_end0
 exact ⟨rfl, rfl⟩
end
set_option maxHeartbeats 4000000 in
theorem slices_SortFunc_Tile.gcalls (base : Nat) (ok : Nat → Prop) (v : Value) (l : List S39) (w : World) (hbase : base ≤ w.heap.size) (ho : Kd.R k39 39 w base ok v l) (h : ∀ x ∈ l, inT x) (hlen : l.length < 4611686018427387904) :
  Calls Try.prog 69 #[v, .func (.func 70) #[] #[]] w fun e w' => e = .returned (.tuple #[]) ∧ Kd.R k39 39 w' base ok v (l.mergeSort leT) ∧ Below base w w' := by
 obtain ⟨hok, inner, ⟨hl, hd⟩, hr⟩ := ho
 rcases hd with ⟨rfl, hn⟩ | ⟨g, cap, cur, rfl, hg, hb, h1, h2, h3, h4⟩
 ·obtain rfl : l = [] := List.length_eq_zero_iff.1 hn
  refine (nil_sort Try.sortLays 70 #[] w).mono ?_
  rintro e w' ⟨rfl, rfl⟩
  exact ⟨rfl, by rw [List.mergeSort_nil]; exact Kd.R_nil _ _ _ _ _, Below.refl _ _⟩
 have eg : ∀ args w, (callFunc 70 args).run Try.prog w = .ok (.enter 70 args) w := enters_of Try.func70 (by kernel_rfl) rfl
 have hgl : g < w.heap.size := (Array.getElem?_eq_some_iff.1 hb).1
 have hsz : (stL l h).toArray.size = l.length := by simp [stL_length]
 have hcon := Go.Proofs.AnyQ.slices_SortFunc Try.sortLays 2 Try.isAgg39 Try.sizeOf39 encST (fun _ => rfl) (fun x v hv => by simp [encST] at hv; rcases hv with rfl | rfl <;> rfl) cmpST swoST 70 #[] g 0 cap (stL l h).toArray w eg (fun _ _ _ _ x y => cmp_closure x y _) (holds_of_own h (fun x c hc => k39_openM hc) hb h4 hr) hgl (by omega)
 change Calls Try.prog 69 _ _ _ at hcon
 rw [hsz] at hcon
 refine hcon.mono ?_
 rintro e w' ⟨he, d', n, os, hp, hs, rfl⟩
 rw [← hsz] at hp hs
 have hone := sorted_one l h d' hp hs
 have hd : d'.size = l.length := by rw [hp.1, hsz]
 refine ⟨he, ?_, Below.grown (Below.refl _ _) (grownBy_sortedK d') hbase (fun k hk => by cases hk; exact hg)⟩
 have := own_sortedK (n := n) (os := os) d' hd (hok g (by simp [Value.ownBlock])) hg hb h1 h2 h3
 rw [hone] at this
 exact this

end

section
/-! ### impl_sorted: function 53: written by hand -/
def impl_sorted.f (l0 : List S39) : Option (List S39) := if l0.length < 8796093022208 ∧ (∀ x ∈ l0, inT x) then some (l0.mergeSort leT) else none
set_option maxHeartbeats 8000000 in
set_option maxRecDepth 100000 in
theorem impl_sorted.calls (A0 : Option Addr) (c0 : Nat) (l0 : List S39) (r : List S39) (w : World) (hr0 : Kd.C k39 w A0 l0.length l0) (hc0 : l0.length ≤ c0) (h : impl_sorted.f l0 = some r) :
  Calls Try.prog 53 #[.slice A0 l0.length c0] w fun e w' => ∃ v0_ : Value, e = .returned (v0_) ∧ Kd.R k39 39 w' w.heap.size (fun _ => True) v0_ r ∧ Below w.heap.size w w' := by
 unfold impl_sorted.f at h
 by_cases c2 : l0.length < 8796093022208 ∧ (∀ x ∈ l0, inT x)
 ·rw [if_pos c2] at h
  obtain rfl := Option.some.inj h
  have hcl := slices_Clone_Tile.calls A0 c0 l0 l0 w hr0 hc0 (by unfold slices_Clone_Tile.f; rw [if_pos c2.1])
  have hso : ∀ W v, Kd.R k39 39 W w.heap.size (fun _ => True) v l0 → w.heap.size ≤ W.heap.size → Calls Try.prog 69 #[v, .func (.func 70) #[] #[]] W fun e w' => e = .returned (.tuple #[]) ∧ Kd.R k39 39 w' w.heap.size (fun _ => True) v (l0.mergeSort leT) ∧ Below w.heap.size W w' := fun W v ho hs => slices_SortFunc_Tile.gcalls w.heap.size _ v l0 W hs ho c2.2 (by omega)
  clear hr0 hc0 h c2
  go_enter Try.func53, Try.ntmps53
  go_wp2_with (first | (go_at_call 61; refine hcl.mono ?_; rintro e w1 ⟨v1, rfl, ho1, hb1⟩; have HO1 := aM ho1; have HB1 := aM hb1; clear ho1 hb1) | (go_at_call 69; refine (hso _ _ HO1.out HB1.out.size).mono ?_; rintro e w2 ⟨rfl, ho2, hb2⟩))
  go_ret
  exact ⟨_, rfl, ho2, HB1.out.trans hb2⟩
 ·rw [if_neg c2] at h
  exact absurd h (by simp)

end

section
/-! ### slices_DeleteFunc_Tile: function 62: written by hand -/
/-- A block whose first cells are the tiles of a list. -/
def rowIs (w : World) (g cap : Nat) (m : List S39) : Prop :=
 ∃ cur : Array Value, w.heap[g]? = some (.cells cur 39 (0, 0)) ∧ cur.size = cap * 2 ∧ m.length ≤ cap ∧ ∀ i x, m[i]? = some x → cur[i * 2]? = some (.int .i64 x.f0) ∧ cur[i * 2 + 1]? = some (.int .i64 x.f1)
theorem rowIs_below {w w' : World} {g cap : Nat} {m : List S39} (h : rowIs w g cap m) (hb : Below w.heap.size w w') : rowIs w' g cap m := by
 obtain ⟨cur, h1, h2⟩ := h
 exact ⟨cur, (hb.block g (Array.getElem?_eq_some_iff.1 h1).1).trans h1, h2⟩
theorem rowIs_lt {w : World} {g cap : Nat} {m : List S39} (h : rowIs w g cap m) : g < w.heap.size := by
 obtain ⟨cur, h1, h2⟩ := h
 exact (Array.getElem?_eq_some_iff.1 h1).1
theorem rowIs_at {w : World} {g cap : Nat} {m : List S39} (h : rowIs w g cap m) (i : Nat) (x : S39) (hx : m[i]? = some x) : w.cell? ⟨g, i * 2, none⟩ = some (.int .i64 x.f0) ∧ w.cell? ⟨g, i * 2 + 1, none⟩ = some (.int .i64 x.f1) ∧ w.frozen? ⟨g, i * 2, none⟩ = false ∧ w.frozen? ⟨g, i * 2 + 1, none⟩ = false := by
 obtain ⟨cur, h1, h2, h3, h4⟩ := h
 obtain ⟨a, b⟩ := h4 i x hx
 refine ⟨?_, ?_, by simp [World.frozen?, h1], by simp [World.frozen?, h1]⟩
 ·simp only [World.cell?, h1]; simpa using a
 ·simp only [World.cell?, h1]; simpa using b
theorem rowIs_set {w : World} {g cap : Nat} {m : List S39} (h : rowIs w g cap m) (i : Nat) (x : S39) (hi : i < m.length) : rowIs ((w.setCell ⟨g, i * 2, none⟩ (.int .i64 x.f0)).setCell ⟨g, i * 2 + 1, none⟩ (.int .i64 x.f1)) g cap (m.set i x) := by
 obtain ⟨cur, h1, h2, h3, h4⟩ := h
 refine ⟨_, heap_setCell_at (heap_setCell_at h1), by simp [h2], by simpa using h3, fun j y hy => ?_⟩
 have hs : i * 2 + 1 < cur.size := by omega
 by_cases e : j = i
 ·subst e
  rw [List.getElem?_set_self hi] at hy
  cases hy
  constructor
  ·rw [Array.getElem?_setIfInBounds_ne (by omega), Array.getElem?_setIfInBounds_self_of_lt (by omega)]
  ·rw [Array.getElem?_setIfInBounds_self_of_lt (by simp; omega)]
 ·rw [List.getElem?_set_ne (by omega)] at hy
  obtain ⟨a, b⟩ := h4 j y hy
  constructor
  ·rw [Array.getElem?_setIfInBounds_ne (by omega), Array.getElem?_setIfInBounds_ne (by omega)]; exact a
  ·rw [Array.getElem?_setIfInBounds_ne (by omega), Array.getElem?_setIfInBounds_ne (by omega)]; exact b
/-- Behind a clearing of the cells from place k on the first k tiles are as they were. -/
theorem rowIs_clear {w : World} {g cap : Nat} {m : List S39} (h : rowIs w g cap m) (k : Nat) (hk : k ≤ m.length) (o : Nat) (ho : k * 2 ≤ o) (vs : List Value) : rowIs (w.setCells g o vs) g cap (m.take k) := by
 obtain ⟨cur, h1, h2, h3, h4⟩ := h
 obtain ⟨c, k1, k2, k3⟩ := heap_setCells_at vs w o cur h1
 refine ⟨c, k1, by omega, by simp; omega, fun i x hx => ?_⟩
 have hik : i < k := by
  have := (List.getElem?_eq_some_iff.1 hx).1
  simp at this; omega
 rw [List.getElem?_take_of_lt hik] at hx
 rw [k3 _ (by omega), k3 _ (by omega)]
 exact h4 i x hx
theorem R_of_rowIs {w : World} {base g cap : Nat} {ok : Nat → Prop} {m : List S39} (h : rowIs w g cap m) (hg : base ≤ g) (hok : ok g) (hc : cap ≤ maxLen) : Kd.R k39 39 w base ok (.slice (some ⟨g, 0, none⟩) m.length cap) m := by
 obtain ⟨cur, h1, h2, h3, h4⟩ := h
 have hl : (cur.toList.take (m.length * 2)).length = m.length * 2 := by simp; omega
 refine ⟨fun k hk => ?_, cur.toList.take (m.length * 2), ⟨hl, .inr ⟨g, cap, cur, rfl, hg, h1, h3, hc, h2, rfl⟩⟩, hl, fun j p hj => ?_⟩
 ·have : g = k := by simpa [Value.ownBlock] using hk
  subst this; exact hok
 ·obtain ⟨a, b⟩ := h4 j p hj
  have hjl := (List.getElem?_eq_some_iff.1 hj).1
  have : ((cur.toList.take (m.length * 2)).drop (j * 2)).take 2 = [.int .i64 p.f0, .int .i64 p.f1] := by
   apply List.ext_getElem?
   intro i
   match i with
   | 0 => rw [List.getElem?_take_of_lt (by omega), List.getElem?_drop, List.getElem?_take_of_lt (by omega), Array.getElem?_toList]; exact a
   | 1 => rw [List.getElem?_take_of_lt (by omega), List.getElem?_drop, List.getElem?_take_of_lt (by omega), Array.getElem?_toList]; exact b
   | i + 2 => rw [List.getElem?_take_eq_none (by omega)]; simp
  show k39.M _ _ _ _ (((cur.toList.take (m.length * 2)).drop (j * 2)).take 2)
  rw [this]
  exact k39_mkM _ _ _ p
theorem rowIs_of_R {w : World} {base : Nat} {ok : Nat → Prop} {v : Value} {l : List S39} (h : Kd.R k39 39 w base ok v l) : (v = .slice none 0 0 ∧ l = []) ∨ ∃ g cap, v = .slice (some ⟨g, 0, none⟩) l.length cap ∧ base ≤ g ∧ ok g ∧ l.length ≤ cap ∧ cap ≤ maxLen ∧ rowIs w g cap l := by
 obtain ⟨hok, inner, ⟨hl, hd⟩, hr⟩ := h
 rcases hd with ⟨rfl, hn⟩ | ⟨g, cap, cur, rfl, hg, hb, h1, h2, h3, h4⟩
 ·exact .inl ⟨rfl, List.length_eq_zero_iff.1 hn⟩
 ·refine .inr ⟨g, cap, rfl, hg, hok g (by simp [Value.ownBlock]), h1, h2, cur, hb, h3, h1, fun i x hx => ?_⟩
  obtain ⟨hi, rfl⟩ := List.getElem?_eq_some_iff.1 hx
  obtain ⟨a, b⟩ := reps_two (fun x c hc => k39_openM hc) hr i hi
  subst h4
  rw [List.getElem?_take_of_lt (by show _ < l.length * 2; omega), Array.getElem?_toList] at a b
  exact ⟨a, b⟩
def clearZ (n : Nat) : List Value := (Builtin.zeroCells #[.int .i64 0, .int .i64 0] n).toList
theorem clearZ_length (n : Nat) : (clearZ n).length = n * 2 := by simp [clearZ, Builtin.zeroCells]
theorem clearZ_one (n : Nat) : ∀ v ∈ clearZ n, v.oneCell' = true := by
 intro v hv
 simp only [clearZ, Builtin.zeroCells, Array.toList_map, List.mem_map] at hv
 obtain ⟨i, _, rfl⟩ := hv
 have h2 : i % 2 = 0 ∨ i % 2 = 1 := Nat.mod_two_eq_zero_or_one i
 have e : (#[Value.int .i64 0, Value.int .i64 0] : Array Value).size = 2 := rfl
 rw [e]
 rcases h2 with h | h <;> rw [h] <;> rfl
theorem clear_tiles {w : World} {g cap : Nat} {m : List S39} (h : rowIs w g cap m) (i : Nat) (hi : i < m.length) (c' : Nat) (ty : TypeId) : (Builtin.clear_ #[26] ty #[.slice (some ⟨g, i * 2, none⟩) (m.length - i) c']).run Try.prog w = .ok (.tuple #[]) (w.setCells g (i * 2) (clearZ (m.length - i))) := by
 obtain ⟨cur, h1, h2, h3, h4⟩ := h
 have hst := run_storeCells_cells (P := Try.prog) g (i * 2) (clearZ (m.length - i)) 0 w (fun j hj => by
  rw [clearZ_length] at hj
  simp only [World.cell?, h1, Nat.add_zero]
  simp only [Option.isSome_none, Bool.false_eq_true, if_false]
  rw [Array.getElem?_eq_getElem (by omega)]; rfl) (fun j hj => by simp [World.frozen?, h1]) (clearZ_one _)
 simp only [Nat.add_zero] at hst
 obtain ⟨n, hn⟩ : ∃ n, m.length - i = n + 1 := ⟨m.length - i - 1, by omega⟩
 rw [hn] at hst ⊢
 have hv := Try.zeroValue39
 simp [Builtin.clear_, run_underlying Try.underlying26, hv, clearZ, Value.cells] at hst ⊢
 simp [hst]
/-- The call of a predicate at a tile, in every world that leaves what lies below base: it answers p, and turns nothing. -/
def PredTB (g : Nat) (lb : Array Value) (p : S39 → Bool) (base : Nat) (w : World) (x : S39) : Prop :=
 ∀ W, Below base w W → Calls Try.prog g (#[.agg #[.int .i64 x.f0, .int .i64 x.f1]] ++ lb) W fun e W' => e = .returned (.bool (p x)) ∧ Below W.heap.size W W'
set_option maxHeartbeats 4000000 in
set_option maxRecDepth 100000 in
theorem slices_DeleteFunc_Tile.gcalls (g : Nat) (lb : Array Value) (p : S39 → Bool) (base : Nat) (ok : Nat → Prop) (v : Value) (l : List S39) (w : World) (eg : ∀ args w, (callFunc g args).run Try.prog w = .ok (.enter g args) w)
  (hbase : base ≤ w.heap.size) (ho : Kd.R k39 39 w base ok v l) (hp : ∀ x ∈ l, PredTB g lb p base w x) :
  Calls Try.prog 62 #[v, .func (.func g) #[] lb] w fun e w' => ∃ v', e = .returned v' ∧ Kd.R k39 39 w' base ok v' (l.filter fun x => !p x) ∧ Below base w w' := by
 obtain ⟨A, c, rfl, hlc, hC⟩ := Kd.R_reads ho
 have hIF := slices_IndexFunc_Tile.gcalls g lb p A c l w eg hC hlc (fun x hx W hb => (hp x hx W (hb.mono hbase)).mono fun e W' ⟨he, hb'⟩ => ⟨he, below_then hb hb.size hb'⟩)
 by_cases hany : l.any p = true
 case neg =>
  have hall : ∀ x ∈ l, p x = false := by
   intro x hx
   cases h : p x with
   | false => rfl
   | true => exact absurd (List.any_eq_true.2 ⟨x, hx, h⟩) hany
  have hi : idxB p l = -1 := by unfold idxB; rw [if_neg hany]
  rw [hi] at hIF
  have HO := aM ho
  have HF := aM (show (l.filter fun x => !p x) = l from List.filter_eq_self.2 fun x hx => by rw [hall x hx]; rfl)
  have HBS := aM hbase
  clear ho hp hC hall hi hany
  go_enter Try.func62, Try.ntmps62
  go_wp2_with (go_at_call 67; refine hIF.mono ?_; rintro e w' ⟨rfl, hb⟩; have HB := aM hb; clear hb)
  go_ret
  rw [HF.out]
  exact ⟨_, rfl, Kd.R_below HO.out HB.out, HB.out.mono HBS.out⟩
 case pos =>
  obtain ⟨k0, hk0, hi, hpk, hbef⟩ : ∃ k0, ∃ h : k0 < l.length, idxB p l = (k0 : Int) ∧ p l[k0] = true ∧ ∀ t, t < k0 → ∀ x, l[t]? = some x → p x = false := by
   refine ⟨l.findIdx p, List.findIdx_lt_length_of_exists (by simpa using hany), by unfold idxB; rw [if_pos hany], List.findIdx_getElem, fun t ht x hx => ?_⟩
   obtain ⟨h, rfl⟩ := List.getElem?_eq_some_iff.1 hx
   simpa using List.not_of_lt_findIdx ht
  rcases rowIs_of_R ho with ⟨_, rfl⟩ | ⟨gb, cap, hv, hgb, hokg, hlcap, hcap, hrow⟩
  ·exact absurd hk0 (Nat.not_lt_zero _)
  injection hv with e1 e2 e3
  subst e1 e3
  rw [hi] at hIF
  have hne : ((k0 : Int) == -1) = false := beq_eq_false_iff_ne.2 (by omega)
  have hst := KeptL.start (q := fun x => !p x) hk0 (by rw [hpk]; rfl) (fun t ht x hx => by rw [hbef t ht x hx]; rfl)
  have hbig : l.length ≤ 9223372036854775807 := hC.2.1
  have HP := aM hp
  have HS := aM hst
  have HR := aM hrow
  have HG := aM (show base ≤ gb ∧ ok gb ∧ c ≤ maxLen ∧ base ≤ w.heap.size from ⟨hgb, hokg, hcap, hbase⟩)
  clear ho hp hC hi hpk hbef hrow hst hgb hokg hcap hbase hany
  go_enter Try.func62, Try.ntmps62
  go_wp2_with (go_at_call 67; refine hIF.mono ?_; rintro e w1 ⟨rfl, hb⟩; have HB1 := aM hb; clear hb)
  go_loopg [5, 6, 7] l.length (fun gg s5 s6 _ wr => ∃ (i j : Nat) (m : List S39), s5 = .int .i64 i ∧ s6 = .int .i64 j ∧ j ≤ l.length ∧ l.length - j ≤ gg ∧ Aside0 (KeptL (fun x => !p x) l j i m) ∧ Aside0 (rowIs wr gb c m) ∧ Aside0 (Below base w wr))
  case atStart => exact ⟨k0, k0 + 1, l, rfl, by go_num, by omega, by omega, HS, ⟨rowIs_below HR.out HB1.out⟩, ⟨HB1.out.mono HG.out.2.2.2⟩⟩
  case round =>
   obtain ⟨i, j, m, rfl, rfl, hj, hg, HK, HRr, HBr⟩ := hrel
   have hij := HK.out.lt
   have hml := HK.out.len
   have hbs : base ≤ wr.heap.size := Nat.le_trans HG.out.2.2.2 HBr.out.size
   have HBS := aM hbs
   clear hbs
   by_cases hlt : j < l.length
   ·have hltz : (j : Int) < (l.length : Int) := by omega
    obtain ⟨x, hx⟩ : ∃ x, l[j]? = some x := ⟨_, List.getElem?_eq_getElem hlt⟩
    have hmx : m[j]? = some x := by rw [HK.out.high j (Nat.le_refl _)]; exact hx
    obtain ⟨y, hy⟩ : ∃ y, m[i]? = some y := ⟨_, List.getElem?_eq_getElem (by omega)⟩
    obtain ⟨hx0, hx1, _, _⟩ := rowIs_at HRr.out j x hmx
    have HY := aM hy
    have hxl : l[j] = x := by rw [List.getElem?_eq_getElem hlt] at hx; exact Option.some.inj hx
    have hcall : ∀ W, Below base w W → Calls Try.prog g (#[.agg #[.int .i64 x.f0, .int .i64 x.f1]] ++ lb) W fun e W' => e = .returned (.bool (p x)) ∧ Below W.heap.size W W' := fun W hb => HP.out x (List.mem_of_getElem? hx) W hb
    have HX := aM hxl
    clear hmx hx hy hxl
    cases hq : p x with
    | true =>
     rw [hq] at hcall
     have HQ := aM hq
     clear hq
     go_wp2_with (go_at_fn g; refine (hcall _ (HBr.out.alloc HBS.out _)).mono ?_; rintro e w2 ⟨rfl, hb2⟩)
     go_roundg (l.length - (j + 1))
     case measure => omega
     case rel =>
      have hbw : Below wr.heap.size wr w2 := below_then ((Below.refl _ _).alloc (Nat.le_refl _) _) (by simp) hb2
      exact ⟨i, j + 1, m, rfl, by go_num, by omega, Nat.le_refl _, ⟨HK.out.skip hlt (by rw [HX.out, HQ.out]; rfl)⟩, ⟨rowIs_below HRr.out hbw⟩, ⟨below_then HBr.out HBS.out hbw⟩⟩
    | false =>
     rw [hq] at hcall
     have HQ := aM hq
     clear hq
     have hlen2 : i < m.length := by omega
     have hyi : m[i]? = some y := HY.out
     go_wp2_with (go_at_fn g; refine (hcall _ (HBr.out.alloc HBS.out _)).mono ?_; rintro e w2 ⟨rfl, hb2⟩; have hv0 : w2.cell? ⟨wr.heap.size, 0, none⟩ = some (.int .i64 x.f0) := (hb2.cell (by simp)).trans (by simp only [World.cell?, heap_alloc_new]; rfl); have hv1 : w2.cell? ⟨wr.heap.size, 1, none⟩ = some (.int .i64 x.f1) := (hb2.cell (by simp)).trans (by simp only [World.cell?, heap_alloc_new]; rfl); have hbw : Below wr.heap.size wr w2 := below_then ((Below.refl _ _).alloc (Nat.le_refl _) _) (by simp) hb2; have HBW := aM hbw; have hrw := rowIs_below HRr.out hbw; have HRW := aM hrw; obtain ⟨hz0, hz1, hf0, hf1⟩ := rowIs_at hrw i y hyi; clear hbw hb2 hrw hyi hcall hx0 hx1)
     go_roundg (l.length - (j + 1))
     case measure => omega
     case rel => exact ⟨i + 1, j + 1, m.set i x, by go_num, by go_num, by omega, Nat.le_refl _, ⟨by have := HK.out.keep hlt (by rw [HX.out, HQ.out]; rfl); rwa [HX.out] at this⟩, ⟨rowIs_set HRW.out i x hlen2⟩, ⟨below_row_set (below_row_set (below_then HBr.out HBS.out HBW.out) HG.out.1) HG.out.1⟩⟩
   ·obtain rfl : j = l.length := by omega
    have hltz : ¬ (l.length : Int) < (l.length : Int) := by omega
    have hcl := fun ty => clear_tiles HRr.out i (by omega) (c - i) ty
    rw [hml] at hcl
    have hlow := HK.out.low
    rw [List.take_length] at hlow
    have HLW := aM hlow
    have hmi : (m.take i).length = i := by simp; omega
    have HMI := aM hmi
    clear hlow hmi
    go_wp2
    go_ret
    refine ⟨_, rfl, ?_, below_setCells HG.out.1 _ _ _ HBr.out⟩
    rw [← HLW.out]
    have := R_of_rowIs (base := base) (ok := ok) (rowIs_clear HRr.out i (by omega) (i * 2) (Nat.le_refl _) (clearZ (l.length - i))) HG.out.1 HG.out.2.1 HG.out.2.2.1
    rw [HMI.out] at this
    exact this

end

section
/-! ### slices_Delete_Tile: function 60: written by hand -/
theorem heap_setCells_mid {g : Nat} {e : TypeId} {fr : Nat × Nat} : ∀ (vs : List Value) (w : World) (o : Nat) (cur : Array Value), w.heap[g]? = some (.cells cur e fr) → o + vs.length ≤ cur.size → ∃ cur', (w.setCells g o vs).heap[g]? = some (.cells cur' e fr) ∧ cur'.size = cur.size ∧ (∀ j, j < o → cur'[j]? = cur[j]?) ∧ (∀ j, o + vs.length ≤ j → cur'[j]? = cur[j]?) ∧ ∀ j, j < vs.length → cur'[o + j]? = vs[j]?
 | [], w, o, cur, h, _ => ⟨cur, h, rfl, fun _ _ => rfl, fun _ _ => rfl, fun j hj => absurd hj (Nat.not_lt_zero _)⟩
 | v :: vs, w, o, cur, h, hl => by
  rw [List.length_cons] at hl
  obtain ⟨c, h1, h2, h3, h4, h5⟩ := heap_setCells_mid vs (w.setCell ⟨g, o, none⟩ v) (o + 1) _ (heap_setCell_at h) (by simp; omega)
  refine ⟨c, h1, by simpa using h2, fun j hj => by rw [h3 j (by omega), Array.getElem?_setIfInBounds_ne (by omega)], fun j hj => by rw [List.length_cons] at hj; rw [h4 j (by omega), Array.getElem?_setIfInBounds_ne (by omega)], fun j hj => ?_⟩
  cases j with
  | zero => rw [Nat.add_zero, h3 o (by omega), Array.getElem?_setIfInBounds_self_of_lt (by omega)]; rfl
  | succ j =>
   rw [List.length_cons] at hj
   rw [show o + (j + 1) = o + 1 + j by omega, h5 j (by omega)]; rfl
def encTs : List S39 → List Value
 | [] => []
 | x :: l => .int .i64 x.f0 :: .int .i64 x.f1 :: encTs l
theorem encTs_length : ∀ l, (encTs l).length = l.length * 2
 | [] => rfl
 | x :: l => by rw [encTs, List.length_cons, List.length_cons, encTs_length l, List.length_cons]; omega
theorem encTs_at : ∀ (l : List S39) (j : Nat) (x : S39), l[j]? = some x → (encTs l)[j * 2]? = some (.int .i64 x.f0) ∧ (encTs l)[j * 2 + 1]? = some (.int .i64 x.f1)
 | [], j, x, h => by simp at h
 | y :: l, 0, x, h => by
  obtain rfl : y = x := by simpa using h
  exact ⟨rfl, rfl⟩
 | y :: l, j + 1, x, h => by
  have := encTs_at l j x (by simpa using h)
  rw [encTs, show (j + 1) * 2 = j * 2 + 1 + 1 by omega, List.getElem?_cons_succ, List.getElem?_cons_succ, show j * 2 + 1 + 1 + 1 = (j * 2 + 1) + 1 + 1 by omega, List.getElem?_cons_succ, List.getElem?_cons_succ]
  exact this
theorem encTs_some (l : List S39) (t : Nat) (u : Value) (h : (encTs l)[t]? = some u) : ∃ j x, l[j]? = some x ∧ ((t = j * 2 ∧ u = .int .i64 x.f0) ∨ (t = j * 2 + 1 ∧ u = .int .i64 x.f1)) := by
 have ht := (List.getElem?_eq_some_iff.1 h).1
 rw [encTs_length] at ht
 obtain ⟨x, hx⟩ : ∃ x, l[t / 2]? = some x := ⟨_, List.getElem?_eq_getElem (by omega)⟩
 obtain ⟨a, b⟩ := encTs_at l (t / 2) x hx
 refine ⟨t / 2, x, hx, ?_⟩
 rcases Nat.mod_two_eq_zero_or_one t with c | c
 ·have e : t / 2 * 2 = t := by omega
  rw [e, h] at a
  exact .inl ⟨e.symm, Option.some.inj a⟩
 ·have e : t / 2 * 2 + 1 = t := by omega
  rw [e, h] at b
  exact .inr ⟨e.symm, Option.some.inj b⟩
theorem encTs_one (l : List S39) : ∀ u ∈ encTs l, u.oneCell' = true := by
 intro u hu
 obtain ⟨t, ht⟩ := List.getElem?_of_mem hu
 obtain ⟨j, x, _, ⟨_, rfl⟩ | ⟨_, rfl⟩⟩ := encTs_some l t u ht <;> rfl
theorem rowIs_moved {w : World} {g cap : Nat} {l : List S39} (h : rowIs w g cap l) (i : Nat) (hi : i < l.length) : ∃ m : List S39, m.length = l.length ∧ m.take (l.length - 1) = l.eraseIdx i ∧ rowIs (w.setCells g (i * 2) (encTs (l.drop (i + 1)))) g cap m := by
 obtain ⟨z, hz⟩ : ∃ z, l[l.length - 1]? = some z := ⟨_, List.getElem?_eq_getElem (by omega)⟩
 have hle : (l.eraseIdx i).length = l.length - 1 := by rw [List.length_eraseIdx, if_pos hi]
 refine ⟨l.eraseIdx i ++ [z], by rw [List.length_append, hle, List.length_singleton]; omega, by rw [← hle, List.take_left], ?_⟩
 obtain ⟨cur, h1, h2, h3, h4⟩ := h
 have hdl : (encTs (l.drop (i + 1))).length = (l.length - (i + 1)) * 2 := by rw [encTs_length, List.length_drop]
 obtain ⟨c1, k1, k2, k3, k4, k5⟩ := heap_setCells_mid (encTs (l.drop (i + 1))) w (i * 2) cur h1 (by rw [hdl]; omega)
 rw [hdl] at k4 k5
 refine ⟨c1, k1, by omega, by rw [List.length_append, hle, List.length_singleton]; omega, fun j x hx => ?_⟩
 by_cases c : j < l.length - 1
 ·rw [List.getElem?_append_left (by omega), List.getElem?_eraseIdx] at hx
  by_cases d : j < i
  ·rw [if_pos d] at hx
   rw [k3 _ (by omega), k3 _ (by omega)]
   exact h4 j x hx
  ·rw [if_neg d] at hx
   have hd : (l.drop (i + 1))[j - i]? = some x := by rw [List.getElem?_drop, show i + 1 + (j - i) = j + 1 by omega]; exact hx
   obtain ⟨a, b⟩ := encTs_at _ _ _ hd
   rw [← k5 _ (by omega)] at a b
   rw [show i * 2 + (j - i) * 2 = j * 2 by omega] at a
   rw [show i * 2 + ((j - i) * 2 + 1) = j * 2 + 1 by omega] at b
   exact ⟨a, b⟩
 ·have hj := (List.getElem?_eq_some_iff.1 hx).1
  rw [List.length_append, hle, List.length_singleton] at hj
  rw [List.getElem?_append_right (by omega), hle, show j - (l.length - 1) = 0 by omega] at hx
  obtain rfl : z = x := by simpa using hx
  have := h4 (l.length - 1) z hz
  rw [k4 _ (by omega), k4 _ (by omega), show j = l.length - 1 by omega]
  exact this
theorem grown_setCells {w0 : World} {g : Nat} : ∀ (vs : List Value) (w : World) (o : Nat), w0.grownBy w (some g) → w0.grownBy (w.setCells g o vs) (some g)
 | [], w, o, h => h
 | v :: vs, w, o, h => grown_setCells vs _ _ ⟨h.os, h.tape, h.output, by simpa [World.setCell] using h.size, fun k hk hne => by
   rw [Below.heap_setCell w ⟨g, o, none⟩ v k (by intro e; exact hne (by rw [e]))]
   exact h.block k hk hne⟩
set_option maxHeartbeats 4000000 in
set_option maxRecDepth 1000000 in
theorem slices_Delete_Tile.gcallsG (base : Nat) (ok : Nat → Prop) (v : Value) (l : List S39) (i : Nat) (w : World) (hbase : base ≤ w.heap.size) (ho : Kd.R k39 39 w base ok v l) (hi : i < l.length) :
  Calls Try.prog 60 #[v, .int .i64 (i : Int), .int .i64 ((i + 1 : Nat) : Int)] w fun e w' => ∃ v', e = .returned v' ∧ Kd.R k39 39 w' base ok v' (l.eraseIdx i) ∧ Below base w w' ∧ w.grownBy w' v.ownBlock := by
 rcases rowIs_of_R ho with ⟨_, rfl⟩ | ⟨g, cap, rfl, hg, hokg, hlc, hcap, hrow⟩
 ·exact absurd hi (Nat.not_lt_zero _)
 have hcap' : cap ≤ 9223372036854775807 := by simpa [maxLen] using hcap
 obtain ⟨i0, hi0, hz0, hz1, hz2⟩ := info_parts info39
 obtain ⟨m, hml, hmt, hrm⟩ := rowIs_moved (w := w.drew) (show rowIs w.drew g cap l from hrow) i hi
 obtain ⟨news, hnews⟩ : ∃ news, news = encTs (l.drop (i + 1)) := ⟨_, rfl⟩
 rw [← hnews] at hrm
 have hlen : news.length = (l.length - (i + 1)) * 2 := by rw [hnews, encTs_length, List.length_drop]
 obtain ⟨A, hA, hsrc⟩ : ∃ A : Addr, (if cap = i + 1 then (some ⟨g, 0, none⟩ : Option Addr) else some ⟨g, (i + 1) * 2, none⟩) = some A ∧ Hid (∀ t u, news[t]? = some u → w.drew.cell? (A.add t) = some u) := by
  by_cases h : cap = i + 1
  ·refine ⟨⟨g, 0, none⟩, by simp [h], fun t u hu => ?_⟩
   have h0 : news.length = 0 := by rw [hlen]; omega
   rw [List.length_eq_zero_iff.1 h0] at hu
   simp at hu
  ·refine ⟨⟨g, (i + 1) * 2, none⟩, by simp [h], fun t u hu => ?_⟩
   rw [hnews] at hu
   obtain ⟨j, x, hx, hu2⟩ := encTs_some _ t u hu
   rw [List.getElem?_drop] at hx
   obtain ⟨a, b, _, _⟩ := rowIs_at hrow (i + 1 + j) x hx
   show w.cell? ((⟨g, (i + 1) * 2, none⟩ : Addr).add t) = some u
   rw [Addr.add_lit]
   rcases hu2 with ⟨rfl, rfl⟩ | ⟨rfl, rfl⟩
   ·rw [show (i + 1) * 2 + j * 2 = (i + 1 + j) * 2 by omega]; exact a
   ·rw [show (i + 1) * 2 + (j * 2 + 1) = (i + 1 + j) * 2 + 1 by omega]; exact b
 have s1 : Hid (news.length = (l.length - (i + 1)) * 2) := hlen
 have s2 : Hid (∀ u ∈ news, u.oneCell' = true) := by rw [hnews]; exact encTs_one _
 have s3 : Hid (∀ t, t < news.length → (w.drew.cell? ⟨g, 0 + i * 2 + t, none⟩).isSome = true ∧ w.drew.frozen? ⟨g, 0 + i * 2 + t, none⟩ = false) := by
  intro t ht
  rw [hlen] at ht
  obtain ⟨cur, h1, h2, h3, h4⟩ := hrow
  have h1' : w.drew.heap[g]? = some (.cells cur 39 (0, 0)) := h1
  refine ⟨?_, by simp [World.frozen?, h1']⟩
  simp only [World.cell?, h1']
  simp only [Option.isSome_none, Bool.false_eq_true, if_false]
  rw [Array.getElem?_eq_getElem (by omega)]; rfl
 obtain ⟨W1, hW1⟩ : ∃ W1, W1 = w.drew.setCells g (i * 2) news := ⟨_, rfl⟩
 rw [← hW1] at hrm
 have hcl := fun ty => clear_tiles hrm (i + (l.length - (i + 1))) (by omega) (cap - (i + (l.length - (i + 1)))) ty
 rw [hml] at hcl
 have HM := aM (And.intro hml (And.intro hmt hrm))
 have HG := aM (show base ≤ g ∧ ok g ∧ cap ≤ maxLen from ⟨hg, hokg, hcap⟩)
 have hW : Hid (W1 = w.drew.setCells g (0 + i * 2) news) := by rw [Nat.zero_add]; exact hW1
 have HW := aM hW1
 have hic : i ≤ cap := by omega
 have hjc : i + 1 ≤ cap := by omega
 have hne : ¬ ((i : Int) = ((i + 1 : Nat) : Int)) := by omega
 have hq1 : 0 ≤ (i : Int) + 1 := by omega
 have hq2 : (i : Int) + 1 ≤ (l.length : Int) := by omega
 clear hW1 hrow hrm hml hmt hlen hnews hg hokg hcap
 go_enter Try.func60, Try.ntmps60
 go_wp2_with fail
 go_region_law (refine step_append_room rfl (.tmp 22) (.tmp 25) 26 rfl 39 i0 2 Try.underlying26 hi0 hz1 g 0 i cap (by simp [Act.eval, Act.put]) A (l.length - (i + 1)) (cap - (i + 1)) news (by simp [Act.eval, Act.put]) s1.out hsrc.out s2.out (by omega) s3.out ?_; rw [← hW.out])
 go_wp2
 go_ret
 have hq : i + (l.length - (i + 1)) = l.length - 1 := by omega
 have hml := HM.out.1
 have hR := R_of_rowIs (base := base) (ok := ok) (rowIs_clear HM.out.2.2 (l.length - 1) (by omega) ((l.length - 1) * 2) (Nat.le_refl _) (clearZ (l.length - (l.length - 1)))) HG.out.1 HG.out.2.1 HG.out.2.2
 have hel : (l.eraseIdx i).length = l.length - 1 := by rw [List.length_eraseIdx, if_pos hi]
 rw [HM.out.2.1, hel] at hR
 refine ⟨_, rfl, by rw [hq]; exact hR, below_setCells HG.out.1 _ _ _ ?_, grown_setCells _ _ _ ?_⟩
 ·rw [HW.out]
  exact below_setCells HG.out.1 _ _ _ (bD ((Below.refl w.heap.size w).mono hbase))
 ·rw [HW.out]
  exact grown_setCells _ _ _ ⟨rfl, rfl, rfl, Nat.le_refl _, fun _ _ _ => rfl⟩
theorem slices_Delete_Tile.gcalls (base : Nat) (ok : Nat → Prop) (v : Value) (l : List S39) (i : Nat) (w : World) (hbase : base ≤ w.heap.size) (ho : Kd.R k39 39 w base ok v l) (hi : i < l.length) :
  Calls Try.prog 60 #[v, .int .i64 (i : Int), .int .i64 ((i + 1 : Nat) : Int)] w fun e w' => ∃ v', e = .returned v' ∧ Kd.R k39 39 w' base ok v' (l.eraseIdx i) ∧ Below base w w' :=
 (slices_Delete_Tile.gcallsG base ok v l i w hbase ho hi).mono fun e w' ⟨v', h1, h2, h3, _⟩ => ⟨v', h1, h2, h3⟩
/-! ### a statement whose order is drawn: a chain's copy grown by a number, a hand's copy without a tile -/
structure RS (W0 : World) (chain : List Int) (left dl : List S39) (o : Int) (fc fl fa fx fd : Bool) (W : World) (vc vl va vx vd : Value) : Prop where
 B : Below W0.heap.size W0 W
 c : fc = true → Kd.R (Kd.int .i64) 3 W W0.heap.size (fun k => fl = true → some k ≠ vl.ownBlock) vc chain
 l : fl = true → Kd.R (Kd.int .i64) 3 W W0.heap.size (fun k => fc = true → some k ≠ vc.ownBlock) vl [o]
 a : fa = true → Kd.R (Kd.int .i64) 3 W W0.heap.size (fun _ => True) va (chain ++ [o])
 x : fx = true → Kd.R k39 39 W W0.heap.size (fun _ => True) vx left
 d : fd = true → Kd.R k39 39 W W0.heap.size (fun _ => True) vd dl
section
variable {W0 W W' : World} {chain : List Int} {left dl : List S39} {o : Int} {fc fl fa fx fd : Bool} {vc vl va vx vd v : Value}
theorem RS.start (h : Below W0.heap.size W0 W) : RS W0 chain left dl o false false false false false W vc vl va vx vd := ⟨h, (fun h => by cases h), (fun h => by cases h), (fun h => by cases h), (fun h => by cases h), (fun h => by cases h)⟩
theorem RS.below (h : RS W0 chain left dl o fc fl fa fx fd W vc vl va vx vd) (hb : Below W.heap.size W W') : RS W0 chain left dl o fc fl fa fx fd W' vc vl va vx vd :=
 ⟨below_then h.B h.B.size hb, fun e => Kd.R_below (h.c e) hb, fun e => Kd.R_below (h.l e) hb, fun e => Kd.R_below (h.a e) hb, fun e => Kd.R_below (h.x e) hb, fun e => Kd.R_below (h.d e) hb⟩
theorem RS.clone_c (h : RS W0 chain left dl o false fl fa fx fd W vc vl va vx vd) (ho : Kd.R (Kd.int .i64) 3 W' W.heap.size (fun _ => True) v chain) (hb : Below W.heap.size W W') : RS W0 chain left dl o true fl fa fx fd W' v vl va vx vd :=
 ⟨below_then h.B h.B.size hb, fun _ => Kd.R_lower (Kd.R_mono (Kd.R_bound ho) fun k hk hf e => by have h1 := Kd.R_lt (h.l hf) k e.symm; have h2 := hk.2.1; omega) h.B.size, fun e => Kd.R_below (Kd.R_mono (Kd.R_bound (h.l e)) fun k hk _ e2 => by have h1 := Kd.R_base ho k e2.symm; have h2 := hk.2.2.1; omega) hb, fun e => Kd.R_below (h.a e) hb, fun e => Kd.R_below (h.x e) hb, fun e => Kd.R_below (h.d e) hb⟩
theorem RS.lit (h : RS W0 chain left dl o fc false fa fx fd W vc vl va vx vd) : RS W0 chain left dl o fc true fa fx fd (W.alloc (.cells #[.int .i64 o] 3)) vc (.slice (some ⟨W.heap.size, 0, none⟩) 1 1) va vx vd := by
 have hr : Kd.R (Kd.int .i64) 3 (W.alloc (.cells #[.int .i64 o] 3)) W0.heap.size (fun k => fc = true → some k ≠ vc.ownBlock) (.slice (some ⟨W.heap.size, 0, none⟩) 1 1) [o] := by
  have h1 : rowI (W.alloc (.cells #[.int .i64 o] 3)) W.heap.size 1 [o] := ⟨_, heap_alloc_new _ _, rfl, Nat.le_refl _, fun i y hy => by
   match i, hy with
   | 0, hy => cases hy; rfl⟩
  exact R_of_rowI h1 h.B.size (fun e e2 => by have := Kd.R_lt (h.c e) _ e2.symm; omega) (by simp [maxLen])
 refine ⟨h.B.alloc h.B.size _, fun e => rA (Kd.R_mono (Kd.R_bound (h.c e)) fun k hk _ e2 => ?_) _, fun _ => hr, fun e => rA (h.a e) _, fun e => rA (h.x e) _, fun e => rA (h.d e) _⟩
 have h2 := hk.2.2.1
 have h3 : k = W.heap.size := by simpa [Value.ownBlock] using e2
 omega
theorem RS.clone_x (h : RS W0 chain left dl o fc fl fa false fd W vc vl va vx vd) (ho : Kd.R k39 39 W' W.heap.size (fun _ => True) v left) (hb : Below W.heap.size W W') : RS W0 chain left dl o fc fl fa true fd W' vc vl va v vd :=
 ⟨below_then h.B h.B.size hb, fun e => Kd.R_below (h.c e) hb, fun e => Kd.R_below (h.l e) hb, fun e => Kd.R_below (h.a e) hb, fun _ => Kd.R_lower ho h.B.size, fun e => Kd.R_below (h.d e) hb⟩
theorem RS.del (h : RS W0 chain left dl o fc fl fa true false W vc vl va vx vd) (ho : Kd.R k39 39 W' W0.heap.size (fun _ => True) v dl) (hb : Below W0.heap.size W W') (hg : W.grownBy W' vx.ownBlock) : RS W0 chain left dl o fc fl fa false true W' vc vl va vx v :=
 ⟨h.B.trans hb, fun e => Kd.R_over' (h.c e) (Kd.R_typed (h.x rfl)) (by decide) hg, fun e => Kd.R_over' (h.l e) (Kd.R_typed (h.x rfl)) (by decide) hg, fun e => Kd.R_over' (h.a e) (Kd.R_typed (h.x rfl)) (by decide) hg, (fun e => by cases e), fun _ => ho⟩
theorem RS.app (h : RS W0 chain left dl o true true false fx fd W vc vl va vx vd) (ho : Kd.R (Kd.int .i64) 3 W' W0.heap.size (fun k => true = true → some k ≠ vl.ownBlock) v (chain ++ [o])) (hb : Below W0.heap.size W0 W') (hg : W.grownBy W' vc.ownBlock) : RS W0 chain left dl o false false true fx fd W' vc vl v vx vd :=
 ⟨hb, (fun e => by cases e), (fun e => by cases e), fun _ => Kd.R_mono ho fun _ _ => trivial, fun e => Kd.R_over' (h.x e) (Kd.R_typed (h.c rfl)) (by decide) hg, fun e => Kd.R_over' (h.d e) (Kd.R_typed (h.c rfl)) (by decide) hg⟩
end

end

end Go.Proofs.Ytnooegfhffhfpaa.P
