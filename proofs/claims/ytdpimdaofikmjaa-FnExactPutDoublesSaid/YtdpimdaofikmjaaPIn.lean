-- Printed by a program of this session (wip/myprint.py, which drives the kit's print): what one function of the program does, and the proof that its call does so.
import Derived.Ground.Names2Prog
import Derived.Lib.SliceRun
import Derived.Shelf.Lay
import Derived.Shelf.Spec.SlicesInsertGrow
import Derived.WalkSpells
import Derived.Test.YtdpimdaofikmjaaP0
namespace Go.Proofs.Ytdpimdaofikmjaa.P
open Go.RowKit Go.Proofs.YtdpimdaofikmjaaW.PrintWords Go.Proofs.YtdpimdaofikmjaaW.PrintLast Go.Proofs.YtdpimdaofikmjaaW.PrintMore
attribute [local go_sem] max2_int min2_int max_two min_two max_three min_three max_four min_four   -- for this text's walks alone
set_option linter.unusedVariables false
set_option linter.unusedSimpArgs false

section
/-! ### slices_Index_int: function 125 -/
def slices_Index_int.l0 : Nat → List Int → Int → Int → Int → Option (Int)
  | 0, _, _, _, _ => none
  | k + 1, x0, x1, x7, x8 => if x8 < x7 then (if 0 ≤ x8 then (if x8 < (x0.length : Int) then (if x1 = (rd x0 x8) then (some x8) else (slices_Index_int.l0 k x0 x1 x7 (wrap64 (x8 + 1)))) else (none)) else (none)) else (some (-1))
def slices_Index_int.f (k : Nat) (l0 : List Int) (a1 : Int) : Option (Int) := slices_Index_int.l0 k l0 a1 (l0.length : Int) 0
theorem slices_Index_int.mono_l : ∀ k, (∀ y0 y1 y2 y3, LeO (slices_Index_int.l0 k y0 y1 y2 y3) (slices_Index_int.l0 (k + 1) y0 y1 y2 y3))
  | 0 => fun _ _ _ _ r h => by simp [slices_Index_int.l0] at h
  | k + 1 => by
    have ih0 := slices_Index_int.mono_l k
    · intro y0 y1 y2 y3
      unfold slices_Index_int.l0
      repeat' first
      | (with_reducible exact ih0 _ _ _ _)
      | (with_reducible exact LeO.refl _)
      | (with_reducible exact LeO.none _)
      | (with_reducible refine LeO.ite ?_ ?_)
      | (with_reducible refine LeO.bind ?_ (fun _ => ?_))
      | exact ih0 _ _ _ _
      | exact LeO.none _
      | refine LeO.ite ?_ ?_
      | refine LeO.bind ?_ (fun _ => ?_)
theorem slices_Index_int.mono : ∀ a0 a1 k, LeO (slices_Index_int.f k a0 a1) (slices_Index_int.f (k + 1) a0 a1) := by
  intro a0 a1 k
  have ih0 := slices_Index_int.mono_l k
  unfold slices_Index_int.f
  repeat' first
      | (with_reducible exact ih0 _ _ _ _)
      | (with_reducible exact LeO.refl _)
      | (with_reducible exact LeO.none _)
      | (with_reducible refine LeO.ite ?_ ?_)
      | (with_reducible refine LeO.bind ?_ (fun _ => ?_))
      | exact ih0 _ _ _ _
      | exact LeO.none _
      | refine LeO.ite ?_ ?_
      | refine LeO.bind ?_ (fun _ => ?_)
set_option maxHeartbeats 8000000 in
set_option maxRecDepth 100000 in
theorem slices_Index_int.calls (k : Nat) (A0 : Option Addr) (c0 : Nat) (l0 : List Int) (a1 : Int) (r : Int) (w : World) (hr0 : Kd.C (Kd.int .i64) w A0 l0.length l0) (hc0 : l0.length ≤ c0) (h : slices_Index_int.f k l0 a1 = some r) :
    Calls Try.prog 125 #[.slice A0 l0.length c0, .int .i64 a1] w fun e w' => e = .returned (.int .i64 r) ∧ Drawn0 w w' := by
  have HR0 := Aside0.mk hr0
  have HC0 := Aside0.mk hc0
  clear hr0 hc0
  have H : (slices_Index_int.l0 k l0 a1 (l0.length : Int) 0) = some r := h
  clear h
  have H' := Aside0.mk H
  clear H
  go_enter Try.func125, Try.ntmps125
  go_wp2
  go_loopg [8] k (fun kq v8 w' => ∃ (x8_1 : Int), v8 = .int .i64 x8_1 ∧ Aside0 (slices_Index_int.l0 kq l0 a1 (l0.length : Int) x8_1 = some r) ∧ Aside0 (kq ≤ k) ∧ Drawn0 w w')
  case atStart => exact ⟨(0), (by first | rfl | (simp; done) | (simp [*]; done)), H', ⟨Nat.le_refl _⟩, by repeat (first | exact Drawn0.refl _ | apply Drawn0.step)⟩
  case round =>
    clear H'
    try clear c1
    try clear p2
    obtain ⟨x8_1, rfl, HA, HK1, ⟨m1, rfl⟩⟩ := hrel
    cases gk with
    | zero => exact absurd HA.out (by simp [slices_Index_int.l0])
    | succ k1 =>
      have H := HA.out
      clear HA
      simp only [slices_Index_int.l0] at H
      by_cases c3 : x8_1 < (l0.length : Int)
      · rw [if_pos c3] at H
        have c3b0 : decide (x8_1 < (l0.length : Int)) = true := decide_eq_true c3
        clear c3
        by_cases c4 : 0 ≤ x8_1
        · rw [if_pos c4] at H
          have c4b0 : decide (0 ≤ x8_1) = true := decide_eq_true c4
          clear c4
          by_cases c5 : x8_1 < (l0.length : Int)
          · rw [if_pos c5] at H
            have c5b0 : decide (x8_1 < (l0.length : Int)) = true := decide_eq_true c5
            clear c5
            by_cases c6 : a1 = (rd l0 x8_1)
            · rw [if_pos c6] at H
              have c6b0 : (a1 == (rd l0 x8_1)) = true := beq_iff_eq.mpr c6
              have c6b1 : (a1 != (rd l0 x8_1)) = false := bne_eq_false_iff_eq.mpr c6
              clear c6
              obtain rfl := Option.some.inj H
              have p362 : 0 ≤ (x8_1 : Int) := of_decide_eq_true (by first | (with_reducible assumption) | assumption)
              have q362 : x8_1 < (l0.length : Int) := of_decide_eq_true (by first | (with_reducible assumption) | assumption)
              obtain ⟨ad362, e362, hx362_0⟩ := Kd.at_int HR0.out x8_1 p362 q362
              cases e362
              replace p362 := eq_true p362
              replace q362 := eq_true q362
              go_wp2
              go_ret
              exact ⟨by first | rfl | (simp; done) | (simp [*]; done), by repeat (first | exact Drawn0.refl _ | apply Drawn0.step)⟩
            · rw [if_neg c6] at H
              have c6b0 : (a1 == (rd l0 x8_1)) = false := beq_eq_false_iff_ne.mpr c6
              have c6b1 : (a1 != (rd l0 x8_1)) = true := bne_iff_ne.mpr c6
              have H' := Aside0.mk H
              clear H
              have p362 : 0 ≤ (x8_1 : Int) := of_decide_eq_true (by first | (with_reducible assumption) | assumption)
              have q362 : x8_1 < (l0.length : Int) := of_decide_eq_true (by first | (with_reducible assumption) | assumption)
              obtain ⟨ad362, e362, hx362_0⟩ := Kd.at_int HR0.out x8_1 p362 q362
              cases e362
              replace p362 := eq_true p362
              replace q362 := eq_true q362
              go_wp2
              go_roundg k1
              case measure => have := HK1.out; omega
              case rel => exact ⟨(wrap64 (x8_1 + 1)), (by first | rfl | (simp; done) | (simp [*]; done)), H', ⟨by have := HK1.out; omega⟩, by repeat (first | exact Drawn0.refl _ | apply Drawn0.step)⟩
          · rw [if_neg c5] at H
            exact absurd H (by simp)
        · rw [if_neg c4] at H
          exact absurd H (by simp)
      · rw [if_neg c3] at H
        have c3b0 : decide (x8_1 < (l0.length : Int)) = false := decide_eq_false c3
        clear c3
        obtain rfl := Option.some.inj H
        go_wp2
        go_ret
        exact ⟨by first | rfl | (simp; done) | (simp [*]; done), by repeat (first | exact Drawn0.refl _ | apply Drawn0.step)⟩

end

section
/-! ### slices_Insert_int: function 126: written by hand -/
open Go.Shelf in
shelf_lay Lays2.n21 Nm2 21 at Try as Try.insertLays
theorem heap_setCells_in {g : Nat} {e : TypeId} {fr : Nat × Nat} : ∀ (vs : List Value) (w : World) (o : Nat) (cur : Array Value), w.heap[g]? = some (.cells cur e fr) → o + vs.length ≤ cur.size → ∃ cur', (w.setCells g o vs).heap[g]? = some (.cells cur' e fr) ∧ cur'.size = cur.size ∧ (∀ j, j < o → cur'[j]? = cur[j]?) ∧ (∀ j, o + vs.length ≤ j → cur'[j]? = cur[j]?) ∧ ∀ j, j < vs.length → cur'[o + j]? = vs[j]?
  | [], w, o, cur, h, _ => ⟨cur, h, rfl, fun _ _ => rfl, fun _ _ => rfl, fun j hj => absurd hj (Nat.not_lt_zero _)⟩
  | v :: vs, w, o, cur, h, hl => by
    rw [List.length_cons] at hl
    obtain ⟨c, h1, h2, h3, h4, h5⟩ := heap_setCells_in vs (w.setCell ⟨g, o, none⟩ v) (o + 1) _ (heap_setCell_at h) (by simp; omega)
    refine ⟨c, h1, by simpa using h2, fun j hj => by rw [h3 j (by omega), Array.getElem?_setIfInBounds_ne (by omega)], fun j hj => by rw [List.length_cons] at hj; rw [h4 j (by omega), Array.getElem?_setIfInBounds_ne (by omega)], fun j hj => ?_⟩
    cases j with
    | zero => rw [Nat.add_zero, h3 o (by omega), Array.getElem?_setIfInBounds_self_of_lt (by omega)]; rfl
    | succ j =>
      rw [List.length_cons] at hj
      rw [show o + (j + 1) = o + 1 + j by omega, h5 j (by omega)]; rfl
def encL (l : List Int) : List Value := l.map (Value.int .i64)
theorem encL_get {l : List Int} {j : Nat} {v : Value} (h : (encL l)[j]? = some v) : ∃ x, l[j]? = some x ∧ v = .int .i64 x := by
  unfold encL at h
  rw [List.getElem?_map] at h
  obtain ⟨x, hx, rfl⟩ := Option.map_eq_some_iff.1 h
  exact ⟨x, hx, rfl⟩
theorem encL_one (l : List Int) : ∀ v ∈ encL l, v.oneCell' = true := by
  intro v hv
  obtain ⟨x, _, rfl⟩ := List.mem_map.1 hv
  rfl
theorem ins_get (l : List Int) (n : Int) (i : Nat) (hi : i < l.length) : ∀ (j : Nat) (x : Int), (l.take i ++ n :: l.drop i)[j]? = some x → (j < i ∧ l[j]? = some x) ∨ (j = i ∧ x = n) ∨ (i < j ∧ (l.drop i)[j - (i + 1)]? = some x) := by
  intro j x h
  have hl : (l.take i).length = i := by simp; omega
  rcases Nat.lt_trichotomy j i with c | c | c
  · rw [List.getElem?_append_left (by omega), List.getElem?_take_of_lt c] at h
    exact .inl ⟨c, h⟩
  · rw [List.getElem?_append_right (by omega), hl, c, Nat.sub_self] at h
    exact .inr (.inl ⟨c, by simpa using h.symm⟩)
  · rw [List.getElem?_append_right (by omega), hl, show j - i = (j - (i + 1)) + 1 by omega, List.getElem?_cons_succ] at h
    exact .inr (.inr ⟨c, h⟩)
theorem ins_length (l : List Int) (n : Int) (i : Nat) (hi : i < l.length) : (l.take i ++ n :: l.drop i).length = l.length + 1 := by simp; omega
theorem grown_sets {w0 : World} {row : Option Nat} {g : Nat} (hg : some g = row ∨ w0.heap.size ≤ g) : ∀ (vs : List Value) (w : World) (o : Nat), w0.grownBy w row → w0.grownBy (w.setCells g o vs) row
  | [], w, o, h => h
  | v :: vs, w, o, h => grown_sets hg vs (w.setCell ⟨g, o, none⟩ v) (o + 1) ⟨h.os, h.tape, h.output, by simpa [World.setCell] using h.size, fun k hk hne => by
      rw [← h.block k hk hne]
      simp only [World.setCell, Array.getElem?_modify]
      rw [if_neg]
      rintro rfl
      rcases hg with e | e
      · exact hne e
      · omega⟩
theorem grown_drew {w0 w : World} {row : Option Nat} (h : w0.grownBy w row) : w0.grownBy w.drew row := ⟨h.os, h.tape, h.output, h.size, h.block⟩
theorem grown_self (w : World) (row : Option Nat) : w.grownBy w row := ⟨rfl, rfl, rfl, Nat.le_refl _, fun _ _ _ => rfl⟩
set_option maxHeartbeats 4000000 in
theorem slices_Insert_int.gcalls (base : Nat) (ok : Nat → Prop) (v : Value) (l : List Int) (n : Int) (i vb : Nat) (w : World) (hbase : base ≤ w.heap.size) (hok : ∀ k, w.heap.size ≤ k → ok k) (ho : Kd.R (Kd.int .i64) 3 w base ok v l) (hi : i < l.length) (hl : l.length < 1000000000)
    (hvb : ∃ cur, w.heap[vb]? = some (.cells cur 3 (0, 0)) ∧ cur.size = 1 ∧ cur[0]? = some (Value.int .i64 n)) (hne : v.ownBlock ≠ some vb) :
    Calls Try.prog 126 #[v, .int .i64 i, .slice (some ⟨vb, 0, none⟩) 1 1] w fun e w' => ∃ v', e = .returned v' ∧ Kd.R (Kd.int .i64) 3 w' base ok v' (l.take i ++ n :: l.drop i) ∧ w.grownBy w' v.ownBlock := by
  obtain ⟨cv, hcv, hcs, hc0⟩ := hvb
  rcases rowI_of_R ho with ⟨_, rfl⟩ | ⟨g, cap, rfl, hg, hokg, hlc, hcap, hrow⟩
  · exact absurd hi (Nat.not_lt_zero _)
  have hgne : vb ≠ g := fun e => hne (by simp [Value.ownBlock, e])
  have hcap' : cap ≤ 9223372036854775807 := by simpa [maxLen] using hcap
  have hlen := ins_length l n i hi
  have hcl : (encL l).length = l.length := by simp [encL]
  have hcsl : ∀ j u, (encL l)[j]? = some u → w.cell? ⟨g, 0 + j, none⟩ = some u := by
    intro j u hu
    obtain ⟨x, hx, rfl⟩ := encL_get hu
    rw [Nat.zero_add]
    exact (rowI_at hrow j x hx).1
  have hvsl : ∀ j u, (encL [n])[j]? = some u → w.cell? ⟨vb, 0 + j, none⟩ = some u := by
    intro j u hu
    obtain ⟨x, hx, rfl⟩ := encL_get hu
    match j, hx with
    | 0, hx =>
      cases hx
      simp only [World.cell?, hcv, Nat.zero_add]
      simpa using hc0
  obtain ⟨cur, h1, h2, h3, h4⟩ := hrow
  have hdl : (encL (l.drop i)) = (encL l).drop i := by simp [encL]
  by_cases hroom : l.length + 1 ≤ cap
  · have hA := Any2.slices_Insert_int_shift Try.insertLays g 0 l.length cap i vb 0 1 1 (encL l) (encL [n]) w hi (by omega) hroom hcap' hgne hcl rfl hcsl (fun j hj => by
        simp only [World.cell?, h1, Nat.zero_add]
        simp only [Option.isSome_none, Bool.false_eq_true, if_false]
        rw [Array.getElem?_eq_getElem (by omega)]; rfl) (fun j hj => by simp [World.frozen?, h1]) hvsl (encL_one _) (encL_one _) 3 3 1 cap (by simp [World.shape?, hcv, hcs]) (by simp [World.shape?, h1, h2]) (by omega) (by simp [World.frozen?, hcv]) (by simp [World.frozen?, hcv])
    refine hA.mono ?_
    rintro e w' ⟨rfl, rfl⟩
    refine ⟨_, rfl, ?_, ?_⟩
    · rw [← hlen]
      refine R_of_rowI ?_ hg hokg hcap
      have hd : w.drew.heap[g]? = some (.cells cur 3 (0, 0)) := h1
      obtain ⟨c1, k1, k2, k3, k4, k5⟩ := heap_setCells_in ((encL l).drop i) w.drew (0 + (i + 1)) cur hd (by rw [List.length_drop, hcl]; omega)
      obtain ⟨c2, m1, m2, m3, m4, m5⟩ := heap_setCells_in (encL [n]) _ (0 + i) c1 k1 (by show 0 + i + 1 ≤ _; omega)
      refine ⟨c2, m1, by omega, by omega, fun j x hj => ?_⟩
      have hj' := ins_get l n i hi j x hj
      rcases hj' with ⟨c, hx⟩ | ⟨rfl, rfl⟩ | ⟨c, hx⟩
      · rw [m3 j (by omega), k3 j (by omega)]; exact h4 j x hx
      · have := m5 0 (by show 0 < 1; omega)
        rw [Nat.add_zero, Nat.zero_add] at this
        rw [this]; rfl
      · have hjl := (List.getElem?_eq_some_iff.1 hx).1
        rw [List.length_drop] at hjl
        rw [m4 j (by show 0 + i + 1 ≤ j; omega)]
        have := k5 (j - (i + 1)) (by rw [List.length_drop, hcl]; omega)
        rw [show 0 + (i + 1) + (j - (i + 1)) = j by omega] at this
        rw [this, ← hdl, encL, List.getElem?_map, hx]; rfl
    · exact grown_sets (.inl rfl) _ _ _ (grown_sets (.inl rfl) _ _ _ (grown_drew (grown_self _ _)))
  · have hA := Any2.slices_Insert_int_grow Try.insertLays g 0 l.length cap i vb 0 1 1 (encL l) (encL [n]) w hi (by omega) hlc (by omega) (by omega) hcl rfl hcsl hvsl (encL_one _) (encL_one _)
    refine hA.mono ?_
    have ht : Try.insertLays_ren.t 3 = 3 := rfl
    rintro e w' ⟨he, hw⟩
    rw [ht] at he hw
    subst he hw
    have hge := grownCap_ge w (l.length + 1) cap 3
    have hgm := grownCap_le_maxLen w (l.length + 1) cap 3 (by simp only [maxLen]; omega)
    refine ⟨_, rfl, ?_, ?_⟩
    · rw [← hlen]
      refine R_of_rowI ?_ hbase (hok _ (Nat.le_refl _)) (by rw [hlen]; exact hgm)
      rw [hlen]
      generalize hcap2 : grownCap w (l.length + 1) cap 3 = cap2 at hge hgm
      have hz1 : ∀ m, (Builtin.zeroCells (Value.int .i64 0).cells m).size = m := fun m => by simp [Builtin.zeroCells, Value.cells]
      obtain ⟨cur0, hcur0⟩ : ∃ cur0, cur0 = ((encL l).take i).toArray ++ Builtin.zeroCells (Value.int .i64 0).cells (l.length + 1 - i) ++ Builtin.zeroCells (Value.int .i64 0).cells (cap2 - (l.length + 1)) := ⟨_, rfl⟩
      have hsz : cur0.size = cap2 := by
        rw [hcur0, Array.size_append, Array.size_append, hz1, hz1]
        simp [encL]; omega
      have hlow : ∀ j x, j < i → l[j]? = some x → cur0[j]? = some (Value.int .i64 x) := by
        intro j x hj hx
        have hjl := (List.getElem?_eq_some_iff.1 hx).1
        rw [hcur0, Array.append_assoc, Array.getElem?_append_left (by simp [encL]; omega)]
        simp [encL, List.getElem?_take_of_lt hj, hx]
      have hd : ((w.alloc (.cells cur0 3)).drew).heap[w.heap.size]? = some (.cells cur0 3 (0, 0)) := heap_alloc_new w _
      obtain ⟨c1, k1, k2, k3, k4, k5⟩ := heap_setCells_in (encL [n]) _ i cur0 hd (by show i + 1 ≤ _; omega)
      obtain ⟨c2, m1, m2, m3, m4, m5⟩ := heap_setCells_in ((encL l).drop i) ((((w.alloc (.cells cur0 3)).drew).setCells w.heap.size i (encL [n])).drew) (i + 1) c1 k1 (by rw [List.length_drop, hcl]; omega)
      rw [hcur0] at m1
      refine ⟨c2, m1, by omega, by omega, fun j x hj => ?_⟩
      rcases ins_get l n i hi j x hj with ⟨c, hx⟩ | ⟨rfl, rfl⟩ | ⟨c, hx⟩
      · rw [m3 j (by omega), k3 j (by omega)]; exact hlow j x c hx
      · rw [m3 j (by omega)]
        have := k5 0 (by show 0 < 1; omega)
        rw [Nat.add_zero] at this
        rw [this]; rfl
      · have hjl := (List.getElem?_eq_some_iff.1 hx).1
        rw [List.length_drop] at hjl
        have := m5 (j - (i + 1)) (by rw [List.length_drop, hcl]; omega)
        rw [show i + 1 + (j - (i + 1)) = j by omega] at this
        rw [this, ← hdl, encL, List.getElem?_map, hx]; rfl
    · exact grown_sets (.inr (Nat.le_refl _)) _ _ _ (grown_drew (grown_sets (.inr (Nat.le_refl _)) _ _ _ (grown_drew (World.grownBy_alloc _ _ _))))

end

end Go.Proofs.Ytdpimdaofikmjaa.P
