-- Printed by a program of this session (wip/myprint.py, which drives the kit's print): what one function of the program does, and the proof that its call does so.
import Derived.Lib.SliceRun
import Derived.WalkSpells
import Derived.Test.YtdpimdaofikmjaaP0
import Derived.Test.YtdpimdaofikmjaaPIg
namespace Go.Proofs.Ytdpimdaofikmjaa.P
open Go.RowKit Go.Proofs.YtdpimdaofikmjaaW.PrintWords Go.Proofs.YtdpimdaofikmjaaW.PrintLast Go.Proofs.YtdpimdaofikmjaaW.PrintMore
attribute [local go_sem] max2_int min2_int max_two min_two max_three min_three max_four min_four   -- for this text's walks alone
set_option linter.unusedVariables false
set_option linter.unusedSimpArgs false

section
/-! ### slices_Compact_Tile: function 98: written by hand -/
theorem eqTT (d : Nat) (w : World) (x0 y0 : Int) (x1 y1 : Int) :
    (Op.equalIn (d + 2) 67 (.agg #[.int .i64 x0, .int .i64 x1]) (.agg #[.int .i64 y0, .int .i64 y1])).run Try.prog w = .ok (x0 == y0 && (x1 == y1)) w := by
  refine eqA_of Try.underlying67 (by kernel_rfl) ?_
  refine eqf_cons (by rfl) (by go_simp; rfl) (by go_simp; rfl) (by go_simp) ?_
  exact eqf_last (by rfl) (by go_simp; rfl) (by go_simp; rfl) (by go_simp)
theorem rowIs_drawn {w w' : World} {g cap : Nat} {m : List S67} (h : rowIs w g cap m) (hd : Drawn0 w w') : rowIs w' g cap m := rowIs_below h hd.below
theorem eqT_false {x y : S67} (h : x ≠ y) : (x.f0 == y.f0 && (x.f1 == y.f1)) = false ∧ (!(x.f0 == y.f0) || (!(x.f1 == y.f1))) = true := by
  have : ¬ (x.f0 = y.f0 ∧ x.f1 = y.f1) := fun c => h ((tile_ext x y).2 c)
  by_cases c : x.f0 = y.f0
  · have c2 : ¬ x.f1 = y.f1 := fun d => this ⟨c, d⟩
    simp [c, c2]
  · simp [c]
attribute [local go_sem high] eqTT
set_option maxHeartbeats 4000000 in
set_option maxRecDepth 100000 in
theorem slices_Compact_Tile.gcalls (base : Nat) (ok : Nat → Prop) (v : Value) (l : List S67) (w : World)
    (hbase : base ≤ w.heap.size) (ho : Kd.R k67 67 w base ok v l) :
    Calls Try.prog 98 #[v] w fun e w' => ∃ v', e = .returned v' ∧ Kd.R k67 67 w' base ok v' (compL l) ∧ Below base w w' := by
  obtain ⟨A, c, rfl, hlc, hC⟩ := Kd.R_reads ho
  have hbig : l.length ≤ 9223372036854775807 := hC.2.1
  by_cases h2 : l.length < 2
  · have hs : compL l = l := CompI.whole fun t h0 h1 h => by omega
    rw [hs]
    have HO := Aside0.mk ho
    have h2z : ((l.length : Int) < 2) := by omega
    clear ho hC hs
    go_enter Try.func98, Try.ntmps98
    go_wp2
    go_ret
    exact ⟨_, rfl, HO.out, Below.refl _ _⟩
  · have h2z : ¬ ((l.length : Int) < 2) := by omega
    rcases rowIs_of_R ho with ⟨_, rfl⟩ | ⟨gb, cap, hv, hgb, hokg, hlcap, hcap, hrow⟩
    · exact absurd (by decide : ([] : List S67).length < 2) h2
    injection hv with e1 e2 e3
    subst e1 e3
    have HR := Aside0.mk hrow
    have HO := Aside0.mk ho
    have HG := Aside0.mk (show base ≤ gb ∧ ok gb ∧ c ≤ maxLen ∧ base ≤ w.heap.size from ⟨hgb, hokg, hcap, hbase⟩)
    clear ho hC hrow hgb hokg hcap hbase
    go_enter Try.func98, Try.ntmps98
    go_wp2
    go_loopg [3] l.length (fun g s3 wr => ∃ k : Nat, 1 ≤ k ∧ k ≤ l.length ∧ l.length - k ≤ g ∧ s3 = .int .i64 k ∧ Aside0 (Below w.heap.size w wr) ∧ Aside0 (∀ t, 0 < t → t < k → ∀ (h : t < l.length), l[t] ≠ l[t - 1]))
    case atStart => exact ⟨1, Nat.le_refl _, by omega, by omega, rfl, ⟨Below.refl _ _⟩, ⟨fun t h0 h1 => by omega⟩⟩
    case round =>
      obtain ⟨k, hk1, hk, hg, rfl, HB, HA⟩ := hrel
      by_cases hlt : k < l.length
      · have hltz : (k : Int) < (l.length : Int) := by omega
        obtain ⟨x, hx⟩ : ∃ x, l[k]? = some x := ⟨_, List.getElem?_eq_getElem hlt⟩
        obtain ⟨y, hy⟩ : ∃ y, l[k - 1]? = some y := ⟨_, List.getElem?_eq_getElem (by omega)⟩
        have HRB := Aside0.mk (rowIs_below HR.out HB.out)
        obtain ⟨c10, c11, f10, f11⟩ := rowIs_at HRB.out k x hx
        obtain ⟨c00, c01, f00, f01⟩ := rowIs_at HRB.out (k - 1) y hy
        have HX := Aside0.mk (show l[k] = x ∧ l[k - 1]'(by omega) = y from ⟨by rw [List.getElem?_eq_getElem hlt] at hx; exact Option.some.inj hx, by rw [List.getElem?_eq_getElem (by omega)] at hy; exact Option.some.inj hy⟩)
        clear hx hy
        by_cases hdup : x = y
        · subst hdup
          go_wp2
          repeat (go_quiet (fail); try go_wp2)
          clear c00 c01 f00 f01 c10 c11 f10 f11
          go_loopg [3, 5] l.length (fun g s3 s5 wr' => ∃ (kk k2 : Nat) (m : List S67), s3 = .int .i64 kk ∧ s5 = .int .i64 k2 ∧ 1 ≤ k2 ∧ k + k2 ≤ l.length ∧ l.length - (k + k2) ≤ g ∧ Aside0 (CompI l (k + k2) kk m) ∧ Aside0 (rowIs wr' gb c m) ∧ Aside0 (Below base w wr'))
          case atStart => exact ⟨k, 1, l, rfl, rfl, Nat.le_refl _, by omega, by omega, ⟨CompI.start (by omega) hlt (HX.out.1.trans HX.out.2.symm) HA.out⟩, ⟨rowIs_drawn HRB.out (by repeat (first | exact Drawn0.refl _ | apply Drawn0.step))⟩, ⟨below_drawn (HB.out.mono HG.out.2.2.2) (Nat.le_trans HG.out.2.2.2 HB.out.size) (by repeat (first | exact Drawn0.refl _ | apply Drawn0.step))⟩⟩
          case round =>
            obtain ⟨kk, k2, m, rfl, rfl, h1, hle, hg2, HI, HR2, HB2⟩ := hrel
            have hkk := HI.out.lt
            have hml := HI.out.len
            have HBS := Aside0.mk (show base ≤ wr.heap.size from Nat.le_trans HG.out.2.2.2 HB2.out.size)
            by_cases hlt2 : k + k2 < l.length
            · obtain ⟨u, hu⟩ : ∃ u, l[k + k2]? = some u := ⟨_, List.getElem?_eq_getElem hlt2⟩
              obtain ⟨u0, hu0⟩ : ∃ u0, l[k + k2 - 1]? = some u0 := ⟨_, List.getElem?_eq_getElem (by omega)⟩
              obtain ⟨old, hold⟩ : ∃ old, m[kk]? = some old := ⟨_, List.getElem?_eq_getElem (by omega)⟩
              obtain ⟨cm0, cm1, _, _⟩ := rowIs_at HR2.out (k + k2) u (by rw [HI.out.high _ (by omega)]; exact hu)
              obtain ⟨cp0, cp1, _, _⟩ := rowIs_at HR2.out (k + k2 - 1) u0 (by rw [HI.out.high _ (by omega)]; exact hu0)
              obtain ⟨ck0, ck1, fk0, fk1⟩ := rowIs_at HR2.out kk old hold
              rw [show (k + k2 - 1) * 2 = k * 2 + (k2 - 1) * 2 by omega] at cp0 cp1
              rw [show (k + k2) * 2 = k * 2 + k2 * 2 by omega] at cm0 cm1
              have hkm : kk < m.length := by omega
              have HU := Aside0.mk (show l[k + k2] = u ∧ l[k + k2 - 1]'(by omega) = u0 from ⟨by rw [List.getElem?_eq_getElem hlt2] at hu; exact Option.some.inj hu, by rw [List.getElem?_eq_getElem (by omega)] at hu0; exact Option.some.inj hu0⟩)
              clear hu hu0 hold
              by_cases huv : u = u0
              · subst huv
                go_wp2
                repeat (go_quiet (fail); try go_wp2)
                go_roundg (l.length - (k + (k2 + 1)))
                case measure => omega
                case rel => exact ⟨kk, k2 + 1, m, rfl, by go_num, by omega, by omega, Nat.le_refl _, ⟨HI.out.skip hlt2 (HU.out.1.trans HU.out.2.symm)⟩, ⟨rowIs_drawn HR2.out (by repeat (first | exact Drawn0.refl _ | apply Drawn0.step))⟩, ⟨below_drawn HB2.out HBS.out (by repeat (first | exact Drawn0.refl _ | apply Drawn0.step))⟩⟩
              · obtain ⟨q1, q2⟩ := eqT_false huv
                go_wp2
                repeat (go_quiet (fail); try go_wp2)
                go_roundg (l.length - (k + (k2 + 1)))
                case measure => omega
                case rel => exact ⟨kk + 1, k2 + 1, m.set kk u, by go_num, by go_num, by omega, by omega, Nat.le_refl _, ⟨by have := HI.out.keep hlt2 (by rw [HU.out.1, HU.out.2]; exact huv); rwa [HU.out.1] at this⟩, ⟨by first | exact rowIs_set (rowIs_drawn HR2.out (by repeat (first | exact Drawn0.refl _ | apply Drawn0.step))) kk u hkm | exact rowIs_drawn (rowIs_set HR2.out kk u hkm) (by repeat (first | exact Drawn0.refl _ | apply Drawn0.step))⟩, ⟨by first | exact below_row_set (below_row_set (below_drawn HB2.out HBS.out (by repeat (first | exact Drawn0.refl _ | apply Drawn0.step))) HG.out.1) HG.out.1 | exact below_drawn (below_row_set (below_row_set HB2.out HG.out.1) HG.out.1) (by simpa [World.setCell] using HBS.out) (by repeat (first | exact Drawn0.refl _ | apply Drawn0.step))⟩⟩
            · have hend : k + k2 = l.length := by omega
              have hcl := fun ty => clear_tiles HR2.out kk (by omega) (c - kk) ty
              rw [hml] at hcl
              have hlow := HI.out.low
              rw [hend, List.take_length] at hlow
              have HLW := Aside0.mk hlow
              have hmi : (m.take kk).length = kk := by simp; omega
              have HMI := Aside0.mk hmi
              clear hlow hmi
              go_wp2
              go_ret
              refine ⟨_, rfl, ?_, below_setCells HG.out.1 _ _ _ HB2.out⟩
              rw [← HLW.out]
              have := R_of_rowIs (base := base) (ok := ok) (rowIs_clear HR2.out kk (by omega) (kk * 2) (Nat.le_refl _) (clearZ (l.length - kk))) HG.out.1 HG.out.2.1 HG.out.2.2.1
              rw [HMI.out] at this
              exact this
        · obtain ⟨q1, q2⟩ := eqT_false hdup
          go_wp2
          repeat (go_quiet (fail); try go_wp2)
          go_roundg (l.length - (k + 1))
          case measure => omega
          case rel =>
            refine ⟨k + 1, by omega, by omega, Nat.le_refl _, by go_num, ⟨below_drawn HB.out HB.out.size (by repeat (first | exact Drawn0.refl _ | apply Drawn0.step))⟩, ⟨fun t h0 h1 h => ?_⟩⟩
            by_cases e : t = k
            · subst e
              rw [HX.out.1, HX.out.2]; exact hdup
            · exact HA.out t h0 (by omega) h
      · have : k = l.length := by omega
        subst this
        have hltz : ¬ (l.length : Int) < (l.length : Int) := by omega
        have HW := Aside0.mk (CompI.whole HA.out)
        go_wp2
        go_ret
        rw [HW.out]
        exact ⟨_, rfl, Kd.R_below HO.out HB.out, HB.out.mono HG.out.2.2.2⟩

end

section
/-! ### slices_Grow_Tile: function 151: written by hand -/
/-- Told for a nil slice alone: room is made, nothing is in it. -/
def slices_Grow_Tile.f (a1 : Int) : Option (List S67) := if 0 ≤ a1 then (if a1 < 8796093022208 then some [] else none) else none
theorem take_tiles0 (A : Option Addr) (c n : Nat) (hc : n ≤ c) (W : World) : (Instr.slice 26 (.slice A n c) none (some (.int .i64 0)) none).run Try.prog W = .ok (.slice A 0 c) W := by
  have hel : Try.prog.elem 26 = 67 := by simp [Program.elem, Try.underlying26]
  have hu : Try.prog.underlying 26 = some (.slice (Try.prog.elem 26)) := by rw [hel]; exact Try.underlying26
  have ha : (A.map fun x => x.add 0) = A := by cases A <;> simp [Addr.add]
  obtain ⟨i0, hi, hzz⟩ := Option.map_eq_some_iff.1 info67
  simp only [Prod.mk.injEq] at hzz
  rw [run_slice_h W 26 A n c hu .i64 0 (by omega) (by omega), hel]
  simp [sizeOf, typeInfo, hi, hzz.2.1, sliced, Result.andThen, ha]
set_option maxHeartbeats 8000000 in
set_option maxRecDepth 100000 in
theorem slices_Grow_Tile.calls (a1 : Int) (r : List S67) (w : World) (h : slices_Grow_Tile.f a1 = some r) :
    Calls Try.prog 151 #[.slice none 0 0, .int .i64 a1] w fun e w' => ∃ v0_ : Value, e = .returned (v0_) ∧ Kd.R k67 67 w' w.heap.size (fun _ => True) v0_ r ∧ Below w.heap.size w w' := by
  unfold slices_Grow_Tile.f at h
  by_cases h0 : 0 ≤ a1
  · rw [if_pos h0] at h
    by_cases h1 : a1 < 8796093022208
    · rw [if_pos h1] at h
      obtain rfl := Option.some.inj h
      clear h
      by_cases hz : a1 > 0
      · have d0 : decide (a1 < 0) = false := decide_eq_false (by omega)
        have d1 : decide (0 < a1) = true := decide_eq_true hz
        have HB := Aside0.mk (Below.refl w.heap.size w)
        obtain ⟨i0, hi, hzz⟩ := Option.map_eq_some_iff.1 info67
        simp only [Prod.mk.injEq] at hzz
        have HS := Aside0.mk hzz.2.1
        have HI := Aside0.mk hi
        clear hi hzz
        go_enter Try.func151, Try.ntmps151
        go_wp2_with ((with_reducible refine gate_builtin (b := .append) (xs := #[.tmp 20, .tmp 21]) rfl ?_); at_builtin; refine Kd.R_append_zeros k67 (w0 := w) w.heap.size rfl (.tmp 20) (.tmp 21) 26 3 67 (.agg #[.int .i64 0, .int .i64 0]) 16 rfl Try.underlying26 (k := .i64) Try.underlying3 info67 rfl (by decide) (by omega) (.slice none 0 0) ([] : List S67) z67 (kx := .i64) a1 (fun _ => True) rfl rfl (k67_mkM _ _ _ z67) (fun _ _ => trivial) (Kd.R_nil _ _ _ _ _) h0 (Below.refl _ _) (Nat.le_refl _) (by simp; omega) ?_; intro v1 w1 ho hb hg hat; clear hg hat; obtain ⟨A', c', rfl, hcl, -⟩ := Kd.R_reads ho; have HT := take_tiles0 A' c' ([] ++ List.replicate a1.toNat z67).length hcl; simp only [List.nil_append, List.length_replicate, Int.toNat_zero, List.take_zero, List.length_nil] at HT ho; have HO := Aside0.mk (Kd.R_take ho (m := 0) (by omega)); have HB' := Aside0.mk hb; clear ho hb hcl)
        go_ret
        exact ⟨_, rfl, HO.out, HB'.out⟩
      · obtain rfl : a1 = 0 := by omega
        go_enter Try.func151, Try.ntmps151
        go_wp2
        go_ret
        exact ⟨_, rfl, Kd.R_nil _ _ _ _ _, Below.refl _ _⟩
    · rw [if_neg h1] at h
      exact absurd h (by simp)
  · rw [if_neg h0] at h
    exact absurd h (by simp)

end

section
/-! ### slices_Concat_Tile: function 99 -/
mutual
def slices_Concat_Tile.l0 : Nat → List (List (S67)) → Int → List (List (S67)) → Int → Int → Option ((List (S67)))
  | 0, _, _, _, _, _ => none
  | k + 1, x0, x3, x9, x10, x11 => if x11 < x10 then (if 0 ≤ x11 then (if x11 < (x9.length : Int) then (if (wrap64 (x3 + ((rd_L3 x9 x11).length : Int))) < 0 then (none) else (slices_Concat_Tile.l0 k x0 (wrap64 (x3 + ((rd_L3 x9 x11).length : Int))) x9 x10 (wrap64 (x11 + 1)))) else (none)) else (none)) else ((slices_Grow_Tile.f x3).bind fun t736 => (slices_Concat_Tile.l1 k t736 x0 (x0.length : Int) 0))
def slices_Concat_Tile.l1 : Nat → List (S67) → List (List (S67)) → Int → Int → Option ((List (S67)))
  | 0, _, _, _, _ => none
  | k + 1, x6, x25, x26, x27 => if x27 < x26 then (if 0 ≤ x27 then (if x27 < (x25.length : Int) then (if x6.length + (rd_L3 x25 x27).length < 8796093022208 then (slices_Concat_Tile.l1 k (x6 ++ (rd_L3 x25 x27)) x25 x26 (wrap64 (x27 + 1))) else (none)) else (none)) else (none)) else (some x6)
end
def slices_Concat_Tile.f (k : Nat) (l0 : List (List (S67))) : Option ((List (S67))) := slices_Concat_Tile.l0 k l0 0 l0 (l0.length : Int) 0
theorem slices_Concat_Tile.mono_l : ∀ k, (∀ y0 y1 y2 y3 y4, LeO (slices_Concat_Tile.l0 k y0 y1 y2 y3 y4) (slices_Concat_Tile.l0 (k + 1) y0 y1 y2 y3 y4)) ∧ (∀ y0 y1 y2 y3, LeO (slices_Concat_Tile.l1 k y0 y1 y2 y3) (slices_Concat_Tile.l1 (k + 1) y0 y1 y2 y3))
  | 0 => ⟨fun _ _ _ _ _ r h => by simp [slices_Concat_Tile.l0] at h, fun _ _ _ _ r h => by simp [slices_Concat_Tile.l1] at h⟩
  | k + 1 => by
    obtain ⟨ih0, ih1⟩ := slices_Concat_Tile.mono_l k
    refine ⟨?_, ?_⟩
    · intro y0 y1 y2 y3 y4
      unfold slices_Concat_Tile.l0
      repeat' first
      | (with_reducible exact ih0 _ _ _ _ _)
      | (with_reducible exact ih1 _ _ _ _)
      | (with_reducible exact LeO.refl _)
      | (with_reducible exact LeO.none _)
      | (with_reducible refine LeO.ite ?_ ?_)
      | (with_reducible refine LeO.bind ?_ (fun _ => ?_))
      | exact ih0 _ _ _ _ _
      | exact ih1 _ _ _ _
      | exact LeO.none _
      | refine LeO.ite ?_ ?_
      | refine LeO.bind ?_ (fun _ => ?_)
    · intro y0 y1 y2 y3
      unfold slices_Concat_Tile.l1
      repeat' first
      | (with_reducible exact ih0 _ _ _ _ _)
      | (with_reducible exact ih1 _ _ _ _)
      | (with_reducible exact LeO.refl _)
      | (with_reducible exact LeO.none _)
      | (with_reducible refine LeO.ite ?_ ?_)
      | (with_reducible refine LeO.bind ?_ (fun _ => ?_))
      | exact ih0 _ _ _ _ _
      | exact ih1 _ _ _ _
      | exact LeO.none _
      | refine LeO.ite ?_ ?_
      | refine LeO.bind ?_ (fun _ => ?_)
theorem slices_Concat_Tile.mono : ∀ a0 k, LeO (slices_Concat_Tile.f k a0) (slices_Concat_Tile.f (k + 1) a0) := by
  intro a0 k
  obtain ⟨ih0, ih1⟩ := slices_Concat_Tile.mono_l k
  unfold slices_Concat_Tile.f
  repeat' first
      | (with_reducible exact ih0 _ _ _ _ _)
      | (with_reducible exact ih1 _ _ _ _)
      | (with_reducible exact LeO.refl _)
      | (with_reducible exact LeO.none _)
      | (with_reducible refine LeO.ite ?_ ?_)
      | (with_reducible refine LeO.bind ?_ (fun _ => ?_))
      | exact ih0 _ _ _ _ _
      | exact ih1 _ _ _ _
      | exact LeO.none _
      | refine LeO.ite ?_ ?_
      | refine LeO.bind ?_ (fun _ => ?_)
set_option maxHeartbeats 8000000 in
set_option maxRecDepth 100000 in
theorem slices_Concat_Tile.calls (k : Nat) (A0 : Option Addr) (c0 : Nat) (l0 : List (List (S67))) (r : List (S67)) (w : World) (hr0 : Kd.C (Kd.slice 67 k67) w A0 l0.length l0) (hc0 : l0.length ≤ c0) (h : slices_Concat_Tile.f k l0 = some r) :
    Calls Try.prog 99 #[.slice A0 l0.length c0] w fun e w' => ∃ v0_ : Value, e = .returned (v0_) ∧ Kd.R k67 67 w' w.heap.size (fun _ => True) v0_ r ∧ Below w.heap.size w w' := by
  have HR0 := Aside0.mk hr0
  have HC0 := Aside0.mk hc0
  clear hr0 hc0
  have HB := Aside0.mk (Below.refl w.heap.size w)
  have H : (slices_Concat_Tile.l0 k l0 0 l0 (l0.length : Int) 0) = some r := h
  clear h
  have H' := Aside0.mk H
  clear H
  go_enter Try.func99, Try.ntmps99
  go_wp2
  go_loopg [3, 11] k (fun kq v3 v11 w' => ∃ (x3_1 : Int) (x11_1 : Int), v3 = .int .i64 x3_1 ∧ v11 = .int .i64 x11_1 ∧ Aside0 (slices_Concat_Tile.l0 kq l0 x3_1 l0 (l0.length : Int) x11_1 = some r) ∧ Aside0 (kq ≤ k) ∧ Aside0 (Below w.heap.size w w'))
  case atStart => exact ⟨(0), (0), (by first | rfl | (simp; done) | (simp [*]; done)), (by first | rfl | (simp; done) | (simp [*]; done)), H', ⟨Nat.le_refl _⟩, ⟨by repeat (first | (with_reducible first | exact HB.out | apply below_alloc | apply pw_below_drewN | apply below_drew1) | exact HB.out)⟩⟩
  case round =>
    clear H'
    obtain ⟨x3_1, x11_1, rfl, rfl, HA, HK1, HB⟩ := hrel
    cases gk with
    | zero => exact absurd HA.out (by simp [slices_Concat_Tile.l0])
    | succ k1 =>
      have H := HA.out
      clear HA
      simp only [slices_Concat_Tile.l0] at H
      by_cases c2 : x11_1 < (l0.length : Int)
      · rw [if_pos c2] at H
        have c2b0 : decide (x11_1 < (l0.length : Int)) = true := decide_eq_true c2
        clear c2
        by_cases c3 : 0 ≤ x11_1
        · rw [if_pos c3] at H
          have c3b0 : decide (0 ≤ x11_1) = true := decide_eq_true c3
          clear c3
          by_cases c4 : x11_1 < (l0.length : Int)
          · rw [if_pos c4] at H
            have c4b0 : decide (x11_1 < (l0.length : Int)) = true := decide_eq_true c4
            clear c4
            by_cases c5 : (wrap64 (x3_1 + ((rd_L3 l0 x11_1).length : Int))) < 0
            · rw [if_pos c5] at H
              exact absurd H (by simp)
            · rw [if_neg c5] at H
              have c5b0 : decide ((wrap64 (x3_1 + ((rd_L3 l0 x11_1).length : Int))) < 0) = false := decide_eq_false c5
              clear c5
              have H' := Aside0.mk H
              clear H
              have p735 : 0 ≤ (x11_1 : Int) := of_decide_eq_true (by first | (with_reducible assumption) | assumption)
              have q735 : x11_1 < (l0.length : Int) := of_decide_eq_true (by first | (with_reducible assumption) | assumption)
              obtain ⟨ad735, A735_0, c735_0, e735, hx735_0, hl735_0, hi735_0⟩ := at_L3 HR0.out x11_1 p735 q735
              cases e735
              replace hx735_0 := (HB.out.cell (World.block_lt_of_cell? w _ hx735_0)).trans hx735_0
              have HR735_0 := Aside0.mk hi735_0
              have HC735_0 := Aside0.mk hl735_0
              clear hi735_0 hl735_0
              replace p735 := eq_true p735
              replace q735 := eq_true q735
              go_wp2
              go_roundg k1
              case measure => have := HK1.out; omega
              case rel => exact ⟨(wrap64 (x3_1 + ((rd_L3 l0 x11_1).length : Int))), (wrap64 (x11_1 + 1)), (by first | rfl | (simp; done) | (simp [*]; done)), (by first | rfl | (simp; done) | (simp [*]; done)), H', ⟨by have := HK1.out; omega⟩, ⟨by repeat (first | (with_reducible first | exact HB.out | apply below_alloc | apply pw_below_drewN | apply below_drew1) | exact HB.out)⟩⟩
          · rw [if_neg c4] at H
            exact absurd H (by simp)
        · rw [if_neg c3] at H
          exact absurd H (by simp)
      · rw [if_neg c2] at H
        have c2b0 : decide (x11_1 < (l0.length : Int)) = false := decide_eq_false c2
        clear c2
        replace H := Option.bind_eq_some_iff.mp H
        obtain ⟨t736, A60, H⟩ := H
        replace H : (slices_Concat_Tile.l1 k1 t736 l0 (l0.length : Int) 0) = some r := H
        have A6 := Aside0.mk A60
        clear A60
        have H' := Aside0.mk H
        clear H
        go_wp2_with (first | ((with_reducible refine gate_callee (f := 151) rfl ?_); refine goesL_ (some 24) rfl rfl Try.func151 (by kernel_rfl) rfl #[.slice none 0 0, .int .i64 x3_1] rfl (by (try simp only [List.map_toArray, List.map_cons, List.map_nil]); first | done | rfl | (simp only [List.length_drop, List.length_take]; rfl)) ?_; (with_reducible refine (slices_Grow_Tile.calls x3_1 t736 _ A6.out).mono ?_); rintro e w7 ⟨v737, rfl, ho0, hb⟩; refine ⟨_, rfl, ?_⟩; have n0_ := Aside0.mk (Kd.R_lower ho0 (below_size (by repeat (first | (with_reducible first | exact HB.out | apply below_alloc | apply pw_below_drewN | apply below_drew1) | exact HB.out)))); have n1_ := Aside0.mk (below_step (by repeat (first | (with_reducible first | exact HB.out | apply below_alloc | apply pw_below_drewN | apply below_drew1) | exact HB.out)) hb); clear HB; have HO738 := n0_; have HB := n1_; clear n0_ n1_; (try clear hb); (try clear hb2); (try clear hk); (try clear hi); (try clear ho0)))
        go_loopg [6, 27] k1 (fun kq v6 v27 w' => ∃ (x6_2 : List (S67)) (x27_2 : Int), v27 = .int .i64 x27_2 ∧ Aside0 (slices_Concat_Tile.l1 kq x6_2 l0 (l0.length : Int) x27_2 = some r) ∧ Aside0 (kq ≤ k1) ∧ Aside0 (Kd.R k67 67 w' w.heap.size (fun _ => True) v6 x6_2) ∧ Aside0 (Below w.heap.size w w'))
        case atStart => exact ⟨(t736), (0), (by first | rfl | (simp; done) | (simp [*]; done)), H', ⟨Nat.le_refl _⟩, ⟨by (with_reducible repeat (first | apply Kd.R_alloc | apply Kd.R_drewN | apply Kd.R_drew)); exact HO738.out⟩, ⟨by repeat (first | (with_reducible first | exact HB.out | apply below_alloc | apply pw_below_drewN | apply below_drew1) | exact HB.out)⟩⟩
        case round =>
          clear H'
          try clear c1
          try clear c2
          try clear c2b0
          try clear p2
          try clear c3
          try clear c3b0
          try clear c4
          try clear c4b0
          try clear c5
          try clear c5b0
          try clear p6
          try clear c7
          try clear p7
          try clear q7
          try clear hx7
          try clear hx735_0
          try clear p735
          try clear q735
          obtain ⟨x6_2, x27_2, rfl, HA, HK2, HO_6, HB⟩ := hrel
          cases gk with
          | zero => exact absurd HA.out (by simp [slices_Concat_Tile.l1])
          | succ k2 =>
            have H := HA.out
            clear HA
            simp only [slices_Concat_Tile.l1] at H
            by_cases c8 : x27_2 < (l0.length : Int)
            · rw [if_pos c8] at H
              have c8b0 : decide (x27_2 < (l0.length : Int)) = true := decide_eq_true c8
              clear c8
              by_cases c9 : 0 ≤ x27_2
              · rw [if_pos c9] at H
                have c9b0 : decide (0 ≤ x27_2) = true := decide_eq_true c9
                clear c9
                by_cases c10 : x27_2 < (l0.length : Int)
                · rw [if_pos c10] at H
                  have c10b0 : decide (x27_2 < (l0.length : Int)) = true := decide_eq_true c10
                  clear c10
                  by_cases c11 : x6_2.length + (rd_L3 l0 x27_2).length < 8796093022208
                  · rw [if_pos c11] at H
                    have LMc11 := Aside0.mk c11
                    clear c11
                    obtain ⟨y740, hy740⟩ : ∃ y_ : List (S67), y_ = (x6_2 ++ (rd_L3 l0 x27_2)) := ⟨_, rfl⟩
                    replace H : (slices_Concat_Tile.l1 k2 y740 l0 (l0.length : Int) (wrap64 (x27_2 + 1))) = some r := by first | (rw [hy740]; with_reducible exact H) | (have H2_ := (Option.bind_some _ _).symm.trans H; rw [hy740]; with_reducible exact H2_) | (have H2_ := (Option.bind_some _ _).symm.trans H; with_reducible exact H2_) | with_reducible exact H | (rw [hy740]; exact H) | exact H
                    have Ny740 := Aside0.mk hy740
                    clear hy740
                    have H' := Aside0.mk H
                    clear H
                    have p739 : 0 ≤ (x27_2 : Int) := of_decide_eq_true (by first | (with_reducible assumption) | assumption)
                    have q739 : x27_2 < (l0.length : Int) := of_decide_eq_true (by first | (with_reducible assumption) | assumption)
                    obtain ⟨ad739, A739_0, c739_0, e739, hx739_0, hl739_0, hi739_0⟩ := at_L3 HR0.out x27_2 p739 q739
                    cases e739
                    replace hx739_0 := (HB.out.cell (World.block_lt_of_cell? w _ hx739_0)).trans hx739_0
                    have HR739_0 := Aside0.mk hi739_0
                    have HC739_0 := Aside0.mk hl739_0
                    clear hi739_0 hl739_0
                    replace p739 := eq_true p739
                    replace q739 := eq_true q739
                    go_wp2_with (first | ((with_reducible refine gate_builtin (b := .append) (xs := #[.tmp 31, .tmp 32]) rfl ?_); at_builtin; refine Kd.R_append_rows k67 (w0 := w) w.heap.size rfl (.tmp 31) (.tmp 32) 26 67 (.agg #[(.int .i64 0), (.int .i64 0)]) 16 rfl Try.underlying26 info67 rfl (by decide) (by omega) u6 x6_2 (rd_L3 l0 x27_2) _ _ _ (fun _ => True) (fun _ => False) rfl rfl ?aO ?aR (fun _ _ h => h) (fun _ h => h.elim) ?aF ?aB ?aS ?aL ?_; (case aR => repeat (first | exact (Kd.C_below HR739_0.out HB.out) | (with_reducible refine Kd.C_alloc ?_ _) | (with_reducible refine Kd.C_drewN ?_ _) | (with_reducible refine Kd.C_drew ?_))); (case aB => exact (by repeat (first | (with_reducible first | exact HB.out | apply below_alloc | apply pw_below_drewN | apply below_drew1) | exact HB.out))); (case aF => exact (fun _ _ => trivial)); (case aO => exact (by (with_reducible repeat (first | apply Kd.R_alloc | apply Kd.R_drewN | apply Kd.R_drew)); exact HO_6.out)); (case aS => exact (below_size (by repeat (first | (with_reducible first | exact HB.out | apply below_alloc | apply pw_below_drewN | apply below_drew1) | exact HB.out)))); (case aL => have := LMc11.out; omega); intro v741 w12 ho hb hg hat; rw [← Ny740.out] at ho; have n0_ := Aside0.mk (hb); have n1_ := Aside0.mk (ho); clear HB; clear HO_6; have HB := n0_; have HO742 := n1_; clear n0_ n1_; clear ho hb hg hat))
                    go_roundg k2
                    case measure => have := HK1.out; have := HK2.out; omega
                    case rel => exact ⟨(y740), (wrap64 (x27_2 + 1)), (by first | rfl | (simp; done) | (simp [*]; done)), H', ⟨by have := HK1.out; have := HK2.out; omega⟩, ⟨by (with_reducible repeat (first | apply Kd.R_alloc | apply Kd.R_drewN | apply Kd.R_drew)); exact HO742.out⟩, ⟨by repeat (first | (with_reducible first | exact HB.out | apply below_alloc | apply pw_below_drewN | apply below_drew1) | exact HB.out)⟩⟩
                  · rw [if_neg c11] at H
                    exact absurd H (by simp)
                · rw [if_neg c10] at H
                  exact absurd H (by simp)
              · rw [if_neg c9] at H
                exact absurd H (by simp)
            · rw [if_neg c8] at H
              have c8b0 : decide (x27_2 < (l0.length : Int)) = false := decide_eq_false c8
              clear c8
              obtain rfl := Option.some.inj H
              go_wp2
              go_ret
              exact ⟨_, by first | rfl | (simp [errW_none, errW_some] <;> rfl) | (simp [*, errW_none, errW_some] <;> rfl), by (with_reducible repeat (first | apply Kd.R_alloc | apply Kd.R_drewN | apply Kd.R_drew)); exact HO_6.out, by repeat (first | (with_reducible first | exact HB.out | apply below_alloc | apply pw_below_drewN | apply below_drew1) | exact HB.out)⟩

end

end Go.Proofs.Ytdpimdaofikmjaa.P
