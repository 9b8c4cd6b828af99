-- Printed by a program of this session (wip/myprint.py, which drives the kit's print): what one function of the program does, and the proof that its call does so.
import Derived.Lib.SliceRun
import Derived.WalkSpells
import Derived.Test.YtepccigcdbimaaaP0
namespace Go.Proofs.Ytepccigcdbimaaa.P
open Go.RowKit Go.Proofs.YtepccigcdbimaaaW.PrintWords Go.Proofs.YtepccigcdbimaaaW.PrintLast Go.Proofs.YtepccigcdbimaaaW.PrintMore
attribute [local go_sem] max2_int min2_int max_two min_two max_three min_three max_four min_four   -- for this text's walks alone
set_option linter.unusedVariables false
set_option linter.unusedSimpArgs false

/-! ### slices_Compact_int: function 53: written by hand -/
theorem clear_intsC {w : World} {g cap : Nat} {m : List Int} (h : rowI w g cap m) (i : Nat) (hi : i < m.length) (c' : Nat) (ty : TypeId) : (Builtin.clear_ #[22] ty #[.slice (some ⟨g, i, none⟩) (m.length - i) c']).run Try.prog w = .ok (.tuple #[]) (w.setCells g i (clearI (m.length - i))) := by
  obtain ⟨cur, h1, h2, h3, h4⟩ := h
  have hst := run_storeCells_cells (P := Try.prog) g i (clearI (m.length - i)) 0 w (fun j hj => by
    rw [clearI_length] at hj
    simp only [World.cell?, h1, Nat.add_zero]
    simp only [Option.isSome_none, Bool.false_eq_true, if_false]
    rw [Array.getElem?_eq_getElem (by omega)]; rfl) (fun j hj => by simp [World.frozen?, h1]) (clearI_one _)
  simp only [Nat.add_zero] at hst
  obtain ⟨n, hn⟩ : ∃ n, m.length - i = n + 1 := ⟨m.length - i - 1, by omega⟩
  rw [hn] at hst ⊢
  have hv := Try.zeroValue3
  simp [Builtin.clear_, run_underlying Try.underlying22, hv, clearI, Value.cells] at hst ⊢
  simp [hst]
set_option maxHeartbeats 4000000 in
set_option maxRecDepth 100000 in
theorem slices_Compact_int.gcalls (base : Nat) (ok : Nat → Prop) (v : Value) (l : List Int) (w : World)
    (hbase : base ≤ w.heap.size) (ho : Kd.R (Kd.int .i64) 3 w base ok v l) :
    Calls Try.prog 53 #[v] w fun e w' => ∃ v', e = .returned v' ∧ Kd.R (Kd.int .i64) 3 w' base ok v' (compL l) ∧ Below base w w' := by
  obtain ⟨A, c, rfl, hlc, hC⟩ := Kd.R_reads ho
  have hbig : l.length ≤ 9223372036854775807 := hC.2.1
  by_cases h2 : l.length < 2
  · have hs : compL l = l := CompI.whole fun t h0 h1 h => by omega
    rw [hs]
    have HO := Aside0.mk ho
    have h2z : ((l.length : Int) < 2) := by omega
    clear ho hC hs
    go_enter Try.func53, Try.ntmps53
    go_wp2
    go_ret
    exact ⟨_, rfl, HO.out, Below.refl _ _⟩
  · have h2z : ¬ ((l.length : Int) < 2) := by omega
    rcases rowI_of_R ho with ⟨_, rfl⟩ | ⟨gb, cap, hv, hgb, hokg, hlcap, hcap, hrow⟩
    · exact absurd (by decide : ([] : List Int).length < 2) h2
    injection hv with e1 e2 e3
    subst e1 e3
    have HR := Aside0.mk hrow
    have HO := Aside0.mk ho
    have HG := Aside0.mk (show base ≤ gb ∧ ok gb ∧ c ≤ maxLen ∧ base ≤ w.heap.size from ⟨hgb, hokg, hcap, hbase⟩)
    clear ho hC hrow hgb hokg hcap hbase
    go_enter Try.func53, Try.ntmps53
    go_wp2
    go_loopg [3] l.length (fun g s3 wr => ∃ k : Nat, 1 ≤ k ∧ k ≤ l.length ∧ l.length - k ≤ g ∧ s3 = .int .i64 k ∧ Aside0 (Below w.heap.size w wr) ∧ Aside0 (∀ t, 0 < t → t < k → ∀ (h : t < l.length), l[t] ≠ l[t - 1]))
    case atStart => exact ⟨1, Nat.le_refl _, by omega, by omega, rfl, ⟨Below.refl _ _⟩, ⟨fun t h0 h1 => by omega⟩⟩
    case round =>
      obtain ⟨k, hk1, hk, hg, rfl, HB, HA⟩ := hrel
      by_cases hlt : k < l.length
      · have hltz : (k : Int) < (l.length : Int) := by omega
        obtain ⟨x, hx⟩ : ∃ x, l[k]? = some x := ⟨_, List.getElem?_eq_getElem hlt⟩
        obtain ⟨y, hy⟩ : ∃ y, l[k - 1]? = some y := ⟨_, List.getElem?_eq_getElem (by omega)⟩
        have HRB := Aside0.mk (rowI_below HR.out HB.out)
        obtain ⟨c1, f1⟩ := rowI_at HRB.out k x hx
        obtain ⟨c0, f0⟩ := rowI_at HRB.out (k - 1) y hy
        have HX := Aside0.mk (show l[k] = x ∧ l[k - 1]'(by omega) = y from ⟨by rw [List.getElem?_eq_getElem hlt] at hx; exact Option.some.inj hx, by rw [List.getElem?_eq_getElem (by omega)] at hy; exact Option.some.inj hy⟩)
        clear hx hy
        by_cases hdup : x = y
        · subst hdup
          go_wp2
          repeat (go_quiet (fail); try go_wp2)
          clear c0 c1 f0 f1
          go_loopg [3, 5] l.length (fun g s3 s5 wr' => ∃ (kk k2 : Nat) (m : List Int), s3 = .int .i64 kk ∧ s5 = .int .i64 k2 ∧ 1 ≤ k2 ∧ k + k2 ≤ l.length ∧ l.length - (k + k2) ≤ g ∧ Aside0 (CompI l (k + k2) kk m) ∧ Aside0 (rowI wr' gb c m) ∧ Aside0 (Below base w wr'))
          case atStart => exact ⟨k, 1, l, rfl, rfl, Nat.le_refl _, by omega, by omega, ⟨CompI.start (by omega) hlt (HX.out.1.trans HX.out.2.symm) HA.out⟩, ⟨rowI_drawn HRB.out (by repeat (first | exact Drawn0.refl _ | apply Drawn0.step))⟩, ⟨below_drawn (HB.out.mono HG.out.2.2.2) (Nat.le_trans HG.out.2.2.2 HB.out.size) (by repeat (first | exact Drawn0.refl _ | apply Drawn0.step))⟩⟩
          case round =>
            obtain ⟨kk, k2, m, rfl, rfl, h1, hle, hg2, HI, HR2, HB2⟩ := hrel
            have hkk := HI.out.lt
            have hml := HI.out.len
            have HBS := Aside0.mk (show base ≤ wr.heap.size from Nat.le_trans HG.out.2.2.2 HB2.out.size)
            by_cases hlt2 : k + k2 < l.length
            · obtain ⟨u, hu⟩ : ∃ u, l[k + k2]? = some u := ⟨_, List.getElem?_eq_getElem hlt2⟩
              obtain ⟨u0, hu0⟩ : ∃ u0, l[k + k2 - 1]? = some u0 := ⟨_, List.getElem?_eq_getElem (by omega)⟩
              obtain ⟨old, hold⟩ : ∃ old, m[kk]? = some old := ⟨_, List.getElem?_eq_getElem (by omega)⟩
              obtain ⟨cm, _⟩ := rowI_at HR2.out (k + k2) u (by rw [HI.out.high _ (by omega)]; exact hu)
              obtain ⟨cp, _⟩ := rowI_at HR2.out (k + k2 - 1) u0 (by rw [HI.out.high _ (by omega)]; exact hu0)
              obtain ⟨ck, fk⟩ := rowI_at HR2.out kk old hold
              rw [show k + k2 - 1 = k + (k2 - 1) by omega] at cp
              have hkm : kk < m.length := by omega
              have HU := Aside0.mk (show l[k + k2] = u ∧ l[k + k2 - 1]'(by omega) = u0 from ⟨by rw [List.getElem?_eq_getElem hlt2] at hu; exact Option.some.inj hu, by rw [List.getElem?_eq_getElem (by omega)] at hu0; exact Option.some.inj hu0⟩)
              clear hu hu0 hold
              by_cases huv : u = u0
              · subst huv
                go_wp2
                repeat (go_quiet (fail); try go_wp2)
                go_roundg (l.length - (k + (k2 + 1)))
                case measure => omega
                case rel => exact ⟨kk, k2 + 1, m, rfl, by go_num, by omega, by omega, Nat.le_refl _, ⟨HI.out.skip hlt2 (HU.out.1.trans HU.out.2.symm)⟩, ⟨rowI_drawn HR2.out (by repeat (first | exact Drawn0.refl _ | apply Drawn0.step))⟩, ⟨below_drawn HB2.out HBS.out (by repeat (first | exact Drawn0.refl _ | apply Drawn0.step))⟩⟩
              · go_wp2
                repeat (go_quiet (fail); try go_wp2)
                go_roundg (l.length - (k + (k2 + 1)))
                case measure => omega
                case rel => exact ⟨kk + 1, k2 + 1, m.set kk u, by go_num, by go_num, by omega, by omega, Nat.le_refl _, ⟨by have := HI.out.keep hlt2 (by rw [HU.out.1, HU.out.2]; exact huv); rwa [HU.out.1] at this⟩, ⟨by first | exact rowI_set (rowI_drawn HR2.out (by repeat (first | exact Drawn0.refl _ | apply Drawn0.step))) kk u hkm | exact rowI_drawn (rowI_set HR2.out kk u hkm) (by repeat (first | exact Drawn0.refl _ | apply Drawn0.step))⟩, ⟨by first | exact below_row_set (below_drawn HB2.out HBS.out (by repeat (first | exact Drawn0.refl _ | apply Drawn0.step))) HG.out.1 | exact below_drawn (below_row_set HB2.out HG.out.1) (by simpa [World.setCell] using HBS.out) (by repeat (first | exact Drawn0.refl _ | apply Drawn0.step))⟩⟩
            · have hend : k + k2 = l.length := by omega
              have hcl := fun ty => clear_intsC HR2.out kk (by omega) (c - kk) ty
              rw [hml] at hcl
              have hlow := HI.out.low
              rw [hend, List.take_length] at hlow
              have HLW := Aside0.mk hlow
              have hmi : (m.take kk).length = kk := by simp; omega
              have HMI := Aside0.mk hmi
              clear hlow hmi
              go_wp2
              go_ret
              refine ⟨_, rfl, ?_, below_setCells HG.out.1 _ _ _ HB2.out⟩
              rw [← HLW.out]
              have := R_of_rowI (base := base) (ok := ok) (rowI_clear HR2.out kk (by omega) (clearI (l.length - kk))) HG.out.1 HG.out.2.1 HG.out.2.2.1
              rw [HMI.out] at this
              exact this
        · go_wp2
          repeat (go_quiet (fail); try go_wp2)
          go_roundg (l.length - (k + 1))
          case measure => omega
          case rel =>
            refine ⟨k + 1, by omega, by omega, Nat.le_refl _, by go_num, ⟨below_drawn HB.out HB.out.size (by repeat (first | exact Drawn0.refl _ | apply Drawn0.step))⟩, ⟨fun t h0 h1 h => ?_⟩⟩
            by_cases e : t = k
            · subst e
              rw [HX.out.1, HX.out.2]; exact hdup
            · exact HA.out t h0 (by omega) h
      · have : k = l.length := by omega
        subst this
        have hltz : ¬ (l.length : Int) < (l.length : Int) := by omega
        have HW := Aside0.mk (CompI.whole HA.out)
        go_wp2
        go_ret
        rw [HW.out]
        exact ⟨_, rfl, Kd.R_below HO.out HB.out, HB.out.mono HG.out.2.2.2⟩

end Go.Proofs.Ytepccigcdbimaaa.P
