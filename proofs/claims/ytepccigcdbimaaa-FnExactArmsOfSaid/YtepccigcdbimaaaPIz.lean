-- Printed by a program of this session (wip/myprint.py, which drives the kit's print): what one function of the program does, and the proof that its call does so.
import Derived.BigRegion
import Derived.Lib.SliceRun
import Derived.RegionTactic
import Derived.WalkSpells
import Derived.Test.YtepccigcdbimaaaP0
import Derived.Test.YtepccigcdbimaaaPIb
import Derived.Test.YtepccigcdbimaaaPimplspreadplay
namespace Go.Proofs.Ytepccigcdbimaaa.P
open Go.RowKit Go.Proofs.YtepccigcdbimaaaW.PrintWords Go.Proofs.YtepccigcdbimaaaW.PrintLast Go.Proofs.YtepccigcdbimaaaW.PrintMore
attribute [local go_sem] max2_int min2_int max_two min_two max_three min_three max_four min_four   -- for this text's walks alone
set_option linter.unusedVariables false
set_option linter.unusedSimpArgs false

section
/-! ### impl_spreadOf: function 65: written by hand -/
theorem tile_same (t x : S59) : (t.f0 == x.f0 && (t.f1 == x.f1)) = true ↔ t = x := by
  cases t; cases x; simp
theorem index_k (l : List S59) (hl : l.length ≤ 1000) (t : S59) : ∀ (d i k : Nat), i + d = l.length → d + 1 ≤ k → ∃ r : Int, slices_Index_Tile.l0 k l (l.length : Int) (i : Int) t.f0 t.f1 = some r ∧ (r ≥ 0 ↔ t ∈ l.drop i) := by
  intro d
  induction d with
  | zero =>
    intro i k hi hk
    obtain ⟨k, rfl⟩ : ∃ m, k = m + 1 := ⟨k - 1, by omega⟩
    refine ⟨-1, ?_, ?_⟩
    · simp only [slices_Index_Tile.l0]
      rw [if_neg (by omega)]
    · rw [List.drop_of_length_le (by omega)]; simp
  | succ d ih =>
    intro i k hi hk
    obtain ⟨k, rfl⟩ : ∃ m, k = m + 1 := ⟨k - 1, by omega⟩
    obtain ⟨r, h1, h2⟩ := ih (i + 1) k (by omega) (by omega)
    have hil : i < l.length := by omega
    have hrd : rd_T59 l (i : Int) = l[i] := by
      show l.getD (i : Int).toNat _ = _
      rw [Int.toNat_natCast, List.getD_eq_getElem?_getD, List.getElem?_eq_getElem hil]; rfl
    have hw : wrap64 ((i : Int) + 1) = ((i + 1 : Nat) : Int) := by unfold wrap64; omega
    by_cases c : t = l[i]
    · refine ⟨(i : Int), ?_, ?_⟩
      · simp only [slices_Index_Tile.l0]
        rw [if_pos (by omega), if_pos (by omega), if_pos (by omega), hrd, if_pos ((tile_same _ _).2 c)]
      · rw [List.drop_eq_getElem_cons hil]
        exact ⟨fun _ => by rw [c]; exact List.mem_cons_self, fun _ => by omega⟩
    · refine ⟨r, ?_, ?_⟩
      · simp only [slices_Index_Tile.l0]
        rw [if_pos (by omega), if_pos (by omega), if_pos (by omega), hrd, if_neg (fun e => c ((tile_same _ _).1 e)), hw]
        exact h1
      · rw [h2, List.drop_eq_getElem_cons hil, List.mem_cons]
        exact ⟨.inr, fun e => e.resolve_left c⟩
theorem contains_k (l : List S59) (hl : l.length ≤ 28) (t : S59) (k : Nat) (hk : 40 ≤ k) : slices_Contains_Tile.f k l t.f0 t.f1 = some (decide (t ∈ l)) := by
  obtain ⟨r, h1, h2⟩ := index_k l (by omega) t l.length 0 k (by omega) (by omega)
  have h3 : slices_Index_Tile.f k l t.f0 t.f1 = some r := h1
  unfold slices_Contains_Tile.f
  rw [h3, Option.bind_some]
  congr 1
  rw [decide_eq_decide, h2, List.drop_zero]
/-- What plays make of a state. -/
def runS : List S61 → SprS → Option SprS
  | [], s => some s
  | p :: r, s => (playS s p.f0 p.f1).bind fun s' => runS r s'
def S0S : SprS := ⟨[], [], -1, false, false⟩
def SpOk (s : SprS) : Prop := s.tiles.length ≤ 28 ∧ s.arms.length ≤ 2 * s.tiles.length + 2 ∧ (s.sp < 0 → s.arms.length ≤ 2 ∧ s.w0 = false ∧ s.w1 = false)
theorem SpOk.step {s s' : SprS} (h : SpOk s) {t : S59} {a : Int} (e : playS s t a = some s') : SpOk s' := by
  obtain ⟨h1, h2, h3⟩ := h
  unfold playS at e
  by_cases c : goodT t = true ∧ t ∉ s.tiles ∧ s.tiles.length ≠ 28
  case neg => rw [if_neg c] at e; cases e
  rw [if_pos c] at e
  have hgt : 0 ≤ t.f0 := (goodT_nums c.1).1
  by_cases c2 : s.tiles = []
  · rw [if_pos c2] at e
    by_cases c3 : a = 0
    case neg => rw [if_neg c3] at e; cases e
    rw [if_pos c3] at e
    obtain rfl := Option.some.inj e
    unfold firstS SpOk
    refine ⟨by simp, by simp, fun hs => ?_⟩
    by_cases d : dblB t = true
    · simp only [if_pos d] at hs; omega
    · simp only [if_neg d] at hs ⊢
      exact ⟨by simp, (h3 hs).2⟩
  · rw [if_neg c2] at e
    by_cases c3 : 0 ≤ a ∧ a < s.arms.length
    case neg => rw [if_neg c3] at e; cases e
    rw [if_pos c3] at e
    by_cases c4 : hasB2 (rd_T93 s.arms a).f0 t = true
    case neg => rw [if_neg c4] at e; cases e
    rw [if_pos c4] at e
    obtain rfl := Option.some.inj e
    have hc := c.2.2
    unfold nextS SpOk
    simp only
    refine ⟨by rw [List.length_append, List.length_singleton]; omega, ?_, fun hs => ?_⟩
    · split
      · rw [List.length_append, List.length_append, List.length_set]; simp; omega
      · rw [List.length_append, List.length_set]; simp; omega
    · by_cases d : (dblB t && decide (s.sp < 0)) = true
      · rw [if_pos d] at hs; omega
      · rw [if_neg d] at hs
        obtain ⟨p1, p2, p3⟩ := h3 hs
        have d2 : (dblB t && decide (s.sp < 0)) = false := by simpa using d
        rw [p2, p3, d2]
        simp [List.length_set, p1]
theorem runS_ok : ∀ (l : List S61) (s s' : SprS), SpOk s → runS l s = some s' → SpOk s'
  | [], s, s', h, e => by cases e; exact h
  | p :: r, s, s', h, e => by
    obtain ⟨s1, e1, e2⟩ := Option.bind_eq_some_iff.1 e
    exact runS_ok r s1 s' (h.step e1) e2
def zS : SprS := ⟨[], [], 0, false, false⟩
theorem R_other {α : Type} {d : Kd α} {e : Nat} {w : World} {base : Nat} {ok : Nat → Prop} {v : Value} {xs : List α} (h : d.R e w base ok v xs) {p : Addr} (hp : p.block < base) (u : Value) : d.R e (w.setCell p u) base ok v xs :=
  Kd.R_mono (Kd.R_far (p := p) (Kd.R_mono (Kd.R_bound h) (ok' := fun k => ok k ∧ base ≤ k) fun k hk => ⟨hk.1, hk.2.1⟩) (fun k hk e => by have := hk.2; omega) u) fun k hk => hk.1
set_option maxHeartbeats 8000000 in
set_option maxRecDepth 100000 in
theorem impl_spreadOf.gcalls (k : Nat) (hk : 40 ≤ k) (A0 : Option Addr) (c0 : Nat) (l0 : List S61) (w : World) (hr0 : Kd.C k61 w A0 l0.length l0) (hc0 : l0.length ≤ c0) (o : Option SprS) (ho : runS l0 S0S = o) :
    Calls Try.prog 65 #[.slice A0 l0.length c0] w fun e w' => ∃ va vt : Value, e = .returned (.tuple #[.agg #[va, vt, .int .i64 (o.getD zS).sp, .bool (o.getD zS).w0, .bool (o.getD zS).w1], .bool o.isSome]) ∧ Kd.R k93 93 w' w.heap.size (fun _ => True) va (o.getD zS).arms ∧ Kd.R k59 59 w' w.heap.size (fun _ => True) vt (o.getD zS).tiles ∧ Below w.heap.size w w' := by
  have HR0 := Aside0.mk hr0
  have HO := Aside0.mk ho
  have hlen : l0.length ≤ 9223372036854775807 := hr0.2.1
  clear hr0 ho
  go_enter Try.func65, Try.ntmps65
  go_wp2
  have e1 : (w.alloc (.cells #[.slice none 0 0, .slice none 0 0, .int .i64 0, .bool false, .bool false] 82)).heap.size = w.heap.size + 1 := by simp
  go_loopg [10] l0.length (fun gg s10 wr => ∃ (i : Nat) (s : SprS), s10 = .int .i64 i ∧ i ≤ l0.length ∧ l0.length - i ≤ gg ∧ SpOk s ∧ Aside0 (runS (l0.drop i) s = o) ∧ Aside0 (SprAt wr (w.heap.size + 1) (w.heap.size + 1) s) ∧ Aside0 (wr.heap[w.heap.size]? = some (.cells #[.slice none 0 0, .slice none 0 0, .int .i64 0, .bool false, .bool false] 82 (0, 0))) ∧ Aside0 (Below w.heap.size w wr) ∧ Aside0 (w.heap.size + 2 ≤ wr.heap.size))
  case atStart =>
    refine ⟨0, S0S, rfl, by omega, by omega, ⟨by simp [S0S], by simp [S0S], fun _ => ⟨by simp [S0S], rfl, rfl⟩⟩, ⟨HO.out⟩, ⟨.slice none 0 0, .slice none 0 0, ?_, Kd.R_nil _ _ _ _ _, Kd.R_nil _ _ _ _ _⟩, ⟨?_⟩, ⟨((Below.refl w.heap.size w).alloc (Nat.le_refl _) _).alloc (by simp) _⟩, ⟨by simp⟩⟩
    · rw [← e1]; exact heap_alloc_new _ _
    · rw [heap_alloc_old _ _ (by simp)]; exact heap_alloc_new _ _
  case round =>
    obtain ⟨i, s, rfl, hi, hg, HOK, HRS, HSP, HZ, HB, HSZ⟩ := hrel
    by_cases hlt : i < l0.length
    · have hltz : (i : Int) < (l0.length : Int) := by omega
      obtain ⟨x, hx⟩ : ∃ x, l0[i]? = some x := ⟨_, List.getElem?_eq_getElem hlt⟩
      have hrdx : rd_T61 l0 (i : Int) = x := by
        show l0.getD (i : Int).toNat _ = x
        rw [Int.toNat_natCast, List.getD_eq_getElem?_getD, hx]; rfl
      obtain ⟨ad, rfl, ha0, ha1, ha2⟩ := at_T61 (Kd.C_below HR0.out HB.out) (i : Int) (by omega) hltz
      rw [hrdx, Int.toNat_natCast] at ha0 ha1 ha2
      have hbl0 := World.block_lt_of_cell? _ _ ha0
      obtain ⟨po, hpo⟩ : ∃ q, q = playS s x.f0 x.f1 := ⟨_, rfl⟩
      have hdr : l0.drop i = x :: l0.drop (i + 1) := by
        rw [List.drop_eq_getElem_cons hlt]
        rw [List.getElem?_eq_getElem hlt] at hx
        cases hx; rfl
      have hrs : (po.bind fun s' => runS (l0.drop (i + 1)) s') = o := by rw [hpo]; have := HRS.out; rw [hdr] at this; exact this
      have HW1 := Aside0.mk (show (wr.alloc (.cells #[.int .i64 x.f0.f0, .int .i64 x.f0.f1, .int .i64 x.f1] 61)).heap.size = wr.heap.size + 1 by simp)
      have hpl : Calls Try.prog 91 #[.pointer (some ⟨w.heap.size + 1, 0, none⟩), .agg #[.int .i64 x.f0.f0, .int .i64 x.f0.f1, .int .i64 x.f1]] (wr.alloc (.cells #[.int .i64 x.f0.f0, .int .i64 x.f0.f1, .int .i64 x.f1] 61)) fun e W' => e = .returned (.bool po.isSome) ∧ SprAt W' (w.heap.size + 1) (w.heap.size + 1) (po.getD s) ∧ Below (w.heap.size + 1) (wr.alloc (.cells #[.int .i64 x.f0.f0, .int .i64 x.f0.f1, .int .i64 x.f1] 61)) W' :=
        impl_spread_play.gcalls k (w.heap.size + 1) (w.heap.size + 1) s x.f0 x.f1 po hpo.symm _ (HSP.out.below ((Below.refl _ _).alloc (Nat.le_refl _) _)) (Nat.le_refl _) (by have := HW1.out; have := HSZ.out; omega) (contains_k _ HOK.1 _ k hk) (fun h => (HOK.2.2 h).1) ⟨by have := HOK.2.1; have := HOK.1; omega, HOK.1⟩
      have HPL := Aside0.mk hpl
      have HRR := Aside0.mk hrs
      have HPO := Aside0.mk hpo
      have hZA : (wr.alloc (.cells #[.int .i64 x.f0.f0, .int .i64 x.f0.f1, .int .i64 x.f1] 61)).heap[w.heap.size]? = some (.cells #[.slice none 0 0, .slice none 0 0, .int .i64 0, .bool false, .bool false] 82 (0, 0)) := by rw [heap_alloc_old _ _ (by have := HSZ.out; omega)]; exact HZ.out
      have HZA := Aside0.mk hZA
      clear hpl hrs hpo hx hrdx hdr HRS hZA
      cases po with
      | some s1 =>
        go_wp2_with (go_at_call 91; refine HPL.out.mono ?_; rintro e w2 ⟨rfl, hs2, hb2⟩; have HS2 := Aside0.mk hs2; have HB2 := Aside0.mk hb2; clear hs2 hb2)
        go_roundg (l0.length - (i + 1))
        case measure => omega
        case rel =>
          have hsz := HB2.out.size
          have hw1 := HW1.out
          exact ⟨i + 1, s1, by go_num, by omega, Nat.le_refl _, HOK.step HPO.out.symm, ⟨HRR.out⟩, HS2, ⟨(HB2.out.block _ (by omega)).trans HZA.out⟩, ⟨(HB.out.alloc HB.out.size _).trans (HB2.out.mono (by omega))⟩, ⟨by have := HSZ.out; omega⟩⟩
      | none =>
        have ho2 : o = none := HRR.out.symm
        subst ho2
        go_wp2_with (go_at_call 91; refine HPL.out.mono ?_; rintro e w2 ⟨rfl, hs2, hb2⟩; have hz2 := (hb2.block w.heap.size (by omega)).trans HZA.out; obtain ⟨z0, fz0⟩ := heap_cell hz2 0 _ rfl; obtain ⟨z1, fz1⟩ := heap_cell hz2 1 _ rfl; obtain ⟨z2, fz2⟩ := heap_cell hz2 2 _ rfl; obtain ⟨z3, fz3⟩ := heap_cell hz2 3 _ rfl; obtain ⟨z4, fz4⟩ := heap_cell hz2 4 _ rfl; have HB2 := Aside0.mk hb2; have HZ2 := Aside0.mk hz2; clear hs2 hb2 hz2)
        refine bodyPost_ret (results_ct rfl _ _ w.heap.size 82 #[.slice none 0 0, .slice none 0 0, .int .i64 0, .bool false, .bool false] (0, 0) _ rfl (by rw [heap_setCell_at (heap_setCell_at (heap_setCell_at (heap_setCell_at (heap_setCell_at HZ2.out))))]; rfl) Try.underlying82 rfl (by kernel_rfl)) rfl ?_
        exact ⟨_, _, rfl, Kd.R_nil _ _ _ _ _, Kd.R_nil _ _ _ _ _, below_row_set (below_row_set (below_row_set (below_row_set (below_row_set ((HB.out.alloc HB.out.size _).trans (HB2.out.mono (by omega))) (Nat.le_refl _)) (Nat.le_refl _)) (Nat.le_refl _)) (Nat.le_refl _)) (Nat.le_refl _)⟩
    · obtain rfl : i = l0.length := by omega
      have hltz : ¬ (l0.length : Int) < (l0.length : Int) := by omega
      have hos : o = some s := by have := HRS.out; rw [List.drop_length] at this; exact this.symm
      subst hos
      obtain ⟨va, vt, hG, hRA, hRT⟩ := HSP.out
      obtain ⟨s0, fs0⟩ := heap_cell hG 0 va rfl
      obtain ⟨s1, fs1⟩ := heap_cell hG 1 vt rfl
      obtain ⟨s2, fs2⟩ := heap_cell hG 2 (.int .i64 s.sp) rfl
      obtain ⟨s3, fs3⟩ := heap_cell hG 3 (.bool s.w0) rfl
      obtain ⟨s4, fs4⟩ := heap_cell hG 4 (.bool s.w1) rfl
      obtain ⟨z0, fz0⟩ := heap_cell HZ.out 0 _ rfl
      obtain ⟨z1, fz1⟩ := heap_cell HZ.out 1 _ rfl
      obtain ⟨z2, fz2⟩ := heap_cell HZ.out 2 _ rfl
      obtain ⟨z3, fz3⟩ := heap_cell HZ.out 3 _ rfl
      obtain ⟨z4, fz4⟩ := heap_cell HZ.out 4 _ rfl
      have HRA := Aside0.mk (And.intro hRA hRT)
      obtain ⟨Aa, ca, rfl⟩ := Kd.R_slice hRA
      obtain ⟨At, ct, rfl⟩ := Kd.R_slice hRT
      clear hRA hRT hG
      go_wp2
      refine bodyPost_ret (results_ct rfl _ _ w.heap.size 82 #[.slice Aa s.arms.length ca, .slice At s.tiles.length ct, .int .i64 s.sp, .bool s.w0, .bool s.w1] (0, 0) _ rfl (by rw [heap_setCell_at (heap_setCell_at (heap_setCell_at (heap_setCell_at (heap_setCell_at HZ.out))))]; rfl) Try.underlying82 rfl (by kernel_rfl)) rfl ?_
      have hlo : w.heap.size < w.heap.size + 1 := by omega
      exact ⟨_, _, rfl, Kd.R_lower (R_other (R_other (R_other (R_other (R_other HRA.out.1 hlo _) hlo _) hlo _) hlo _) hlo _) (by omega), Kd.R_lower (R_other (R_other (R_other (R_other (R_other HRA.out.2 hlo _) hlo _) hlo _) hlo _) hlo _) (by omega), below_row_set (below_row_set (below_row_set (below_row_set (below_row_set HB.out (Nat.le_refl _)) (Nat.le_refl _)) (Nat.le_refl _)) (Nat.le_refl _)) (Nat.le_refl _)⟩

end

section
/-! ### impl_IsSpread: function 32: written by hand -/
def impl_IsSpread.f (k : Nat) (l0 : List S61) : Option (Bool) := if 40 ≤ k then some ((runS l0 S0S).isSome) else none
theorem impl_IsSpread.mono : ∀ a0 k, LeO (impl_IsSpread.f k a0) (impl_IsSpread.f (k + 1) a0) := by
  intro a0 k r h
  unfold impl_IsSpread.f at h ⊢
  by_cases c : 40 ≤ k
  · rw [if_pos c] at h; rw [if_pos (by omega)]; exact h
  · rw [if_neg c] at h; cases h
set_option maxHeartbeats 4000000 in
set_option maxRecDepth 100000 in
theorem impl_IsSpread.calls (k : Nat) (A0 : Option Addr) (c0 : Nat) (l0 : List S61) (r : Bool) (w : World) (hr0 : Kd.C k61 w A0 l0.length l0) (hc0 : l0.length ≤ c0) (h : impl_IsSpread.f k l0 = some r) :
    Calls Try.prog 32 #[.slice A0 l0.length c0] w fun e w' => e = .returned (.bool r) ∧ Below w.heap.size w w' := by
  unfold impl_IsSpread.f at h
  by_cases c : 40 ≤ k
  case neg => rw [if_neg c] at h; cases h
  rw [if_pos c] at h
  have h2 := Option.some.inj h
  obtain ⟨o, ho⟩ : ∃ o, o = runS l0 S0S := ⟨_, rfl⟩
  rw [← ho] at h2
  have hso : ∀ W, Below w.heap.size w W → Calls Try.prog 65 #[.slice A0 l0.length c0] W fun e w' => ∃ va vt : Value, e = .returned (.tuple #[.agg #[va, vt, .int .i64 (o.getD zS).sp, .bool (o.getD zS).w0, .bool (o.getD zS).w1], .bool o.isSome]) ∧ Kd.R k93 93 w' W.heap.size (fun _ => True) va (o.getD zS).arms ∧ Kd.R k59 59 w' W.heap.size (fun _ => True) vt (o.getD zS).tiles ∧ Below W.heap.size W w' := fun W hb =>
    impl_spreadOf.gcalls k c A0 c0 l0 W (Kd.C_below hr0 hb) hc0 o ho.symm
  have HSO := Aside0.mk hso
  clear hso hr0 hc0 ho h
  subst h2
  go_enter Try.func32, Try.ntmps32
  go_wp2_with (go_at_call 65; refine (HSO.out _ (by first | exact Below.refl _ _ | exact (Below.refl _ _).alloc (Nat.le_refl _) _)).mono ?_; rintro e w2 ⟨va, vt, rfl, hra, hrt, hb⟩; obtain ⟨Aa, ca, rfl⟩ := Kd.R_slice hra; obtain ⟨At, ct, rfl⟩ := Kd.R_slice hrt; have HRA := Aside0.mk hra; have HRT := Aside0.mk hrt; have HB := Aside0.mk hb; clear hra hrt hb)
  go_ret
  exact ⟨by first | rfl | simp, by first | exact HB.out.alloc HB.out.size _ | exact HB.out⟩

end

end Go.Proofs.Ytepccigcdbimaaa.P
