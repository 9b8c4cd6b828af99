-- Printed by a program of this session (wip/myprint.py, which drives the kit's print): what one function of the program does, and the proof that its call does so.
import Derived.Lib.SliceRun
import Derived.WalkSpells
import Derived.Test.YtdklmjpimgeejaaP0
import Derived.Test.YtdklmjpimgeejaaPIh
import Derived.Test.YtdklmjpimgeejaaPIj
import Derived.Test.YtdklmjpimgeejaaPIy
import Derived.Test.YtdklmjpimgeejaaPSc
import Derived.Test.YtdklmjpimgeejaaPSo
namespace Go.Proofs.Ytdklmjpimgeejaa.P
open Go.RowKit Go.Proofs.YtdklmjpimgeejaaW.PrintWords Go.Proofs.YtdklmjpimgeejaaW.PrintLast Go.Proofs.YtdklmjpimgeejaaW.PrintMore
attribute [local go_sem] max2_int min2_int max_two min_two max_three min_three max_four min_four   -- for this text's walks alone
set_option linter.unusedVariables false
set_option linter.unusedSimpArgs false

/-! ### spec_haAll: function 23: written by hand -/
/-- How often each number is in a hand. -/
def tmsF (k : Nat) (l : List S45) : Nat → Option (List Int)
 | 0 => some []
 | n + 1 => (tmsF k l n).bind fun ts => (spec_tiTimes.f k l (n : Int)).bind fun t => some (ts ++ [t])
theorem tmsF_mono (k : Nat) (l : List S45) : ∀ n, LeO (tmsF k l n) (tmsF (k + 1) l n)
 | 0 => fun r h => h
 | n + 1 => fun r h => by
  simp only [tmsF] at h ⊢
  obtain ⟨ts, h1, h⟩ := Option.bind_eq_some_iff.1 h
  obtain ⟨t, h2, h⟩ := Option.bind_eq_some_iff.1 h
  rw [tmsF_mono k l n _ h1, Option.bind_some, spec_tiTimes.mono _ _ _ _ h2, Option.bind_some]
  exact h
theorem tmsF_at (k : Nat) (l : List S45) : ∀ n ts, tmsF k l n = some ts → ts.length = n ∧ ∀ (i : Nat), i < n → spec_tiTimes.f k l (i : Int) = some (ts.getD i 0)
 | 0, ts, h => by cases h; exact ⟨rfl, fun i hi => absurd hi (Nat.not_lt_zero _)⟩
 | n + 1, ts, h => by
  simp only [tmsF] at h
  obtain ⟨ts1, h1, h⟩ := Option.bind_eq_some_iff.1 h
  obtain ⟨t, h2, h⟩ := Option.bind_eq_some_iff.1 h
  cases h
  obtain ⟨hl, ha⟩ := tmsF_at k l n ts1 h1
  refine ⟨by simp [hl], fun i hi => ?_⟩
  by_cases e : i = n
  ·subst e
   rw [h2, List.getD_eq_getElem?_getD, List.getElem?_append_right (by omega), hl, Nat.sub_self]; rfl
  ·rw [ha i (by omega), List.getD_eq_getElem?_getD, List.getD_eq_getElem?_getD, List.getElem?_append_left (by omega)]
/-- All that the reference keeps of a hand's chains. -/
def allV (l : List S45) (most : Int) (ts : List Int) : LkS :=
 (List.range 10).foldl (fun s (n : Nat) => if 0 < l.length ∧ ts.getD n 0 > 0 then lookV l most (l.length + 1) [(n : Int)] (List.replicate l.length false) s else s) ⟨0, List.replicate l.length 0, [], []⟩
theorem allV_ok (l : List S45) {most : Int} (hm : most ≤ 300) (ts : List Int) (n : Nat) : OkS l.length ((List.range n).foldl (fun s (n : Nat) => if 0 < l.length ∧ ts.getD n 0 > 0 then lookV l most (l.length + 1) [(n : Int)] (List.replicate l.length false) s else s) ⟨0, List.replicate l.length 0, [], []⟩) := by
 refine foldl_inv (fun s n hs => ?_) _ _ ⟨by simp, by simp, by simp⟩
 split
 ·exact lookV_ok l hm _ _ _ s (by simp) hs
 ·exact hs
theorem made_rowB {w : World} {base n B : Nat} {v : Value} (h : Kd.R Kd.bool 4 w base (fun _ => True) v (List.replicate ((n : Nat) : Int).toNat false)) (hn : ∃ b, v.ownBlock = some b ∧ B ≤ b) : ∃ g cap, v = .slice (some ⟨g, 0, none⟩) n cap ∧ B ≤ g ∧ rowB w g cap (List.replicate n false) := by
 rw [Int.toNat_natCast] at h
 obtain ⟨b, hb1, hb2⟩ := hn
 obtain ⟨hok, inner, ⟨hl, hd⟩, hr⟩ := h
 rw [List.length_replicate] at hl hd
 rcases hd with ⟨rfl, hn⟩ | ⟨g, cap, cur, rfl, hg, hb, h1, h2, h3, h4⟩
 ·cases hb1
 ·cases hb1
  refine ⟨g, cap, rfl, hb2, cur, hb, h3.trans (Nat.mul_one _), by simpa using h1, fun i x hx => ?_⟩
  obtain ⟨hi, rfl⟩ := List.getElem?_eq_some_iff.1 hx
  have hil : i < n := by simpa using hi
  have hM := hr.2 i _ hx
  have hM2 : (inner.drop (i * 1)).take 1 = [Value.bool (List.replicate n false)[i]] := hM
  have h0 : ((inner.drop (i * 1)).take 1)[0]? = some (Value.bool (List.replicate n false)[i]) := by rw [hM2]; rfl
  subst h4
  rw [List.getElem?_take_of_lt (by omega), List.getElem?_drop, List.getElem?_take_of_lt (by show _ < n * 1; omega), Array.getElem?_toList] at h0
  simpa using h0
theorem litC {W : World} {b : Nat} {x : Int} (h : W.heap[b]? = some (.cells #[.int .i64 x] 3 (0, 0))) : Kd.C (Kd.int .i64) W (some ⟨b, 0, none⟩) [x].length [x] := by
 have h1 : rowI W b 1 [x] := ⟨_, h, rfl, Nat.le_refl _, fun i y hy => by
  match i, hy with
  | 0, hy => cases hy; rfl⟩
 exact (Kd.R_reads' (R_of_rowI (base := b) (ok := fun _ => True) h1 (Nat.le_refl _) trivial (by simp [maxLen]))).2.2
set_option maxHeartbeats 8000000 in
set_option maxRecDepth 100000 in
theorem spec_haAll.gcalls (k : Nat) (l : List S45) (A0 : Option Addr) (c0 : Nat) (most : Int) (ts : List Int) (w : World) (hm : 0 ≤ most ∧ most ≤ 300) (h8 : l.length ≤ 8) (hc0 : l.length ≤ c0) (hts : tmsF k l 10 = some ts) (hr0 : Kd.C k45 w A0 l.length l) :
  Calls Try.prog 23 #[.slice A0 l.length c0, .int .i64 most] w fun e w' => ∃ g gC capC vl vg, e = .returned (.pointer (some ⟨g, 0, none⟩)) ∧ LkAt l.length most A0 c0 g gC capC w.heap.size (allV l most ts) w' vl vg ∧ w.heap.size ≤ gC ∧ capC ≤ maxLen ∧ Below w.heap.size w w' := by
 have HR0 := aM hr0
 have HTS := aM (tmsF_at k l 10 ts hts)
 clear hr0 hts
 go_enter Try.func23, Try.ntmps23
 go_wp2_with (first | ((with_reducible refine gate_dst (N := 11) rfl ?_); refine Kd.R_make (Kd.int .i64) _ 3 rfl (N := 11) rfl 34 _ _ rfl (l.length : Int) rfl rfl Try.underlying34 (.int .i64 0) 8 info3 rfl (by decide) (by omega) (0 : Int) (ok := fun _ => True) (okp := fun _ => True) rfl (fun _ hk => hk) trivial (by omega) (by simp; omega) (Below.refl _ _) (Nat.le_refl _) ?_; intro v2 w2 ho2 hb2 hg2 hnew2; obtain ⟨gC, cap, rfl, hgC, _, hcap, hrow⟩ := made_rowI ho2 hnew2; have HB2 := aM (And.intro hb2 (And.intro hgC (And.intro hcap hrow))); clear ho2 hb2 hg2 hnew2 hgC hcap hrow))
 have HG0 : Aside0 (w.heap.size ≤ gC ∧ cap ≤ maxLen ∧ w.heap.size ≤ w2.heap.size) := ⟨HB2.out.2.1, HB2.out.2.2.1, HB2.out.1.size⟩
 have HL3 : Aside0 (LkAt l.length most A0 c0 w2.heap.size gC cap w.heap.size ⟨0, List.replicate l.length 0, [], []⟩ (w2.alloc (.cells #[.slice A0 l.length c0, .int .i64 most, .int .i64 0, .slice (some ⟨gC, 0, none⟩) l.length cap, .slice none 0 0, .slice none 0 0] 43)) (.slice none 0 0) (.slice none 0 0)) :=
  ⟨⟨heap_alloc_new _ _, rowI_below HB2.out.2.2.2 ((Below.refl _ _).alloc (Nat.le_refl _) _), Kd.S_nil _ _ _ _ _, Kd.R_nil _ _ _ _ _⟩⟩
 have HB3 : Aside0 (Below w.heap.size w (w2.alloc (.cells #[.slice A0 l.length c0, .int .i64 most, .int .i64 0, .slice (some ⟨gC, 0, none⟩) l.length cap, .slice none 0 0, .slice none 0 0] 43))) := ⟨HB2.out.1.alloc HB2.out.1.size _⟩
 obtain ⟨g, hg⟩ : ∃ g, g = w2.heap.size := ⟨_, rfl⟩
 rw [← hg] at HL3 HG0 ⊢
 obtain ⟨w3, hw3⟩ : ∃ w3, w3 = w2.alloc (.cells #[.slice A0 l.length c0, .int .i64 most, .int .i64 0, .slice (some ⟨gC, 0, none⟩) l.length cap, .slice none 0 0, .slice none 0 0] 43) := ⟨_, rfl⟩
 rw [← hw3] at HL3 HB3 ⊢
 obtain ⟨stp, hstp⟩ : ∃ f : LkS → Nat → LkS, f = fun s (n : Nat) => if 0 < l.length ∧ ts.getD n 0 > 0 then lookV l most (l.length + 1) [(n : Int)] (List.replicate l.length false) s else s := ⟨_, rfl⟩
 have HV : Aside0 (allV l most ts = (List.range 10).foldl stp ⟨0, List.replicate l.length 0, [], []⟩) := ⟨by rw [hstp]; rfl⟩
 have HOK : Aside0 (∀ n, OkS l.length ((List.range n).foldl stp ⟨0, List.replicate l.length 0, [], []⟩)) := ⟨fun n => by rw [hstp]; exact allV_ok l hm.2 ts n⟩
 have HSTP := aM hstp
 have HM := aM hm
 clear hg hw3 HB2 hstp hm
 go_loopg [6] 10 (fun gg s6 wx => ∃ (n : Nat) (vl vg : Value), s6 = .int .i64 n ∧ n ≤ 10 ∧ 10 - n ≤ gg ∧ Aside0 (LkAt l.length most A0 c0 g gC cap w.heap.size ((List.range n).foldl stp ⟨0, List.replicate l.length 0, [], []⟩) wx vl vg) ∧ Aside0 (Below w.heap.size w wx))
 case atStart => exact ⟨0, _, _, rfl, Nat.zero_le _, by omega, HL3, HB3⟩
 case round =>
  clear HL3 HB3
  obtain ⟨n, vl3, vg3, rfl, hn, hgg, HL3, HB3⟩ := hrel
  by_cases hlt : n < 10
  ·have hltz : (n : Int) ≤ 9 := by omega
   have HFOLD : Aside0 ((List.range (n + 1)).foldl stp ⟨0, List.replicate l.length 0, [], []⟩ = stp ((List.range n).foldl stp ⟨0, List.replicate l.length 0, [], []⟩) n) := ⟨by rw [List.range_succ, List.foldl_append]; rfl⟩
   have HOKN := aM (HOK.out n)
   obtain ⟨sl, hsl⟩ : ∃ x, x = (List.range n).foldl stp ⟨0, List.replicate l.length 0, [], []⟩ := ⟨_, rfl⟩
   rw [← hsl] at HFOLD HL3 HOKN
   obtain ⟨t, ht⟩ : ∃ t, t = ts.getD n 0 := ⟨_, rfl⟩
   have HSN : Aside0 (stp sl n = if 0 < l.length ∧ t > 0 then lookV l most (l.length + 1) [(n : Int)] (List.replicate l.length false) sl else sl) := ⟨by rw [HSTP.out, ht]⟩
   have HTI : Aside0 (∀ w', Below w.heap.size w w' → Calls Try.prog 32 #[.slice A0 l.length c0, .int .i64 (n : Int)] w' fun e w'' => e = .returned (.int .i64 t) ∧ Below w'.heap.size w' w'') := ⟨fun w' hb => spec_tiTimes.calls k A0 c0 l n t w' (Kd.C_below HR0.out hb) hc0 (by rw [ht]; exact HTS.out.2 n hlt)⟩
   clear ht hsl
   by_cases hpos : 0 < l.length
   ·have hpz : (l.length : Int) > 0 := by omega
    by_cases htp : t > 0
    ·have HSP : Aside0 (stp sl n = lookV l most (l.length + 1) [(n : Int)] (List.replicate l.length false) sl) := ⟨by rw [HSN.out, if_pos ⟨hpos, htp⟩]⟩
     have HLOOK : Aside0 (∀ (w4 w6 : World) (gU capU : Nat), Below wr.heap.size wr w4 → Below (w4.alloc (.cells #[.int .i64 (n : Int)] 3)).heap.size (w4.alloc (.cells #[.int .i64 (n : Int)] 3)) w6 → (w4.alloc (.cells #[.int .i64 (n : Int)] 3)).heap.size ≤ gU → rowB w6 gU capU (List.replicate l.length false) →
       Calls Try.prog 33 #[.pointer (some ⟨g, 0, none⟩), .slice (some ⟨w4.heap.size, 0, none⟩) 1 1, .slice (some ⟨gU, 0, none⟩) l.length capU] w6 fun e W' => e = .returned (.tuple #[]) ∧ (∃ vl vg, LkAt l.length most A0 c0 g gC cap w.heap.size (lookV l most (l.length + 1) [(n : Int)] (List.replicate l.length false) sl) W' vl vg) ∧ Below w.heap.size w W') := ⟨fun w4 w6 gU capU hb4 hb6 hgU hrU => by
      have hs5 : (w4.alloc (.cells #[.int .i64 (n : Int)] 3)).heap.size = w4.heap.size + 1 := by simp
      rw [hs5] at hgU
      have h5 := hb4.alloc hb4.size (.cells #[.int .i64 (n : Int)] 3)
      have h46 := below_then h5 h5.size hb6
      have hww := HB3.out.size
      have h06 := below_then HB3.out hww h46
      have hgw := lt_heapY HL3.out.G
      have hgCw : gC < wr.heap.size := by obtain ⟨cur, h1, _⟩ := HL3.out.C; exact lt_heapY h1
      have hlit : w6.heap[w4.heap.size]? = some (.cells #[.int .i64 (n : Int)] 3 (0, 0)) := (hb6.block w4.heap.size (by rw [hs5]; omega)).trans (heap_alloc_new w4 _)
      have h4s := hb4.size
      have := spec_haLook_look.gcalls l most A0 c0 g gC cap gU capU w.heap.size HM.out h8 hc0 ⟨HG0.out.2.2, HG0.out.1, by omega⟩ (l.length + 1) [(n : Int)] (List.replicate l.length false) sl w6 (some ⟨w4.heap.size, 0, none⟩) 1 vl3 vg3 (by simp; omega) (by simp) (by simp) (by simp) HOKN.out.1 HOKN.out.2.1 HOKN.out.2.2 (by simp)
       (fun W' hW => Kd.C_below HR0.out (h06.trans (ChgY.belowB hW (fun k o hk e => by have := e.1; omega) h06.size)))
       (fun W' hW => litC ((hW.2.2.2.2 _ (lt_heapY hlit) (by
        rw [hlit]
        intro h
        obtain ⟨_, h | h | h | ⟨cur', fr', h⟩⟩ := h
        ·omega
        ·omega
        ·omega
        ·cases h)).trans hlit))
       (HL3.out.below h46) hrU
      rw [List.length_replicate] at this
      exact this.mono fun e W' ⟨e1, e2, _, e4⟩ => ⟨e1, e2, h06.trans (ChgY.belowB e4 (fun k o hk e => by have := e.1; omega) h06.size)⟩⟩
     go_wp2_with (first | (go_at_call 32; refine (HTI.out _ HB3.out).mono ?_; rintro e w4 ⟨rfl, hb4⟩; have HB4 := aM hb4; clear hb4) | ((with_reducible refine gate_dst (N := 32) rfl ?_); refine Kd.R_make Kd.bool _ 4 rfl (N := 32) rfl 52 _ _ rfl (l.length : Int) rfl rfl Try.underlying52 (.bool false) 1 info4 rfl (by decide) (by decide) false (ok := fun _ => True) (okp := fun _ => True) rfl (fun _ hk => hk) trivial (by omega) (by simp; omega) (Below.refl _ _) (Nat.le_refl _) ?_; intro v5 w5 ho5 hb5 hg5 hnew5; obtain ⟨gU, capU, rfl, hgU, hrU⟩ := made_rowB ho5 hnew5; have HB5 := aM (And.intro hb5 (And.intro hgU hrU)); clear ho5 hb5 hg5 hnew5 hgU hrU) | (go_at_call 33; refine (HLOOK.out _ _ _ _ HB4.out HB5.out.1 HB5.out.2.1 HB5.out.2.2).mono ?_; rintro e w6 ⟨rfl, ⟨vl6, vg6, hl6⟩, hb6⟩; have HL6 := aM hl6; have HB6 := aM hb6; clear hl6 hb6))
     go_roundg (10 - (n + 1))
     case measure => omega
     case rel => exact ⟨n + 1, _, _, by go_num, by omega, Nat.le_refl _, ⟨by rw [HFOLD.out, HSP.out]; exact HL6.out⟩, HB6⟩
    ·have HSP : Aside0 (stp sl n = sl) := ⟨by rw [HSN.out, if_neg (fun h => htp h.2)]⟩
     go_wp2_with (first | (go_at_call 32; refine (HTI.out _ HB3.out).mono ?_; rintro e w4 ⟨rfl, hb4⟩; have HB4 := aM hb4; clear hb4))
     go_roundg (10 - (n + 1))
     case measure => omega
     case rel => exact ⟨n + 1, _, _, by go_num, by omega, Nat.le_refl _, ⟨by rw [HFOLD.out, HSP.out]; exact HL3.out.below HB4.out⟩, ⟨below_then HB3.out HB3.out.size HB4.out⟩⟩
   ·have hpz : ¬ (l.length : Int) > 0 := by omega
    have HSP : Aside0 (stp sl n = sl) := ⟨by rw [HSN.out, if_neg (fun h => hpos h.1)]⟩
    go_wp2
    go_roundg (10 - (n + 1))
    case measure => omega
    case rel => exact ⟨n + 1, _, _, by go_num, by omega, Nat.le_refl _, ⟨by rw [HFOLD.out, HSP.out]; exact HL3.out⟩, HB3⟩
  ·obtain rfl : n = 10 := by omega
   have hltz : ¬ ((10 : Nat) : Int) ≤ 9 := by omega
   go_wp2
   go_ret
   exact ⟨g, rfl, gC, cap, ⟨_, _, by rw [HV.out]; exact HL3.out⟩, HG0.out.1, HG0.out.2.1, HB3.out⟩

end Go.Proofs.Ytdklmjpimgeejaa.P
