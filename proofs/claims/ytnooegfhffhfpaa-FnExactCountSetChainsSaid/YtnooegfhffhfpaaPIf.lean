-- Printed by a program of this session (wip/myprint.py, which drives the kit's print): what one function of the program does, and the proof that its call does so.
import Derived.BigRegion
import Derived.Lib.SliceRun
import Derived.RegionTactic
import Derived.Shelf.Abstract
import Derived.WalkSpells
import Derived.Test.YtnooegfhffhfpaaP0
import Derived.Test.YtnooegfhffhfpaaPIb
import Derived.Test.YtnooegfhffhfpaaPId
namespace Go.Proofs.Ytnooegfhffhfpaa.P
open Go.RowKit Go.Proofs.YtnooegfhffhfpaaW.PrintWords Go.Proofs.YtnooegfhffhfpaaW.PrintLast Go.Proofs.YtnooegfhffhfpaaW.PrintMore
attribute [local go_sem] max2_int min2_int max_two min_two max_three min_three max_four min_four   -- for this text's walks alone
set_option linter.unusedVariables false
set_option linter.unusedSimpArgs false

section
/-! ### slices_Clone_int: function 58: written by hand -/
def slices_Clone_int.f (l0 : List Int) : Option (List Int) := if l0.length < 17592186044416 then some l0 else none
set_option maxHeartbeats 8000000 in
set_option maxRecDepth 100000 in
theorem slices_Clone_int.calls (A0 : Option Addr) (c0 : Nat) (l0 : List Int) (r : List Int) (w : World) (hr0 : Kd.C (Kd.int .i64) w A0 l0.length l0) (hc0 : l0.length ≤ c0) (h : slices_Clone_int.f l0 = some r) :
  Calls Try.prog 58 #[.slice A0 l0.length c0] w fun e w' => ∃ v0_ : Value, e = .returned (v0_) ∧ Kd.R (Kd.int .i64) 3 w' w.heap.size (fun _ => True) v0_ r ∧ Below w.heap.size w w' := by
 have hnil : ∀ (w : World) (a : Option Addr) (n c n' c' : Nat), (Go.binOp .eql 36 (.slice a n c) (.slice none n' c')).run Try.prog w = .ok (.bool a.isNone) w := fun w a n c n' c' => Lib.run_eql_slice_nil w _ _ a n c n' c' Try.underlying36
 unfold slices_Clone_int.f at h
 by_cases c2 : l0.length < 17592186044416
 ·rw [if_pos c2] at h
  obtain rfl := Option.some.inj h
  clear h
  have LMc2 := aM c2
  clear c2
  cases A0 with
  | none =>
   have h0 : l0.length = 0 := by
    rcases Nat.eq_zero_or_pos l0.length with h | h
    ·exact h
    ·obtain ⟨ad, e, _⟩ := hr0.2.2 h; cases e
   obtain rfl : l0 = [] := List.length_eq_zero_iff.1 h0
   clear hr0 hc0
   go_enter Try.func58, Try.ntmps58
   go_wp2
   go_ret
   exact ⟨_, rfl, Kd.R_nil _ _ _ _ _, Below.refl _ _⟩
  | some ad0 =>
   have HR0 := aM hr0
   have HC0 := aM hc0
   clear hr0 hc0
   have HB := aM (Below.refl w.heap.size w)
   obtain ⟨y5, hy5⟩ : ∃ y_ : List Int, y_ = (([] : List Int)) := ⟨_, rfl⟩
   have Ny5 := aM hy5
   have hy5l : y5.length = 0 := by rw [hy5]; rfl
   obtain ⟨r, hr⟩ : ∃ y_ : List Int, y_ = (y5 ++ l0) := ⟨_, rfl⟩
   have er := aM (show r = l0 by rw [hr, hy5]; rfl)
   have Nr := aM hr
   clear hr hy5
   have HL5 := aM hy5l
   clear hy5l
   go_enter Try.func58, Try.ntmps58
   go_wp2_with (first | ((with_reducible refine gate_dst (N := 5) rfl ?_); refine Kd.R_lit (Kd.int .i64) _ 3 ?hg (N := 5) ?hd (xs := ([] : List Int)) (inner := []) (ok := fun _ => True) (okp := fun _ => True) ?hr ?hp (fun _ hk => hk) trivial (Below.refl _ _) (Nat.le_refl _) (by simp) ?_; (case hd => rfl); (case hg => rfl); (case hr => first | (go_simp; done) | (go_simp; rfl)); (case hp => exact (Reps.none _ _)); intro v534 w3 ho4 hb hg_ hnew_; clear hg_ hnew_; (first | rw [← Ny5.out] at ho4 | (simp only [Int.reduceToNat] at ho4; rw [← Ny5.out] at ho4)); have n0_ := aM (Kd.R_lower ho4 (below_size (by repeat (first | (with_reducible first | exact HB.out | apply bA | apply bN | apply bD) | exact HB.out)))); have n1_ := aM (below_step (by repeat (first | (with_reducible first | exact HB.out | apply bA | apply bN | apply bD) | exact HB.out)) hb); clear HB; have HO535 := n0_; have HB := n1_; clear n0_ n1_; clear hb ho4) | ((with_reducible refine gate_builtin (b := .append) (xs := #[.tmp 5, .tmp 6]) rfl ?_); at_builtin; refine Kd.R_append_rows (Kd.int .i64) (w0 := w) w.heap.size rfl (.tmp 5) (.tmp 6) 36 3 (.int .i64 0) 8 rfl Try.underlying36 info3 rfl (by decide) (by omega) v534 y5 l0 _ _ _ (fun _ => True) (fun _ => False) rfl rfl ?aO ?aR (fun _ _ h => h) (fun _ h => h.elim) ?aF ?aB ?aS ?aL ?_; (case aR => repeat (first | exact (Kd.C_below HR0.out HB.out) | (with_reducible refine Kd.C_alloc ?_ _) | (with_reducible refine Kd.C_drewN ?_ _) | (with_reducible refine Kd.C_drew ?_))); (case aB => exact (by repeat (first | (with_reducible first | exact HB.out | apply bA | apply bN | apply bD) | exact HB.out))); (case aF => exact (fun _ _ => trivial)); (case aO => exact (by (with_reducible repeat (first | apply rA | apply rN | apply rD)); exact HO535.out)); (case aS => exact (below_size (by repeat (first | (with_reducible first | exact HB.out | apply bA | apply bN | apply bD) | exact HB.out)))); (case aL => have := LMc2.out; have := HL5.out; omega); intro v537 w5 ho hb hg hat; rw [← Nr.out] at ho; have n0_ := aM (hb); have n1_ := aM (ho); clear HB; clear HO535; have HB := n0_; have HO538 := n1_; clear n0_ n1_; clear ho hb hg hat))
   go_ret
   rw [← er.out]
   exact ⟨_, by first | rfl | (simp; done) | (simp [*]; done), by (with_reducible repeat (first | apply rA | apply rN | apply rD)); exact HO538.out, by repeat (first | (with_reducible first | exact HB.out | apply bA | apply bN | apply bD) | exact HB.out)⟩
 ·rw [if_neg c2] at h
  exact absurd h (by simp)

end

section
/-! ### slices_IndexFunc_int: function 79: written by hand -/
/-- The call of a predicate at a whole number: it answers p, and what lay in w lies unturned. -/
def PredI (g : Nat) (lb : Array Value) (p : Int → Bool) (w : World) (x : Int) : Prop :=
 ∀ W, Below w.heap.size w W → Calls Try.prog g (#[.int .i64 x] ++ lb) W fun e W' => e = .returned (.bool (p x)) ∧ Below w.heap.size w W'
set_option maxHeartbeats 4000000 in
set_option maxRecDepth 100000 in
theorem slices_IndexFunc_int.gcalls (g : Nat) (lb : Array Value) (p : Int → Bool) (A0 : Option Addr) (c0 : Nat) (l0 : List Int) (w : World) (eg : ∀ args w, (callFunc g args).run Try.prog w = .ok (.enter g args) w)
  (hr0 : Kd.C (Kd.int .i64) w A0 l0.length l0) (hc0 : l0.length ≤ c0) (hp : ∀ x ∈ l0, PredI g lb p w x) :
  Calls Try.prog 79 #[.slice A0 l0.length c0, .func (.func g) #[] lb] w fun e w' => e = .returned (.int .i64 (idxB p l0)) ∧ Below w.heap.size w w' := by
 have HR0 := aM hr0
 have HP := aM hp
 have hbig : l0.length ≤ 9223372036854775807 := hr0.2.1
 clear hr0 hc0 hp
 go_enter Try.func79, Try.ntmps79
 go_wp2
 go_loopg [5, 8] l0.length (fun gg _ s8 wr => ∃ kk : Nat, kk ≤ l0.length ∧ l0.length - kk ≤ gg ∧ s8 = .int .i64 kk ∧ Aside0 (Below w.heap.size w wr) ∧ Aside0 (∀ j, j < kk → ∀ x, l0[j]? = some x → p x = false))
 case atStart => exact ⟨0, Nat.zero_le _, by omega, rfl, ⟨Below.refl _ w⟩, ⟨fun j hj => absurd hj (Nat.not_lt_zero _)⟩⟩
 case round =>
  obtain ⟨kk, hkk, hg, rfl, HB, HA⟩ := hrel
  by_cases hlt : kk < l0.length
  ·have hltz : (kk : Int) < (l0.length : Int) := by omega
   have h0z : 0 ≤ (kk : Int) := by omega
   obtain ⟨ad, c, e, hs, hK, hc⟩ := ReadsRow.get_ HR0.out (0 : Int) (kk : Int) h0z hltz
   cases e
   have hx0 : w.cell? (ad.add kk) = some (.int .i64 (l0.getD kk 0)) := by
    have h2 := hc 0 (.int .i64 (l0.getD (kk : Int).toNat 0)) (by rw [show c = [.int .i64 (l0.getD (kk : Int).toNat 0)] from hK]; rfl)
    simpa [show (Kd.int .i64).sz = 1 from rfl] using h2
   clear hs hK hc
   replace hx0 := (HB.out.cell (World.block_lt_of_cell? w _ hx0)).trans hx0
   obtain ⟨x, hx⟩ : ∃ x, l0[kk]? = some x := ⟨_, List.getElem?_eq_getElem hlt⟩
   have hrd : l0.getD kk 0 = x := by
    rw [List.getD_eq_getElem?_getD, hx]; rfl
   rw [hrd] at hx0
   have hcall := HP.out x (List.mem_of_getElem? hx) _ HB.out
   have HX := aM hx
   clear hx hrd
   cases hq : p x with
   | true =>
    rw [hq] at hcall
    have HQ := aM hq
    clear hq
    go_wp2_with (go_at_fn g; refine hcall.mono ?_; rintro e w' ⟨rfl, hb'⟩)
    go_ret
    refine ⟨?_, hb'⟩
    have hm := idxB_hit p l0 kk x HX.out HQ.out HA.out
    rw [hm]
    rfl
   | false =>
    rw [hq] at hcall
    have HQ := aM hq
    clear hq
    go_wp2_with (go_at_fn g; refine hcall.mono ?_; rintro e w' ⟨rfl, hb'⟩)
    go_roundg (l0.length - (kk + 1))
    case measure => omega
    case rel => exact ⟨kk + 1, by omega, by omega, by go_num, ⟨hb'⟩, ⟨fun j hj y hy => by
     by_cases e : j = kk
     ·subst e
      rw [HX.out] at hy; cases hy; exact HQ.out
     ·exact HA.out j (by omega) y hy⟩⟩
  ·have hltz : ¬ (kk : Int) < (l0.length : Int) := by omega
   obtain rfl : kk = l0.length := by omega
   go_wp2
   go_ret
   refine ⟨?_, HB.out⟩
   have hm := idxB_miss p l0 HA.out
   rw [hm]
   rfl

end

section
/-! ### slices_DeleteFunc_int: function 72: written by hand -/
theorem clear_ints {w : World} {g cap : Nat} {m : List Int} (h : rowI w g cap m) (i : Nat) (hi : i < m.length) (c' : Nat) (ty : TypeId) : (Builtin.clear_ #[36] ty #[.slice (some ⟨g, i, none⟩) (m.length - i) c']).run Try.prog w = .ok (.tuple #[]) (w.setCells g i (clearI (m.length - i))) := by
 obtain ⟨cur, h1, h2, h3, h4⟩ := h
 have hst := run_storeCells_cells (P := Try.prog) g i (clearI (m.length - i)) 0 w (fun j hj => by
  rw [clearI_length] at hj
  simp only [World.cell?, h1, Nat.add_zero]
  simp only [Option.isSome_none, Bool.false_eq_true, if_false]
  rw [Array.getElem?_eq_getElem (by omega)]; rfl) (fun j hj => by simp [World.frozen?, h1]) (clearI_one _)
 simp only [Nat.add_zero] at hst
 obtain ⟨n, hn⟩ : ∃ n, m.length - i = n + 1 := ⟨m.length - i - 1, by omega⟩
 rw [hn] at hst ⊢
 have hv := Try.zeroValue3
 simp [Builtin.clear_, run_underlying Try.underlying36, hv, clearI, Value.cells] at hst ⊢
 simp [hst]
/-- The call of a predicate at a number, in every world that leaves what lies below base: it answers p, and turns nothing. -/
def PredIB (g : Nat) (lb : Array Value) (p : Int → Bool) (base : Nat) (w : World) (x : Int) : Prop :=
 ∀ W, Below base w W → Calls Try.prog g (#[.int .i64 x] ++ lb) W fun e W' => e = .returned (.bool (p x)) ∧ Below W.heap.size W W'
set_option maxHeartbeats 4000000 in
set_option maxRecDepth 100000 in
theorem slices_DeleteFunc_int.gcalls (g : Nat) (lb : Array Value) (p : Int → Bool) (base : Nat) (ok : Nat → Prop) (v : Value) (l : List Int) (w : World) (eg : ∀ args w, (callFunc g args).run Try.prog w = .ok (.enter g args) w)
  (hbase : base ≤ w.heap.size) (ho : Kd.R (Kd.int .i64) 3 w base ok v l) (hp : ∀ x ∈ l, PredIB g lb p base w x) :
  Calls Try.prog 72 #[v, .func (.func g) #[] lb] w fun e w' => ∃ v', e = .returned v' ∧ Kd.R (Kd.int .i64) 3 w' base ok v' (l.filter fun x => !p x) ∧ Below base w w' := by
 obtain ⟨A, c, rfl, hlc, hC⟩ := Kd.R_reads ho
 have hIF := slices_IndexFunc_int.gcalls g lb p A c l w eg hC hlc (fun x hx W hb => (hp x hx W (hb.mono hbase)).mono fun e W' ⟨he, hb'⟩ => ⟨he, below_then hb hb.size hb'⟩)
 by_cases hany : l.any p = true
 case neg =>
  have hall : ∀ x ∈ l, p x = false := by
   intro x hx
   cases h : p x with
   | false => rfl
   | true => exact absurd (List.any_eq_true.2 ⟨x, hx, h⟩) hany
  have hi : idxB p l = -1 := by unfold idxB; rw [if_neg hany]
  rw [hi] at hIF
  have HO := aM ho
  have HF := aM (show (l.filter fun x => !p x) = l from List.filter_eq_self.2 fun x hx => by rw [hall x hx]; rfl)
  have HBS := aM hbase
  clear ho hp hC hall hi hany
  go_enter Try.func72, Try.ntmps72
  go_wp2_with (go_at_call 79; refine hIF.mono ?_; rintro e w' ⟨rfl, hb⟩; have HB := aM hb; clear hb)
  go_ret
  rw [HF.out]
  exact ⟨_, rfl, Kd.R_below HO.out HB.out, HB.out.mono HBS.out⟩
 case pos =>
  obtain ⟨k0, hk0, hi, hpk, hbef⟩ : ∃ k0, ∃ h : k0 < l.length, idxB p l = (k0 : Int) ∧ p l[k0] = true ∧ ∀ t, t < k0 → ∀ x, l[t]? = some x → p x = false := by
   refine ⟨l.findIdx p, List.findIdx_lt_length_of_exists (by simpa using hany), by unfold idxB; rw [if_pos hany], List.findIdx_getElem, fun t ht x hx => ?_⟩
   obtain ⟨h, rfl⟩ := List.getElem?_eq_some_iff.1 hx
   simpa using List.not_of_lt_findIdx ht
  rcases rowI_of_R ho with ⟨_, rfl⟩ | ⟨gb, cap, hv, hgb, hokg, hlcap, hcap, hrow⟩
  ·exact absurd hk0 (Nat.not_lt_zero _)
  injection hv with e1 e2 e3
  subst e1 e3
  rw [hi] at hIF
  have hne : ((k0 : Int) == -1) = false := beq_eq_false_iff_ne.2 (by omega)
  have hst := KeptL.start (q := fun x => !p x) hk0 (by rw [hpk]; rfl) (fun t ht x hx => by rw [hbef t ht x hx]; rfl)
  have hbig : l.length ≤ 9223372036854775807 := hC.2.1
  have HP := aM hp
  have HS := aM hst
  have HR := aM hrow
  have HG := aM (show base ≤ gb ∧ ok gb ∧ c ≤ maxLen ∧ base ≤ w.heap.size from ⟨hgb, hokg, hcap, hbase⟩)
  clear ho hp hC hi hpk hbef hrow hst hgb hokg hcap hbase hany
  go_enter Try.func72, Try.ntmps72
  go_wp2_with (go_at_call 79; refine hIF.mono ?_; rintro e w1 ⟨rfl, hb⟩; have HB1 := aM hb; clear hb)
  go_loopg [5, 6] l.length (fun gg s5 s6 wr => ∃ (i j : Nat) (m : List Int), s5 = .int .i64 i ∧ s6 = .int .i64 j ∧ j ≤ l.length ∧ l.length - j ≤ gg ∧ Aside0 (KeptL (fun x => !p x) l j i m) ∧ Aside0 (rowI wr gb c m) ∧ Aside0 (Below base w wr))
  case atStart => exact ⟨k0, k0 + 1, l, rfl, by go_num, by omega, by omega, HS, ⟨rowI_below HR.out HB1.out⟩, ⟨HB1.out.mono HG.out.2.2.2⟩⟩
  case round =>
   obtain ⟨i, j, m, rfl, rfl, hj, hg, HK, HRr, HBr⟩ := hrel
   have hij := HK.out.lt
   have hml := HK.out.len
   have hbs : base ≤ wr.heap.size := Nat.le_trans HG.out.2.2.2 HBr.out.size
   have HBS := aM hbs
   clear hbs
   by_cases hlt : j < l.length
   ·have hltz : (j : Int) < (l.length : Int) := by omega
    obtain ⟨x, hx⟩ : ∃ x, l[j]? = some x := ⟨_, List.getElem?_eq_getElem hlt⟩
    have hmx : m[j]? = some x := by rw [HK.out.high j (Nat.le_refl _)]; exact hx
    obtain ⟨y, hy⟩ : ∃ y, m[i]? = some y := ⟨_, List.getElem?_eq_getElem (by omega)⟩
    obtain ⟨hx0, _⟩ := rowI_at HRr.out j x hmx
    have HY := aM hy
    have hxl : l[j] = x := by rw [List.getElem?_eq_getElem hlt] at hx; exact Option.some.inj hx
    have hcall : ∀ W, Below base w W → Calls Try.prog g (#[.int .i64 x] ++ lb) W fun e W' => e = .returned (.bool (p x)) ∧ Below W.heap.size W W' := fun W hb => HP.out x (List.mem_of_getElem? hx) W hb
    have HX := aM hxl
    clear hmx hx hy hxl
    cases hq : p x with
    | true =>
     rw [hq] at hcall
     have HQ := aM hq
     clear hq
     go_wp2_with (go_at_fn g; refine (hcall _ HBr.out).mono ?_; rintro e w2 ⟨rfl, hb2⟩)
     go_roundg (l.length - (j + 1))
     case measure => omega
     case rel =>
      exact ⟨i, j + 1, m, rfl, by go_num, by omega, Nat.le_refl _, ⟨HK.out.skip hlt (by rw [HX.out, HQ.out]; rfl)⟩, ⟨rowI_below HRr.out hb2⟩, ⟨below_then HBr.out HBS.out hb2⟩⟩
    | false =>
     rw [hq] at hcall
     have HQ := aM hq
     clear hq
     have hlen2 : i < m.length := by omega
     have hyi : m[i]? = some y := HY.out
     go_wp2_with (go_at_fn g; refine (hcall _ HBr.out).mono ?_; rintro e w2 ⟨rfl, hb2⟩; have HBW := aM hb2; have hrw := rowI_below HRr.out hb2; have HRW := aM hrw; obtain ⟨hz0, hf0⟩ := rowI_at hrw i y hyi; clear hb2 hrw hyi hcall hx0)
     go_roundg (l.length - (j + 1))
     case measure => omega
     case rel => exact ⟨i + 1, j + 1, m.set i x, by go_num, by go_num, by omega, Nat.le_refl _, ⟨by have := HK.out.keep hlt (by rw [HX.out, HQ.out]; rfl); rwa [HX.out] at this⟩, ⟨rowI_set HRW.out i x hlen2⟩, ⟨below_row_set (below_then HBr.out HBS.out HBW.out) HG.out.1⟩⟩
   ·obtain rfl : j = l.length := by omega
    have hltz : ¬ (l.length : Int) < (l.length : Int) := by omega
    have hcl := fun ty => clear_ints HRr.out i (by omega) (c - i) ty
    rw [hml] at hcl
    have hlow := HK.out.low
    rw [List.take_length] at hlow
    have HLW := aM hlow
    have hmi : (m.take i).length = i := by simp; omega
    have HMI := aM hmi
    clear hlow hmi
    go_wp2
    go_ret
    refine ⟨_, rfl, ?_, below_setCells HG.out.1 _ _ _ HBr.out⟩
    rw [← HLW.out]
    have := R_of_rowI (base := base) (ok := ok) (rowI_clear HRr.out i (by omega) (clearI (l.length - i))) HG.out.1 HG.out.2.1 HG.out.2.2.1
    rw [HMI.out] at this
    exact this

end

section
/-! ### impl_groups_1: function 73: written by hand -/
set_option maxHeartbeats 4000000 in
theorem impl_groups_1.gcalls (i : Nat) (g cap : Nat) (l : List Int) (b1 b2 : Nat) (m : Int) (W : World) (hi : i < l.length) (hrow : rowI W g cap l) (hc : W.cell? ⟨b1, 0, none⟩ = some (.slice (some ⟨g, 0, none⟩) l.length cap)) (hd : W.cell? ⟨b2, 0, none⟩ = some (.int .i64 m)) (hbig : l.length ≤ 1000) :
  Calls Try.prog 73 #[.int .i64 i, .pointer (some ⟨b1, 0, none⟩), .pointer (some ⟨b2, 0, none⟩)] W fun e W' => e = .returned (.bool (!decide (rd l i = m))) ∧ Below W.heap.size W W' := by
 obtain ⟨x, hx⟩ : ∃ x, l[i]? = some x := ⟨_, List.getElem?_eq_getElem hi⟩
 have hv : rd l (i : Int) = x := by
  show l.getD (i : Int).toNat _ = x
  rw [Int.toNat_natCast, List.getD_eq_getElem?_getD, hx]; rfl
 obtain ⟨c0, _⟩ := rowI_at hrow i x hx
 rw [hv]
 have hltz : (i : Int) < (l.length : Int) := by omega
 have hlt1 := World.block_lt_of_cell? W _ hc
 have hlt2 := World.block_lt_of_cell? W _ hd
 clear hrow hv hx
 go_enter Try.func73, Try.ntmps73
 go_wp2
 repeat (go_quiet (fail); try go_wp2)
 go_ret
 exact ⟨by by_cases e : x = m <;> simp [e], by first | exact Below.refl _ _ | exact Drawn0.below (by repeat (first | exact Drawn0.refl _ | apply Drawn0.step))⟩

end

section
/-! ### impl_groups: function 54: written by hand -/
def upI (i : Nat) : Nat → List Int
 | 0 => []
 | d + 1 => (i : Int) :: upI (i + 1) d
theorem upI_snoc (d : Nat) : ∀ i, upI i (d + 1) = upI i d ++ [((i + d : Nat) : Int)] := by
 induction d with
 | zero => intro i; simp [upI]
 | succ d ih =>
  intro i
  rw [upI, ih (i + 1), upI, List.cons_append]
  congr 4
  omega
theorem upI_length (d : Nat) : ∀ i, (upI i d).length = d := by
 induction d with
 | zero => intro i; rfl
 | succ d ih => intro i; simp [upI, ih]
/-- What a tile makes of the names. -/
def stepN (l : List Int) (t : S39) : List Int := (l.set t.f0.toNat (mn (rd l t.f0) (rd l t.f1))).set t.f1.toNat (mn (rd l t.f0) (rd l t.f1))
def roundsN (h : List S39) : Nat → List Int → List Int
 | 0, l => l
 | n + 1, l => roundsN h n (h.foldl stepN l)
def groupsP (l there : List Int) (ns : List Int) : List (List Int) := (ns.map fun name => there.filter fun n => decide (rd l n = name)).filter fun g => !g.isEmpty
def groupsN (l there : List Int) : List (List Int) := groupsP l there (upI 0 10)
theorem heap_cell1 {W : World} {g : Nat} {v : Value} {T : TypeId} (h : W.heap[g]? = some (.cells #[v] T (0, 0))) : W.cell? ⟨g, 0, none⟩ = some v ∧ W.frozen? ⟨g, 0, none⟩ = false := by
 refine ⟨?_, by simp [World.frozen?, h]⟩
 simp only [World.cell?, h]; rfl
theorem box_below {W W' : World} {g : Nat} {v : Value} {T : TypeId} (h : W.heap[g]? = some (.cells #[v] T (0, 0))) (hb : Below W.heap.size W W') : W'.heap[g]? = some (.cells #[v] T (0, 0)) := (hb.block g (Array.getElem?_eq_some_iff.1 h).1).trans h
theorem box_drawn {W W' : World} {g : Nat} {v : Value} {T : TypeId} (h : W.heap[g]? = some (.cells #[v] T (0, 0))) (hd : Drawn0 W W') : W'.heap[g]? = some (.cells #[v] T (0, 0)) := box_below h hd.below
theorem box_far {W : World} {g b o : Nat} {v u : Value} {T : TypeId} (h : W.heap[g]? = some (.cells #[v] T (0, 0))) (hne : b ≠ g) : (W.setCell ⟨b, o, none⟩ u).heap[g]? = some (.cells #[v] T (0, 0)) := by
 rw [← h]
 simp only [World.setCell, Array.getElem?_modify]
 rw [if_neg hne]
theorem stepN_eq {l : List Int} {t : S39} {p q : Nat} {y0 y1 : Int} (hp : t.f0 = (p : Int)) (hq : t.f1 = (q : Int)) (h0 : l[p]? = some y0) (h1 : l[q]? = some y1) : stepN l t = (l.set p (mn y0 y1)).set q (mn y0 y1) := by
 have e0 : rd l t.f0 = y0 := by
  rw [hp]
  show l.getD (p : Int).toNat _ = y0
  rw [Int.toNat_natCast, List.getD_eq_getElem?_getD, h0]; rfl
 have e1 : rd l t.f1 = y1 := by
  rw [hq]
  show l.getD (q : Int).toNat _ = y1
  rw [Int.toNat_natCast, List.getD_eq_getElem?_getD, h1]; rfl
 unfold stepN
 rw [e0, e1, hp, hq, Int.toNat_natCast, Int.toNat_natCast]
theorem goodT_iff' (t : S39) : goodT t = true ↔ 0 ≤ t.f0 ∧ t.f0 ≤ t.f1 ∧ t.f1 ≤ 9 := by
 unfold goodT
 simp
def impl_groups.f (k : Nat) (l0 : List S39) : Option (List (List Int)) := if l0.length ≤ 55 ∧ (∀ t ∈ l0, goodT t = true) then ((impl_numbers.f k l0).bind fun there => if (∀ n ∈ there, 0 ≤ n ∧ n ≤ 9) ∧ there.length ≤ 1000 then some (groupsN (roundsN l0 l0.length (upI 0 10)) there) else none) else none
theorem impl_groups.mono : ∀ a0 k, LeO (impl_groups.f k a0) (impl_groups.f (k + 1) a0) := by
 intro a0 k r h
 unfold impl_groups.f at h ⊢
 by_cases c : a0.length ≤ 55 ∧ (∀ t ∈ a0, goodT t = true)
 ·rw [if_pos c] at h ⊢
  obtain ⟨t, h1, h2⟩ := Option.bind_eq_some_iff.1 h
  rw [impl_numbers.mono _ _ _ h1, Option.bind_some]
  exact h2
 ·rw [if_neg c] at h; cases h
set_option maxHeartbeats 8000000 in
set_option maxRecDepth 100000 in
theorem impl_groups.calls (k : Nat) (A0 : Option Addr) (c0 : Nat) (l0 : List S39) (r : List (List Int)) (w : World) (hr0 : Kd.C k39 w A0 l0.length l0) (hc0 : l0.length ≤ c0) (h : impl_groups.f k l0 = some r) :
  Calls Try.prog 54 #[.slice A0 l0.length c0] w fun e w' => ∃ v0_ : Value, e = .returned (v0_) ∧ Kd.S (Kd.slice 3 (Kd.int .i64)) 36 w' w.heap.size (fun _ => True) v0_ r ∧ Below w.heap.size w w' := by
 have eg : ∀ args w, (callFunc 73 args).run Try.prog w = .ok (.enter 73 args) w := enters_of Try.func73 (by kernel_rfl) rfl
 have hmf : ∀ (fn : Fn) (first cap : Array Value) (w : World), (Instr.makeFunc fn first cap).run Try.prog w = .ok (.func fn first cap) w := fun _ _ _ _ => rfl
 unfold impl_groups.f at h
 by_cases c : l0.length ≤ 55 ∧ (∀ t ∈ l0, goodT t = true)
 case neg => rw [if_neg c] at h; cases h
 rw [if_pos c] at h
 obtain ⟨there, h1, h⟩ := Option.bind_eq_some_iff.1 h
 by_cases c2 : (∀ n ∈ there, 0 ≤ n ∧ n ≤ 9) ∧ there.length ≤ 1000
 case neg => rw [if_neg c2] at h; cases h
 rw [if_pos c2] at h
 obtain rfl := Option.some.inj h
 have HR0 := aM hr0
 have HC := aM c
 have HC2 := aM c2
 clear h hr0 c c2
 go_enter Try.func54, Try.ntmps54
 go_wp2
 go_loopg [13] 10 (fun gg s13 wr => ∃ (i : Nat) (v : Value), s13 = .int .i64 i ∧ i ≤ 10 ∧ 10 - i ≤ gg ∧ Aside0 (wr.heap[w.heap.size + 1]? = some (.cells #[v] 36 (0, 0))) ∧ Aside0 (Kd.R (Kd.int .i64) 3 wr w.heap.size (fun b => b ≠ w.heap.size + 1) v (upI 0 i)) ∧ Aside0 (Below w.heap.size w wr) ∧ Aside0 (w.heap.size + 2 ≤ wr.heap.size))
 case atStart =>
  have e1 : (w.alloc (.cells #[] 3)).heap.size = w.heap.size + 1 := by simp
  refine ⟨0, .slice (some ⟨w.heap.size, 0, none⟩) 0 0, rfl, by omega, by omega, ⟨?_⟩, ⟨R_of_rowI (m := []) ⟨#[], ?_, rfl, Nat.le_refl _, fun i x hx => by simp at hx⟩ (Nat.le_refl _) (by omega) (by simp [maxLen])⟩, ⟨((Below.refl w.heap.size w).alloc (Nat.le_refl _) _).alloc (by simp) _⟩, ⟨by simp⟩⟩
  ·rw [← e1]; exact heap_alloc_new _ _
  ·rw [heap_alloc_old _ _ (by simp)]; exact heap_alloc_new _ _
 case round =>
  obtain ⟨i, v, rfl, hi, hg, HBX, HO, HB, HS⟩ := hrel
  by_cases hlt : i < 10
  ·have hltz : (i : Int) < 10 := by omega
   obtain ⟨A, cc, rfl, hlc, _⟩ := Kd.R_reads HO.out
   obtain ⟨hx0, hf0⟩ := heap_cell1 HBX.out
   have HLn := aM (upI_length i 0)
   have HN := aM (show upI 0 (i + 1) = upI 0 i ++ [(i : Int)] by rw [upI_snoc i 0, Nat.zero_add])
   have hown : (Value.slice A (upI 0 i).length cc).ownBlock ≠ some (w.heap.size + 1) := fun e => HO.out.1 _ e rfl
   have HW := aM hown
   clear hown
   go_wp2_with ((with_reducible refine gate_builtin (b := .append) (xs := #[.tmp 16, .tmp 18]) rfl ?_); at_builtin; refine Kd.R_append (Kd.int .i64) (w0 := w) w.heap.size rfl (.tmp 16) (.tmp 18) 36 3 (.int .i64 0) 8 rfl Try.underlying36 info3 rfl (by decide) (by omega) (.slice A (upI 0 i).length cc) (upI 0 i) (i : Int) [.int .i64 (i : Int)] (fun b => b ≠ w.heap.size + 1) (fun _ => False) rfl ?aX rfl (fun _ hk => hk.elim) ?aF HO.out HB.out ?aS (by have := HLn.out; omega) ?_; (case aX => rfl); (case aF => intro b hb; have := HS.out; omega); (case aS => exact HB.out.size); intro v1 w1 ho hb hg hat; rw [← HN.out] at ho; obtain ⟨A1, c1, rfl, hl1, _⟩ := Kd.R_reads ho; have hbx1 : w1.heap[w.heap.size + 1]? = some (.cells #[.slice A (upI 0 i).length cc] 36 (0, 0)) := (hg.block _ (by have := HS.out; omega) (fun e => HW.out e.symm)).trans HBX.out; have HX1 := aM hbx1; obtain ⟨hx1, hf1⟩ := heap_cell1 hbx1; have HO1 := aM ho; have HB1 := aM hb; have HG1 := aM hg.size; clear ho hb hg hat hbx1)
   go_roundg (10 - (i + 1))
   case measure => omega
   case rel =>
    refine ⟨i + 1, _, by go_num, by omega, Nat.le_refl _, ⟨?_⟩, ⟨Kd.R_far (p := ⟨w.heap.size + 1, 0, none⟩) HO1.out (fun _ h => h) _⟩, ⟨below_row_set HB1.out (by omega)⟩, ⟨by simpa [World.setCell] using Nat.le_trans HS.out HG1.out⟩⟩
    rw [heap_setCell_at HX1.out]
    simp
  ·obtain rfl : i = 10 := by omega
   rcases rowI_of_R HO.out with ⟨_, hnil⟩ | ⟨gN, capN, rfl, hgN, hokN, hlN, hcN, hrow⟩
   ·exact absurd (congrArg List.length hnil) (by rw [upI_length]; decide)
   rw [upI_length] at hlN
   have hbx := HBX.out
   rw [upI_length] at hbx
   have HBX0 := aM hbx
   obtain ⟨hx0, hf0⟩ := heap_cell1 hbx
   have HROW := aM hrow
   have HN := aM (show gN ≠ w.heap.size + 1 ∧ w.heap.size ≤ gN ∧ capN ≤ maxLen from ⟨hokN, hgN, hcN⟩)
   have hlh := HC.out.1
   clear hrow hokN hgN hcN hbx HO HBX
   go_wp2
   clear hx0 hf0
   go_loopg [23] l0.length (fun gg s23 wr => ∃ (i : Nat) (l : List Int), s23 = .int .i64 i ∧ i ≤ l0.length ∧ l0.length - i ≤ gg ∧ l.length = 10 ∧ Aside0 (roundsN l0 (l0.length - i) l = roundsN l0 l0.length (upI 0 10)) ∧ Aside0 (rowI wr gN capN l) ∧ Aside0 (wr.heap[w.heap.size + 1]? = some (.cells #[.slice (some ⟨gN, 0, none⟩) 10 capN] 36 (0, 0))) ∧ Aside0 (Below w.heap.size w wr) ∧ Aside0 (w.heap.size + 2 ≤ wr.heap.size))
   case atStart => exact ⟨0, upI 0 10, rfl, by omega, by omega, upI_length 10 0, ⟨rfl⟩, HROW, HBX0, HB, HS⟩
   case round =>
    obtain ⟨i, l, rfl, hi, hg, hl10, HF, HRW, HBX, HB, HS⟩ := hrel
    by_cases hlt : i < l0.length
    ·have hltz : (i : Int) < (l0.length : Int) := by omega
     go_wp2
     go_loopg [27] l0.length (fun gg s27 wr => ∃ (j : Nat) (l : List Int), s27 = .int .i64 j ∧ j ≤ l0.length ∧ l0.length - j ≤ gg ∧ l.length = 10 ∧ Aside0 (roundsN l0 (l0.length - (i + 1)) ((l0.drop j).foldl stepN l) = roundsN l0 l0.length (upI 0 10)) ∧ Aside0 (rowI wr gN capN l) ∧ Aside0 (wr.heap[w.heap.size + 1]? = some (.cells #[.slice (some ⟨gN, 0, none⟩) 10 capN] 36 (0, 0))) ∧ Aside0 (Below w.heap.size w wr) ∧ Aside0 (w.heap.size + 2 ≤ wr.heap.size))
     case atStart => exact ⟨0, l, rfl, by omega, by omega, hl10, ⟨by
      have := HF.out
      rw [show l0.length - i = (l0.length - (i + 1)) + 1 by omega, roundsN] at this
      rw [List.drop_zero]; exact this⟩, HRW, HBX, HB, HS⟩
     case round =>
      obtain ⟨j, l', rfl, hj, hg2, hl', HF2, HRW2, HBX2, HB2, HS2⟩ := hrel
      by_cases hlt2 : j < l0.length
      ·have hltz2 : (j : Int) < (l0.length : Int) := by omega
       obtain ⟨x, hx⟩ : ∃ x, l0[j]? = some x := ⟨_, List.getElem?_eq_getElem hlt2⟩
       have hrdx : rd_T39 l0 (j : Int) = x := by
        show l0.getD (j : Int).toNat _ = x
        rw [Int.toNat_natCast, List.getD_eq_getElem?_getD, hx]; rfl
       have hgx := (goodT_iff' x).1 (HC.out.2 x (List.mem_of_getElem? hx))
       obtain ⟨p, hp⟩ := Int.eq_ofNat_of_zero_le hgx.1
       obtain ⟨q, hq⟩ := Int.eq_ofNat_of_zero_le (Int.le_trans hgx.1 hgx.2.1)
       obtain ⟨ad, rfl, ha0, ha1⟩ := at_T39 (Kd.C_below HR0.out HB2.out) (j : Int) (by omega) hltz2
       rw [hrdx, hp, Int.toNat_natCast] at ha0
       rw [hrdx, hq, Int.toNat_natCast] at ha1
       obtain ⟨y0, hy0⟩ : ∃ y, l'[p]? = some y := ⟨_, List.getElem?_eq_getElem (by omega)⟩
       obtain ⟨y1, hy1⟩ : ∃ y, l'[q]? = some y := ⟨_, List.getElem?_eq_getElem (by omega)⟩
       obtain ⟨r0, rf0⟩ := rowI_at HRW2.out p y0 hy0
       obtain ⟨r1, rf1⟩ := rowI_at HRW2.out q y1 hy1
       obtain ⟨hx0, hf0⟩ := heap_cell1 HBX2.out
       have hp10 : (p : Int) < 10 := by omega
       have hq10 : (q : Int) < 10 := by omega
       have hbl := World.block_lt_of_cell? _ _ r0
       have hbl2 := World.block_lt_of_cell? _ _ hx0
       have hbl3 := World.block_lt_of_cell? _ _ ha0
       have HST := aM (stepN_eq hp hq hy0 hy1)
       have HDR := aM (show l0.drop j = x :: l0.drop (j + 1) by
        rw [List.drop_eq_getElem_cons hlt2]
        rw [List.getElem?_eq_getElem hlt2] at hx
        cases hx; rfl)
       have hp10n : p < l'.length := by omega
       have hq10n : q < l'.length := by omega
       have hgn := HN.out.1
       have hgn' : w.heap.size + 1 ≠ gN := fun e => hgn e.symm
       have hbl4 : gN < wr.heap.size := hbl
       have hne2 : gN ≠ wr.heap.size := by omega
       have hne2' : wr.heap.size ≠ gN := by omega
       have hpqd : p = q ∨ (p ≠ q ∧ q ≠ p) := by omega
       rcases hpqd with rfl | ⟨hpq, hqp⟩
       ·obtain rfl : y0 = y1 := by rw [hy0] at hy1; exact Option.some.inj hy1
        clear hx hrdx hy0 hy1
        go_wp2
        repeat (go_quiet (fail); try go_wp2)
        go_region
        go_wp2
        go_roundg (l0.length - (j + 1))
        case measure => omega
        case rel =>
         refine ⟨j + 1, (l'.set p y0).set p y0, by go_num, by omega, Nat.le_refl _, by rw [List.length_set, List.length_set]; exact hl', ⟨?_⟩, ⟨?_⟩, ⟨?_⟩, ⟨?_⟩, ⟨?_⟩⟩
         ·have := HF2.out
          rw [HDR.out, List.foldl_cons, HST.out, show mn y0 y0 = y0 by unfold mn; split <;> omega] at this
          exact this
         ·exact rowI_set (rowI_set (rowI_drawn (rowI_below HRW2.out ((Below.refl _ _).alloc (Nat.le_refl _) _)) (by repeat (first | exact Drawn0.refl _ | apply Drawn0.step))) p y0 (by omega)) p y0 (by rw [List.length_set]; omega)
         ·exact box_far (box_far (box_drawn (box_below HBX2.out ((Below.refl _ _).alloc (Nat.le_refl _) _)) (by repeat (first | exact Drawn0.refl _ | apply Drawn0.step))) hgn) hgn
         ·exact below_row_set (below_row_set (below_drawn (HB2.out.alloc HB2.out.size _) (Nat.le_trans HB2.out.size (by simp)) (by repeat (first | exact Drawn0.refl _ | apply Drawn0.step))) HN.out.2.1) HN.out.2.1
         ·exact Nat.le_trans HS2.out (below_row_set (below_row_set (below_drawn (((Below.refl wr.heap.size wr).mono HB2.out.size).alloc HB2.out.size _) (Nat.le_trans HB2.out.size (by simp)) (by repeat (first | exact Drawn0.refl _ | apply Drawn0.step))) HN.out.2.1) HN.out.2.1).size
       ·clear hx hrdx hy0 hy1
        go_wp2
        repeat (go_quiet (fail); try go_wp2)
        ·go_region
         go_wp2
         go_roundg (l0.length - (j + 1))
         case measure => omega
         case rel =>
          refine ⟨j + 1, (l'.set p y1).set q y1, by go_num, by omega, Nat.le_refl _, by rw [List.length_set, List.length_set]; exact hl', ⟨?_⟩, ⟨?_⟩, ⟨?_⟩, ⟨?_⟩, ⟨?_⟩⟩
          ·have := HF2.out
           rw [HDR.out, List.foldl_cons, HST.out, show mn y0 y1 = y1 by unfold mn; split <;> omega] at this
           exact this
          ·exact rowI_set (rowI_set (rowI_drawn (rowI_below HRW2.out ((Below.refl _ _).alloc (Nat.le_refl _) _)) (by repeat (first | exact Drawn0.refl _ | apply Drawn0.step))) p y1 (by omega)) q y1 (by rw [List.length_set]; omega)
          ·exact box_far (box_far (box_drawn (box_below HBX2.out ((Below.refl _ _).alloc (Nat.le_refl _) _)) (by repeat (first | exact Drawn0.refl _ | apply Drawn0.step))) hgn) hgn
          ·exact below_row_set (below_row_set (below_drawn (HB2.out.alloc HB2.out.size _) (Nat.le_trans HB2.out.size (by simp)) (by repeat (first | exact Drawn0.refl _ | apply Drawn0.step))) HN.out.2.1) HN.out.2.1
          ·exact Nat.le_trans HS2.out (below_row_set (below_row_set (below_drawn (((Below.refl wr.heap.size wr).mono HB2.out.size).alloc HB2.out.size _) (Nat.le_trans HB2.out.size (by simp)) (by repeat (first | exact Drawn0.refl _ | apply Drawn0.step))) HN.out.2.1) HN.out.2.1).size
        ·go_region
         go_wp2
         go_roundg (l0.length - (j + 1))
         case measure => omega
         case rel =>
          refine ⟨j + 1, (l'.set p y0).set q y0, by go_num, by omega, Nat.le_refl _, by rw [List.length_set, List.length_set]; exact hl', ⟨?_⟩, ⟨?_⟩, ⟨?_⟩, ⟨?_⟩, ⟨?_⟩⟩
          ·have := HF2.out
           rw [HDR.out, List.foldl_cons, HST.out, show mn y0 y1 = y0 by unfold mn; split <;> omega] at this
           exact this
          ·exact rowI_set (rowI_set (rowI_drawn (rowI_below HRW2.out ((Below.refl _ _).alloc (Nat.le_refl _) _)) (by repeat (first | exact Drawn0.refl _ | apply Drawn0.step))) p y0 (by omega)) q y0 (by rw [List.length_set]; omega)
          ·exact box_far (box_far (box_drawn (box_below HBX2.out ((Below.refl _ _).alloc (Nat.le_refl _) _)) (by repeat (first | exact Drawn0.refl _ | apply Drawn0.step))) hgn) hgn
          ·exact below_row_set (below_row_set (below_drawn (HB2.out.alloc HB2.out.size _) (Nat.le_trans HB2.out.size (by simp)) (by repeat (first | exact Drawn0.refl _ | apply Drawn0.step))) HN.out.2.1) HN.out.2.1
          ·exact Nat.le_trans HS2.out (below_row_set (below_row_set (below_drawn (((Below.refl wr.heap.size wr).mono HB2.out.size).alloc HB2.out.size _) (Nat.le_trans HB2.out.size (by simp)) (by repeat (first | exact Drawn0.refl _ | apply Drawn0.step))) HN.out.2.1) HN.out.2.1).size
      ·obtain rfl : j = l0.length := by omega
       have hltz2 : ¬ (l0.length : Int) < (l0.length : Int) := by omega
       go_wp2
       go_roundg (l0.length - (i + 1))
       case measure => omega
       case rel => exact ⟨i + 1, l', by go_num, by omega, Nat.le_refl _, hl', ⟨by have := HF2.out; rw [List.drop_length] at this; exact this⟩, HRW2, HBX2, HB2, HS2⟩
    ·obtain rfl : i = l0.length := by omega
     have hltz : ¬ (l0.length : Int) < (l0.length : Int) := by omega
     have hFl := HF.out
     rw [Nat.sub_self, roundsN] at hFl
     have hN : ∀ W, Below w.heap.size w W → Calls Try.prog 71 #[.slice A0 l0.length c0] W fun e w' => ∃ v0_ : Value, e = .returned (v0_) ∧ Kd.R (Kd.int .i64) 3 w' W.heap.size (fun _ => True) v0_ there ∧ Below W.heap.size W w' := fun W hb => impl_numbers.calls k A0 c0 l0 there W (Kd.C_below HR0.out hb) hc0 h1
     have HNUM := aM hN
     have HFL := aM hFl
     obtain ⟨hx0, hf0⟩ := heap_cell1 HBX.out
     have hll : (Value.slice (some ⟨gN, 0, none⟩) 10 capN) = .slice (some ⟨gN, 0, none⟩) 10 capN := rfl
     clear hN hFl
     go_wp2_with (go_at_call 71; refine (HNUM.out _ (by first | exact HB.out | exact HB.out.alloc HB.out.size _)).mono ?_; rintro e w1 ⟨v1, rfl, ho1, hb1⟩; obtain ⟨A1, c1, rfl, hl1, _⟩ := Kd.R_reads ho1; have HBX1 := aM (box_below (box_below HBX.out ((Below.refl _ _).alloc (Nat.le_refl _) _)) hb1); obtain ⟨hx1, hf1⟩ := heap_cell1 HBX1.out; have HO1 := aM ho1; have HB1 := aM hb1; clear ho1 hb1 hx0 hf0)
     have HBW1 := aM (HB.out.alloc HB.out.size (.cells #[] 36))
     have hs0 : (wr.alloc (.cells #[] 36)).heap.size = wr.heap.size + 1 := by simp
     have hS1 : Kd.S (Kd.slice 3 (Kd.int .i64)) 36 w1 w.heap.size (fun b => b ≠ w.heap.size + 1 ∧ b ≠ gN) (.slice (some ⟨wr.heap.size, 0, none⟩) 0 0) [] := by
      refine ⟨fun _ => 0, fun b hb => ?_, [], ⟨rfl, .inr ⟨wr.heap.size, 0, #[], rfl, HB.out.size, ?_, Nat.le_refl _, by simp [maxLen], rfl, rfl⟩⟩, rfl, fun j p hj => by simp at hj⟩
      ·have : wr.heap.size = b := by simpa [Value.ownBlock] using hb
       have h1 := HS.out
       have h2 := rowI_lt HRW.out
       omega
      ·rw [HB1.out.block _ (by omega)]; exact heap_alloc_new _ _
     have HS1 := aM hS1
     have HRW1 := aM (rowI_below (rowI_below HRW.out ((Below.refl _ _).alloc (Nat.le_refl _) _)) HB1.out)
     have HBB1 := aM (below_then HBW1.out HBW1.out.size HB1.out)
     have HSZ1 := aM (show w.heap.size + 2 ≤ w1.heap.size from Nat.le_trans HS.out (Nat.le_trans (by omega) HB1.out.size))
     have HO1' := aM (Kd.R_lower HO1.out (show w.heap.size ≤ _ from HBW1.out.size))
     clear hS1 hx1 hf1 hs0 HO1
     go_loopg [8, 59] 10 (fun gg s8 s59 wx => ∃ (n : Nat) (outs : List (List Int)), s59 = .int .i64 n ∧ n ≤ 10 ∧ 10 - n ≤ gg ∧ Aside0 (Kd.S (Kd.slice 3 (Kd.int .i64)) 36 wx w.heap.size (fun b => b ≠ w.heap.size + 1 ∧ b ≠ gN) s8 outs) ∧ Aside0 (outs ++ groupsP l there (upI n (10 - n)) = groupsN l there) ∧ Aside0 (Kd.R (Kd.int .i64) 3 wx w.heap.size (fun _ => True) (.slice A1 there.length c1) there) ∧ Aside0 (rowI wx gN capN l) ∧ Aside0 (wx.heap[w.heap.size + 1]? = some (.cells #[.slice (some ⟨gN, 0, none⟩) 10 capN] 36 (0, 0))) ∧ Aside0 (Below w.heap.size w wx) ∧ Aside0 (w.heap.size + 2 ≤ wx.heap.size))
     case atStart => exact ⟨0, [], rfl, by omega, by omega, HS1, ⟨rfl⟩, HO1', HRW1, HBX1, HBB1, HSZ1⟩
     case round =>
      obtain ⟨n, outs, rfl, hn, hgg, HOS, HOG, HTH, HRX, HBXX, HBL, HSZ⟩ := hrel
      by_cases hlt : n < 10
      ·have hltz : (n : Int) < 10 := by omega
       obtain ⟨own, hown⟩ : ∃ o, o = there.filter fun x => decide (rd l x = (n : Int)) := ⟨_, rfl⟩
       have hW1 : (wr.alloc (.cells #[.int .i64 (n : Int)] 3)).heap.size = wr.heap.size + 1 := by simp
       have hgl := rowI_lt HRX.out
       have hszx := HSZ.out
       have hcl : Calls Try.prog 58 #[.slice A1 there.length c1] (wr.alloc (.cells #[.int .i64 (n : Int)] 3)) fun e w' => ∃ v0_ : Value, e = .returned (v0_) ∧ Kd.R (Kd.int .i64) 3 w' (wr.alloc (.cells #[.int .i64 (n : Int)] 3)).heap.size (fun _ => True) v0_ there ∧ Below (wr.alloc (.cells #[.int .i64 (n : Int)] 3)).heap.size (wr.alloc (.cells #[.int .i64 (n : Int)] 3)) w' := by
        have hC := (Kd.R_reads' (rA HTH.out (.cells #[.int .i64 (n : Int)] 3))).2.2
        exact slices_Clone_int.calls A1 c1 there there _ hC hl1 (by unfold slices_Clone_int.f; rw [if_pos (by have := HC2.out.2; omega)])
       have hdel : ∀ (W : World) (v : Value), Kd.R (Kd.int .i64) 3 W (wr.alloc (.cells #[.int .i64 (n : Int)] 3)).heap.size (fun _ => True) v there → Below (wr.alloc (.cells #[.int .i64 (n : Int)] 3)).heap.size (wr.alloc (.cells #[.int .i64 (n : Int)] 3)) W → Calls Try.prog 72 #[v, .func (.func 73) #[] #[.pointer (some ⟨w.heap.size + 1, 0, none⟩), .pointer (some ⟨wr.heap.size, 0, none⟩)]] W fun e w' => ∃ v', e = .returned v' ∧ Kd.R (Kd.int .i64) 3 w' (wr.alloc (.cells #[.int .i64 (n : Int)] 3)).heap.size (fun _ => True) v' own ∧ Below (wr.alloc (.cells #[.int .i64 (n : Int)] 3)).heap.size W w' := by
        intro W v ho hb
        have := slices_DeleteFunc_int.gcalls 73 #[.pointer (some ⟨w.heap.size + 1, 0, none⟩), .pointer (some ⟨wr.heap.size, 0, none⟩)] (fun x => !decide (rd l x = (n : Int))) (wr.alloc (.cells #[.int .i64 (n : Int)] 3)).heap.size (fun _ => True) v there W eg hb.size ho (fun x hx W' hb' => by
         obtain ⟨m, rfl⟩ := Int.eq_ofNat_of_zero_le (HC2.out.1 x hx).1
         have hm9 := (HC2.out.1 _ hx).2
         have hbb := hb.trans hb'
         have hr3 : rowI W' gN capN l := rowI_below (rowI_below HRX.out ((Below.refl _ _).alloc (Nat.le_refl _) (.cells #[.int .i64 (n : Int)] 3))) hbb
         have hb3 := box_below (box_below HBXX.out ((Below.refl _ _).alloc (Nat.le_refl _) (.cells #[.int .i64 (n : Int)] 3))) hbb
         have hnm : (wr.alloc (.cells #[.int .i64 (n : Int)] 3)).heap[wr.heap.size]? = some (.cells #[.int .i64 (n : Int)] 3 (0, 0)) := heap_alloc_new _ _
         have hn3 := box_below hnm hbb
         exact impl_groups_1.gcalls m gN capN l (w.heap.size + 1) wr.heap.size (n : Int) W' (by omega) hr3 (by rw [hl10]; exact (heap_cell1 hb3).1) (heap_cell1 hn3).1 (by omega))
        simpa [← hown] using this
       have HCL := aM hcl
       have HDL := aM hdel
       have hup : upI n (10 - n) = (n : Int) :: upI (n + 1) (10 - (n + 1)) := by rw [show 10 - n = (10 - (n + 1)) + 1 by omega, upI]
       have HUP := aM hup
       clear hcl hdel hup
       by_cases hemp : own = []
       ·have hnx : outs ++ groupsP l there (upI (n + 1) (10 - (n + 1))) = groupsN l there := by
         have := HOG.out
         rw [HUP.out] at this
         unfold groupsP at this ⊢
         rw [List.map_cons, List.filter_cons, ← hown, hemp, if_neg (by simp)] at this
         exact this
        have HNX := aM hnx
        have hol : own.length = 0 := by rw [hemp]; rfl
        clear hnx hown
        subst hemp
        go_wp2_with (first | (go_at_call 58; refine HCL.out.mono ?_; rintro e w2 ⟨v2, rfl, ho2, hb2⟩; have HO2 := aM ho2; have HB2 := aM hb2; clear ho2 hb2) | (go_at_call 72; refine (HDL.out _ _ HO2.out HB2.out).mono ?_; rintro e w3 ⟨v3, rfl, ho3, hb3⟩; obtain ⟨A3, c3, rfl, hl3, _⟩ := Kd.R_reads ho3; have HB3 := aM (((Below.refl wr.heap.size wr).alloc (Nat.le_refl _) _).trans ((HB2.out.trans hb3).mono (by omega))); clear ho3 hb3))
        go_roundg (10 - (n + 1))
        case measure => omega
        case rel => exact ⟨n + 1, outs, by go_num, by omega, Nat.le_refl _, ⟨Kd.S_below HOS.out HB3.out⟩, HNX, ⟨Kd.R_below HTH.out HB3.out⟩, ⟨rowI_below HRX.out HB3.out⟩, ⟨box_below HBXX.out HB3.out⟩, ⟨below_then HBL.out HBL.out.size HB3.out⟩, ⟨Nat.le_trans HSZ.out HB3.out.size⟩⟩
       ·have hnx : (outs ++ [own]) ++ groupsP l there (upI (n + 1) (10 - (n + 1))) = groupsN l there := by
         have := HOG.out
         rw [HUP.out] at this
         unfold groupsP at this ⊢
         rw [List.map_cons, List.filter_cons, ← hown, if_pos (by cases own with | nil => exact absurd rfl hemp | cons a b => rfl)] at this
         rw [List.append_assoc]
         exact this
        have HNX := aM hnx
        have hol : 0 < own.length := List.length_pos_iff.2 hemp
        have holz : (0 : Int) < (own.length : Int) := by omega
        have hon : outs.length ≤ 1000 := by
         have := congrArg List.length HOG.out
         rw [List.length_append] at this
         have h2 : (groupsN l there).length ≤ 10 := by
          unfold groupsN groupsP
          refine Nat.le_trans (List.length_filter_le _ _) ?_
          rw [List.length_map, upI_length]; exact Nat.le_refl _
         omega
        have HBDS := aM (Kd.S_bound HOS.out)
        have HLT := aM (Kd.S_lt HOS.out)
        have HTY := aM (Kd.S_typed HOS.out)
        have HOKS := aM (fun b hb => (Kd.S_R HOS.out).1 b hb)
        clear hnx hown
        go_wp2_with (first | (go_at_call 58; refine HCL.out.mono ?_; rintro e w2 ⟨v2, rfl, ho2, hb2⟩; have HO2 := aM ho2; have HB2 := aM hb2; clear ho2 hb2) | (go_at_call 72; refine (HDL.out _ _ HO2.out HB2.out).mono ?_; rintro e w3 ⟨v3, rfl, ho3, hb3⟩; obtain ⟨A3, c3, rfl, hl3, _⟩ := Kd.R_reads ho3; have HO3 := aM ho3; have HBA := aM (Kd.R_base ho3); have HB3 := aM (((Below.refl wr.heap.size wr).alloc (Nat.le_refl _) _).trans ((HB2.out.trans hb3).mono (by omega))); clear ho3 hb3) | ((with_reducible refine gate_builtin (b := .append) (xs := #[.tmp 69, .tmp 71]) rfl ?_); at_builtin; refine Kd.S_append (Kd.slice 3 (Kd.int .i64)) (w0 := w) w.heap.size rfl (.tmp 69) (.tmp 71) 60 36 (.slice none 0 0) 24 rfl Try.underlying60 info36 rfl (by decide) (by omega) u8 outs own [.slice A3 own.length c3] (fun b => b ≠ w.heap.size + 1 ∧ b ≠ gN) (fun b => some b = (.slice A3 own.length c3 : Value).ownBlock) rfl ?aX ?aP ?aK ?aF ?aO ?aB ?aS (by omega) ?_; (case aX => rfl); (case aP => exact Kd.M_row (Kd.R_lower (Kd.R_tight rfl HO3.out) (by omega))); (case aK => intro b hb; have h1 := HBA.out b hb.symm; exact ⟨⟨by omega, by omega⟩, fun e => by have := HLT.out b e.symm; omega⟩); (case aF => intro b hb; have := HB3.out.size; exact ⟨by omega, by omega⟩); (case aO => exact Kd.S_mono (Kd.S_below HBDS.out HB3.out) (fun b hb => ⟨hb.1, fun e => by have h1 := HBA.out b e.symm; have h2 := hb.2.2.1; omega⟩)); (case aB => exact below_then HBL.out HBL.out.size HB3.out); (case aS => exact Nat.le_trans HBL.out.size HB3.out.size); intro v5 w5 ho5 hb5 hg5 hat5; have HO5 := aM ho5; have HB5 := aM hb5; have HG5 := aM hg5; clear ho5 hb5 hg5 hat5))
        go_roundg (10 - (n + 1))
        case measure => omega
        case rel =>
         have hs3 := HB3.out.size
         have hty : ∀ b, (u8 : Value).ownBlock = some b → ∃ cells, _ := Kd.S_typed (Kd.S_below HOS.out HB3.out)
         refine ⟨n + 1, outs ++ [own], by go_num, by omega, Nat.le_refl _, HO5, HNX, ⟨Kd.R_over' (Kd.R_below HTH.out HB3.out) hty (by decide) HG5.out⟩, ⟨?_⟩, ⟨?_⟩, HB5, ⟨Nat.le_trans HSZ.out (Nat.le_trans hs3 HG5.out.size)⟩⟩
         ·obtain ⟨cur, k1, k2⟩ := rowI_below HRX.out HB3.out
          exact ⟨cur, (HG5.out.block gN (by omega) (fun e => (HOKS.out gN e.symm).2 rfl)).trans k1, k2⟩
         ·exact (HG5.out.block _ (by omega) (fun e => (HOKS.out _ e.symm).1 rfl)).trans (box_below HBXX.out HB3.out)
      ·obtain rfl : n = 10 := by omega
       have hltz : ¬ (10 : Int) < 10 := by omega
       have hfin : outs = groupsN (roundsN l0 l0.length (upI 0 10)) there := by
        have := HOG.out
        rw [← HFL.out, ← this]
        unfold groupsP upI
        simp
       have HFIN := aM hfin
       clear hfin
       go_wp2
       go_ret
       refine ⟨_, rfl, ?_, HBL.out⟩
       rw [← HFIN.out]
       exact Kd.S_mono HOS.out (fun _ _ => trivial)

end

section
/-! ### impl_odd_1: function 74: written by hand -/
set_option maxHeartbeats 4000000 in
theorem impl_odd_1.gcalls (k : Nat) (n : Int) (A1 : Option Addr) (c1 : Nat) (l1 : List S39) (b : Nat) (r : Int) (W : World) (hr1 : Kd.C k39 W A1 l1.length l1) (hc1 : l1.length ≤ c1) (hc : W.cell? ⟨b, 0, none⟩ = some (.slice A1 l1.length c1)) (h : impl_times.f k l1 n = some r) (hr : 0 ≤ r ∧ r ≤ 1000) :
  Calls Try.prog 74 #[.int .i64 n, .pointer (some ⟨b, 0, none⟩)] W fun e W' => e = .returned (.bool (decide (r % 2 = 0))) ∧ Below W.heap.size W W' := by
 have hlt := World.block_lt_of_cell? W _ hc
 have hcall : ∀ W', Below W.heap.size W W' → Calls Try.prog 75 #[.slice A1 l1.length c1, .int .i64 n] W' fun e W'' => e = .returned (.int .i64 r) ∧ Below W'.heap.size W' W'' := fun W' hb => impl_times.calls k A1 c1 l1 n r W' (Kd.C_below hr1 hb) hc1 h
 have HC := aM hcall
 have hm : Int.tmod r 2 = r % 2 := Int.tmod_eq_emod_of_nonneg hr.1
 clear hcall hr1 hc1 h
 go_enter Try.func74, Try.ntmps74
 go_wp2_with (go_at_call 75; refine (HC.out _ (by first | exact Below.refl _ _ | exact (Below.refl _ _).alloc (Nat.le_refl _) _)).mono ?_; rintro e w2 ⟨rfl, hb2⟩)
 go_ret
 exact ⟨by first | (simp; done) | (simp; rfl) | rfl, by first | exact hb2 | exact below_then ((Below.refl _ _).alloc (Nat.le_refl _) _) (by simp) hb2⟩

end

section
/-! ### impl_odd: function 55: written by hand -/
/-- How often a number is in a hand, if that can be told. -/
def timesO (k : Nat) (l0 : List S39) (n : Int) : Int := (impl_times.f k l0 n).getD 0
def timesOk (k : Nat) (l0 : List S39) (n : Int) : Bool := (impl_times.f k l0 n).any fun r => decide (0 ≤ r ∧ r ≤ 1000)
theorem timesOk_get {k : Nat} {l0 : List S39} {n : Int} (h : timesOk k l0 n = true) : impl_times.f k l0 n = some (timesO k l0 n) ∧ 0 ≤ timesO k l0 n ∧ timesO k l0 n ≤ 1000 := by
 unfold timesOk at h
 cases e : impl_times.f k l0 n with
 | none => rw [e] at h; cases h
 | some r =>
  rw [e] at h
  have : timesO k l0 n = r := by unfold timesO; rw [e]; rfl
  rw [this]
  exact ⟨rfl, by simpa using h⟩
def impl_odd.f (k : Nat) (l0 : List S39) : Option (List Int) := (impl_numbers.f k l0).bind fun ns => if ns.all (timesOk k l0) = true then some (ns.filter fun n => !decide (timesO k l0 n % 2 = 0)) else none
theorem timesO_succ {k : Nat} {l0 : List S39} {n : Int} (h : timesOk k l0 n = true) : timesOk (k + 1) l0 n = true ∧ timesO (k + 1) l0 n = timesO k l0 n := by
 obtain ⟨h1, h2, h3⟩ := timesOk_get h
 have h4 := impl_times.mono _ _ _ _ h1
 refine ⟨?_, ?_⟩
 ·unfold timesOk
  rw [h4]
  simp [h2, h3]
 ·show (impl_times.f (k + 1) l0 n).getD 0 = _
  rw [h4]; rfl
theorem impl_odd.mono : ∀ a0 k, LeO (impl_odd.f k a0) (impl_odd.f (k + 1) a0) := by
 intro a0 k r h
 unfold impl_odd.f at h ⊢
 obtain ⟨t, h1, h2⟩ := Option.bind_eq_some_iff.1 h
 rw [impl_numbers.mono _ _ _ h1, Option.bind_some]
 by_cases c : t.all (timesOk k a0) = true
 ·rw [if_pos c] at h2
  have hc := List.all_eq_true.1 c
  rw [if_pos (List.all_eq_true.2 fun n hn => (timesO_succ (hc n hn)).1)]
  rw [← h2]
  congr 1
  apply List.filter_congr
  intro n hn
  rw [(timesO_succ (hc n hn)).2]
 ·rw [if_neg c] at h2; cases h2
set_option maxHeartbeats 8000000 in
set_option maxRecDepth 100000 in
theorem impl_odd.calls (k : Nat) (A0 : Option Addr) (c0 : Nat) (l0 : List S39) (r : List Int) (w : World) (hr0 : Kd.C k39 w A0 l0.length l0) (hc0 : l0.length ≤ c0) (h : impl_odd.f k l0 = some r) :
  Calls Try.prog 55 #[.slice A0 l0.length c0] w fun e w' => ∃ v0_ : Value, e = .returned (v0_) ∧ Kd.R (Kd.int .i64) 3 w' w.heap.size (fun _ => True) v0_ r ∧ Below w.heap.size w w' := by
 have eg : ∀ args w, (callFunc 74 args).run Try.prog w = .ok (.enter 74 args) w := enters_of Try.func74 (by kernel_rfl) rfl
 have hmf : ∀ (fn : Fn) (first cap : Array Value) (w : World), (Instr.makeFunc fn first cap).run Try.prog w = .ok (.func fn first cap) w := fun _ _ _ _ => rfl
 unfold impl_odd.f at h
 obtain ⟨ns, h1, h⟩ := Option.bind_eq_some_iff.1 h
 by_cases c : ns.all (timesOk k l0) = true
 ·rw [if_pos c] at h
  obtain rfl := Option.some.inj h
  have hcc := List.all_eq_true.1 c
  have hn : ∀ o, Calls Try.prog 71 #[.slice A0 l0.length c0] (w.alloc o) fun e w' => ∃ v0_ : Value, e = .returned (v0_) ∧ Kd.R (Kd.int .i64) 3 w' (w.alloc o).heap.size (fun _ => True) v0_ ns ∧ Below (w.alloc o).heap.size (w.alloc o) w' := fun o => impl_numbers.calls k A0 c0 l0 ns (w.alloc o) (Kd.C_below hr0 ((Below.refl _ _).alloc (Nat.le_refl _) o)) hc0 h1
  have hdel : ∀ (o : Obj) (W : World) (v : Value), (w.alloc o).cell? ⟨w.heap.size, 0, none⟩ = some (.slice A0 l0.length c0) → Kd.R (Kd.int .i64) 3 W (w.alloc o).heap.size (fun _ => True) v ns → Below (w.alloc o).heap.size (w.alloc o) W →
    Calls Try.prog 72 #[v, .func (.func 74) #[] #[.pointer (some ⟨w.heap.size, 0, none⟩)]] W fun e w' => ∃ v', e = .returned v' ∧ Kd.R (Kd.int .i64) 3 w' (w.alloc o).heap.size (fun _ => True) v' (ns.filter fun n => !decide (timesO k l0 n % 2 = 0)) ∧ Below (w.alloc o).heap.size W w' := by
   intro o W v hc ho hb
   have hlt : w.heap.size < (w.alloc o).heap.size := by simp
   exact slices_DeleteFunc_int.gcalls 74 #[.pointer (some ⟨w.heap.size, 0, none⟩)] (fun n => decide (timesO k l0 n % 2 = 0)) (w.alloc o).heap.size (fun _ => True) v ns W eg hb.size ho (fun n hn W' hb' => by
    have hb2 : Below w.heap.size w W' := (((Below.refl w.heap.size w).alloc (Nat.le_refl _) o).trans ((hb.trans hb').mono (Nat.le_of_lt hlt)))
    obtain ⟨t1, t2⟩ := timesOk_get (hcc n hn)
    exact impl_odd_1.gcalls k n A0 c0 l0 w.heap.size (timesO k l0 n) W' (Kd.C_below hr0 hb2) hc0 (((hb.trans hb').cell (by simp)).trans hc) t1 t2)
  have HN := aM hn
  have HDE := aM hdel
  clear hn hdel hcc c h1 hr0 hc0 eg
  go_enter Try.func55, Try.ntmps55
  go_wp2_with (first | (go_at_call 71; refine (HN.out _).mono ?_; rintro e w1 ⟨v1, rfl, ho1, hb1⟩; have HO1 := aM ho1; have HB1 := aM hb1; clear ho1 hb1) | (go_at_call 72; refine (HDE.out _ _ _ (by simp only [World.cell?, heap_alloc_new]; rfl) HO1.out HB1.out).mono ?_; rintro e w2 ⟨v2, rfl, ho2, hb2⟩))
  go_ret
  exact ⟨_, rfl, Kd.R_lower ho2 (by simp), ((Below.refl w.heap.size w).alloc (Nat.le_refl _) _).trans ((HB1.out.trans hb2).mono (by simp))⟩
 ·rw [if_neg c] at h
  exact absurd h (by simp)

end

section
/-! ### impl_canChain: function 37 -/
def impl_canChain.f (k : Nat) (l0 : List (S39)) : Option (Bool) := (impl_groups.f k l0).bind fun t275 => (if (t275.length : Int) ≤ 1 then ((impl_odd.f k l0).bind fun t278 => (some (decide ((t278.length : Int) ≤ 2)))) else (some false))
theorem impl_canChain.mono : ∀ a0 k, LeO (impl_canChain.f k a0) (impl_canChain.f (k + 1) a0) := by
 intro a0 k
 unfold impl_canChain.f
 repeat' first
   | (with_reducible exact impl_groups.mono _ _)
   | (with_reducible exact impl_odd.mono _ _)
   | (with_reducible exact LeO.refl _)
   | (with_reducible exact LeO.none _)
   | (with_reducible refine LeO.ite ?_ ?_)
   | (with_reducible refine LeO.bind ?_ (fun _ => ?_))
   | exact impl_groups.mono _ _
   | exact impl_odd.mono _ _
   | exact LeO.none _
   | refine LeO.ite ?_ ?_
   | refine LeO.bind ?_ (fun _ => ?_)
set_option maxHeartbeats 8000000 in
set_option maxRecDepth 100000 in
theorem impl_canChain.calls (k : Nat) (A0 : Option Addr) (c0 : Nat) (l0 : List (S39)) (r : Bool) (w : World) (hr0 : Kd.C k39 w A0 l0.length l0) (hc0 : l0.length ≤ c0) (h : impl_canChain.f k l0 = some r) :
  Calls Try.prog 37 #[.slice A0 l0.length c0] w fun e w' => e = .returned (.bool r) ∧ Below w.heap.size w w' := by
 have HR0 := aM hr0
 have HC0 := aM hc0
 clear hr0 hc0
 have HB := aM (Below.refl w.heap.size w)
 have H : ((impl_groups.f k l0).bind fun t275 => (if (t275.length : Int) ≤ 1 then ((impl_odd.f k l0).bind fun t278 => (some (decide ((t278.length : Int) ≤ 2)))) else (some false))) = some r := h
 clear h
 replace H := oB H
 obtain ⟨t275, A20, H⟩ := H
 replace H : (if (t275.length : Int) ≤ 1 then ((impl_odd.f k l0).bind fun t278 => (some (decide ((t278.length : Int) ≤ 2)))) else (some false)) = some r := H
 have A2 := aM A20
 clear A20
 by_cases c3 : (t275.length : Int) ≤ 1
 ·rw [if_pos c3] at H
  have c3b0 : decide ((t275.length : Int) ≤ 1) = true := decide_eq_true c3
  have c3b1 : decide (t275.length ≤ 1) = true := decide_eq_true (by omega)
  clear c3
  replace H := oB H
  obtain ⟨t278, A40, H⟩ := H
  replace H : (some (decide ((t278.length : Int) ≤ 2))) = some r := H
  have A4 := aM A40
  clear A40
  obtain rfl := Option.some.inj H
  go_enter Try.func37, Try.ntmps37
  go_wp2_with (first | ((with_reducible refine gate_callee (f := 54) rfl ?_); refine goesL_ (some 4) rfl rfl Try.func54 (by kernel_rfl) rfl #[.slice A0 l0.length c0] rfl (by (try simp only [List.map_toArray, List.map_cons, List.map_nil]); first | done | rfl | (simp only [List.length_drop, List.length_take]; rfl)) ?_; (with_reducible refine (impl_groups.calls k _ _ l0 t275 _ ?side1 ?side2 A2.out).mono ?_); (case side1 => repeat (first | exact HR0.out | (with_reducible refine Kd.C_alloc ?_ _) | (with_reducible refine Kd.C_drewN ?_ _) | (with_reducible refine Kd.C_drew ?_))); (case side2 => exact HC0.out); rintro e w5 ⟨v276, rfl, ho0, hb⟩; refine ⟨_, rfl, ?_⟩; have n0_ := aM (Kd.S_lower ho0 (below_size (by repeat (first | (with_reducible first | exact HB.out | apply bA | apply bN | apply bD) | exact HB.out)))); have n1_ := aM (below_step (by repeat (first | (with_reducible first | exact HB.out | apply bA | apply bN | apply bD) | exact HB.out)) hb); clear HB; have HO277 := n0_; have HB := n1_; clear n0_ n1_; (try clear hb); (try clear hb2); (try clear hk); (try clear hi); (try clear ho0); obtain ⟨Ao6, co6, eo6⟩ := Kd.S_slice HO277.out; subst eo6) | (go_at_call 55; (with_reducible refine (impl_odd.calls k _ _ l0 t278 _ ?side1 ?side2 A4.out).mono ?_); (case side1 => repeat (first | exact (Kd.C_below HR0.out HB.out) | (with_reducible refine Kd.C_alloc ?_ _) | (with_reducible refine Kd.C_drewN ?_ _) | (with_reducible refine Kd.C_drew ?_))); (case side2 => exact HC0.out); rintro e w7 ⟨v279, rfl, ho0, hb⟩; have n0_ := aM (Kd.S_elder' (by (with_reducible repeat (first | apply Kd.S_alloc | apply Kd.S_drewN | apply Kd.S_drew)); exact HO277.out) (Kd.R_base ho0) hb); have n1_ := aM (Kd.R_lower ho0 (below_size (by repeat (first | (with_reducible first | exact HB.out | apply bA | apply bN | apply bD) | exact HB.out)))); have n2_ := aM (below_step (by repeat (first | (with_reducible first | exact HB.out | apply bA | apply bN | apply bD) | exact HB.out)) hb); clear HO277; clear HB; have HO277 := n0_; have HO280 := n1_; have HB := n2_; clear n0_ n1_ n2_; (try clear hb); (try clear hb2); (try clear hk); (try clear hi); (try clear ho0); obtain ⟨Ao8, co8, eo8⟩ := Kd.R_slice HO280.out; subst eo8))
  go_ret
  exact ⟨by first | rfl | (simp [errW_none, errW_some] <;> rfl) | (simp [*, errW_none, errW_some] <;> rfl), by repeat (first | (with_reducible first | exact HB.out | apply bA | apply bN | apply bD) | exact HB.out)⟩
 ·rw [if_neg c3] at H
  have c3b0 : decide ((t275.length : Int) ≤ 1) = false := decide_eq_false c3
  have c3b1 : decide (t275.length ≤ 1) = false := decide_eq_false (by omega)
  clear c3
  obtain rfl := Option.some.inj H
  go_enter Try.func37, Try.ntmps37
  go_wp2_with (first | ((with_reducible refine gate_callee (f := 54) rfl ?_); refine goesL_ (some 4) rfl rfl Try.func54 (by kernel_rfl) rfl #[.slice A0 l0.length c0] rfl (by (try simp only [List.map_toArray, List.map_cons, List.map_nil]); first | done | rfl | (simp only [List.length_drop, List.length_take]; rfl)) ?_; (with_reducible refine (impl_groups.calls k _ _ l0 t275 _ ?side1 ?side2 A2.out).mono ?_); (case side1 => repeat (first | exact HR0.out | (with_reducible refine Kd.C_alloc ?_ _) | (with_reducible refine Kd.C_drewN ?_ _) | (with_reducible refine Kd.C_drew ?_))); (case side2 => exact HC0.out); rintro e w9 ⟨v276, rfl, ho0, hb⟩; refine ⟨_, rfl, ?_⟩; have n0_ := aM (Kd.S_lower ho0 (below_size (by repeat (first | (with_reducible first | exact HB.out | apply bA | apply bN | apply bD) | exact HB.out)))); have n1_ := aM (below_step (by repeat (first | (with_reducible first | exact HB.out | apply bA | apply bN | apply bD) | exact HB.out)) hb); clear HB; have HO277 := n0_; have HB := n1_; clear n0_ n1_; (try clear hb); (try clear hb2); (try clear hk); (try clear hi); (try clear ho0); obtain ⟨Ao10, co10, eo10⟩ := Kd.S_slice HO277.out; subst eo10))
  go_ret
  exact ⟨by first | rfl | (simp [errW_none, errW_some] <;> rfl) | (simp [*, errW_none, errW_some] <;> rfl), by repeat (first | (with_reducible first | exact HB.out | apply bA | apply bN | apply bD) | exact HB.out)⟩

end

end Go.Proofs.Ytnooegfhffhfpaa.P
