-- Printed by a program of this session (wip/myprint.py, which drives the kit's print): what one function of the program does, and the proof that its call does so.
import Derived.BigRegion
import Derived.Lib.SliceRun
import Derived.RegionTactic
import Derived.WalkSpells
import Derived.Test.YtepccigcdbimaaaP0
import Derived.Test.YtepccigcdbimaaaPIb
import Derived.Test.YtepccigcdbimaaaPSa
import Derived.Test.YtepccigcdbimaaaPimplspreadplay
import Derived.Test.YtepccigcdbimaaaPspeclyStateadd
namespace Go.Proofs.Ytepccigcdbimaaa.P
open Go.RowKit Go.Proofs.YtepccigcdbimaaaW.PrintWords Go.Proofs.YtepccigcdbimaaaW.PrintLast Go.Proofs.YtepccigcdbimaaaW.PrintMore
attribute [local go_sem] max2_int min2_int max_two min_two max_three min_three max_four min_four   -- for this text's walks alone
set_option linter.unusedVariables false
set_option linter.unusedSimpArgs false

section
/-! ### spec_lyNew: function 90: written by hand -/
def L0S : LyS := ⟨[], [], -1, -1, false, false, false⟩
set_option maxHeartbeats 8000000 in
set_option maxRecDepth 100000 in
theorem spec_lyNew.gcalls (w : World) :
    Calls Try.prog 90 #[] w fun e w' => e = .returned (.pointer (some ⟨w.heap.size, 0, none⟩)) ∧ LyAt w' w.heap.size w.heap.size L0S ∧ Below w.heap.size w w' ∧ w'.heap.size = w.heap.size + 1 := by
  go_enter Try.func90, Try.ntmps90
  go_wp2
  go_ret
  exact ⟨rfl, ⟨.slice none 0 0, .slice none 0 0, heap_alloc_new _ _, Kd.R_nil _ _ _ _ _, Kd.R_nil _ _ _ _ _⟩, (Below.refl _ _).alloc (Nat.le_refl _) _, by simp⟩

end

section
/-! ### spec_lyRead: function 64: written by hand -/
theorem tile_sameL (t x : S59) : (x.f0 == t.f0 && (x.f1 == t.f1)) = true ↔ t = x := by
  rw [Bool.and_eq_true, beq_iff_eq, beq_iff_eq]
  cases t; cases x
  constructor
  · rintro ⟨h1, h2⟩
    cases h1; cases h2; rfl
  · intro h; cases h; exact ⟨rfl, rfl⟩
theorem place_k (l : List S59) (hl : l.length ≤ 1000) (t : S59) : ∀ (d i k : Nat), i + d = l.length → d + 1 ≤ k → ∃ r : Int, spec_tiPlace.l0 k l (l.length : Int) (i : Int) t.f0 t.f1 = some r ∧ (r ≥ 0 ↔ t ∈ l.drop i) := by
  intro d
  induction d with
  | zero =>
    intro i k hi hk
    obtain ⟨k, rfl⟩ : ∃ m, k = m + 1 := ⟨k - 1, by omega⟩
    refine ⟨-1, ?_, ?_⟩
    · simp only [spec_tiPlace.l0]
      rw [if_neg (by omega)]
    · rw [List.drop_of_length_le (by omega)]; simp
  | succ d ih =>
    intro i k hi hk
    obtain ⟨k, rfl⟩ : ∃ m, k = m + 1 := ⟨k - 1, by omega⟩
    obtain ⟨r, h1, h2⟩ := ih (i + 1) k (by omega) (by omega)
    have hil : i < l.length := by omega
    have hrd : rd_T59 l (i : Int) = l[i] := by
      show l.getD (i : Int).toNat _ = _
      rw [Int.toNat_natCast, List.getD_eq_getElem?_getD, List.getElem?_eq_getElem hil]; rfl
    have hw : wrap64 ((i : Int) + 1) = ((i + 1 : Nat) : Int) := by unfold wrap64; omega
    by_cases c : t = l[i]
    · refine ⟨(i : Int), ?_, ?_⟩
      · simp only [spec_tiPlace.l0]
        rw [if_pos (by omega), if_pos (by omega), if_pos (by omega), hrd, if_pos ((tile_sameL _ _).2 c)]
      · rw [List.drop_eq_getElem_cons hil]
        exact ⟨fun _ => by rw [c]; exact List.mem_cons_self, fun _ => by omega⟩
    · refine ⟨r, ?_, ?_⟩
      · simp only [spec_tiPlace.l0]
        rw [if_pos (by omega), if_pos (by omega), if_pos (by omega), hrd, if_neg (fun e => c ((tile_sameL _ _).1 e)), hw]
        exact h1
      · rw [h2, List.drop_eq_getElem_cons hil, List.mem_cons]
        exact ⟨.inr, fun e => e.resolve_left c⟩
theorem tiPlace_k (l : List S59) (hl : l.length ≤ 28) (t : S59) (k : Nat) (hk : 40 ≤ k) : ∃ r : Int, (r ≥ 0 ↔ t ∈ l) ∧ spec_tiPlace.f k l t.f0 t.f1 = some r := by
  obtain ⟨r, h1, h2⟩ := place_k l (by omega) t l.length 0 k (by omega) (by omega)
  rw [List.drop_zero] at h2
  exact ⟨r, h2, h1⟩
/-- What plays make of the reference's state. -/
def runL : List S61 → LyS → Option LyS
  | [], s => some s
  | p :: r, s => (addL s p.f0 p.f1).bind fun s' => runL r s'
def readL (l : List S61) : Option LyS := if l.length > 28 then none else runL l L0S
def LyOk (s : LyS) : Prop := s.tiles.length ≤ 28 ∧ s.arms.length ≤ 2 * s.tiles.length + 2
theorem LyOk.step {s s' : LyS} (h : LyOk s) {t : S59} {a : Int} (e : addL s t a = some s') : LyOk s' := by
  obtain ⟨h1, h2⟩ := h
  unfold addL at e
  by_cases c : goodT t = true ∧ t ∉ s.tiles ∧ s.tiles.length < 28
  case neg => rw [if_neg c] at e; cases e
  rw [if_pos c] at e
  by_cases c2 : s.tiles = []
  · rw [if_pos c2] at e
    by_cases c3 : a = 0
    case neg => rw [if_neg c3] at e; cases e
    rw [if_pos c3] at e
    obtain rfl := Option.some.inj e
    unfold firstL LyOk
    exact ⟨by simp [c2], by simp⟩
  · rw [if_neg c2] at e
    by_cases c3 : 0 ≤ a ∧ a < s.arms.length
    case neg => rw [if_neg c3] at e; cases e
    rw [if_pos c3] at e
    by_cases c4 : hasB2 (rd_T93 s.arms a).f0 t = true
    case neg => rw [if_neg c4] at e; cases e
    rw [if_pos c4] at e
    obtain rfl := Option.some.inj e
    have hc := c.2.2
    unfold nextL LyOk
    simp only
    refine ⟨by rw [List.length_append, List.length_singleton]; omega, ?_⟩
    split
    · rw [List.length_append, List.length_append, List.length_set]; simp; omega
    · rw [List.length_append, List.length_set]; simp; omega
theorem runL_ok : ∀ (l : List S61) (s s' : LyS), LyOk s → runL l s = some s' → LyOk s'
  | [], s, s', h, e => by cases e; exact h
  | p :: r, s, s', h, e => by
    obtain ⟨s1, e1, e2⟩ := Option.bind_eq_some_iff.1 e
    exact runL_ok r s1 s' (h.step e1) e2
theorem readL_ok {l : List S61} {s : LyS} (e : readL l = some s) : LyOk s := by
  unfold readL at e
  split at e
  · cases e
  · exact runL_ok l _ _ ⟨by simp [L0S], by simp [L0S]⟩ e
set_option maxHeartbeats 8000000 in
set_option maxRecDepth 100000 in
theorem spec_lyRead.gcalls (k : Nat) (hk : 40 ≤ k) (A0 : Option Addr) (c0 : Nat) (l0 : List S61) (w : World) (hr0 : Kd.C k61 w A0 l0.length l0) (hc0 : l0.length ≤ c0) (o : Option LyS) (ho : readL l0 = o) :
    Calls Try.prog 64 #[.slice A0 l0.length c0] w fun e w' => e = .returned (.tuple #[.pointer (some ⟨w.heap.size, 0, none⟩), .bool o.isSome]) ∧ (∀ s, o = some s → LyAt w' w.heap.size w.heap.size s) ∧ Below w.heap.size w w' ∧ w.heap.size < w'.heap.size := by
  have HR0 := Aside0.mk hr0
  have HO := Aside0.mk ho
  have hlen : l0.length ≤ 9223372036854775807 := hr0.2.1
  clear hr0 ho
  go_enter Try.func64, Try.ntmps64
  by_cases c28 : l0.length > 28
  · have c28z : (l0.length : Int) > 28 := by omega
    have ho2 : o = none := by have := HO.out; unfold readL at this; rw [if_pos c28] at this; exact this.symm
    subst ho2
    go_wp2_with (go_at_call 90; refine (spec_lyNew.gcalls _).mono ?_; rintro e w1 ⟨rfl, hs1, hb1, hz1⟩; have HB1 := Aside0.mk hb1; have HZ1 := Aside0.mk hz1; clear hs1 hb1 hz1)
    go_ret2
    exact ⟨rfl, (fun s h => by cases h), HB1.out, by have := HZ1.out; omega⟩
  have c28z : ¬ (l0.length : Int) > 28 := by omega
  have HRUN : Aside0 (runL l0 L0S = o) := ⟨by have := HO.out; unfold readL at this; rw [if_neg c28] at this; exact this⟩
  clear HO
  go_wp2_with (go_at_call 90; refine (spec_lyNew.gcalls _).mono ?_; rintro e w1 ⟨rfl, hs1, hb1, hz1⟩; have HS1 := Aside0.mk hs1; have HB1 := Aside0.mk hb1; have HZ1 := Aside0.mk hz1; clear hs1 hb1 hz1)
  go_loopg [14] l0.length (fun gg s14 wr => ∃ (i : Nat) (s : LyS), s14 = .int .i64 i ∧ i ≤ l0.length ∧ l0.length - i ≤ gg ∧ LyOk s ∧ Aside0 (runL (l0.drop i) s = o) ∧ Aside0 (LyAt wr w.heap.size w.heap.size s) ∧ Aside0 (Below w.heap.size w wr) ∧ Aside0 (w.heap.size < wr.heap.size))
  case atStart =>
    exact ⟨0, L0S, rfl, by omega, by omega, ⟨by simp [L0S], by simp [L0S]⟩, ⟨HRUN.out⟩, HS1, HB1, ⟨by have := HZ1.out; omega⟩⟩
  case round =>
    obtain ⟨i, s, rfl, hi, hg, HOK, HRS, HSP, HB, HSZ⟩ := hrel
    by_cases hlt : i < l0.length
    · have hltz : (i : Int) < (l0.length : Int) := by omega
      obtain ⟨x, hx⟩ : ∃ x, l0[i]? = some x := ⟨_, List.getElem?_eq_getElem hlt⟩
      have hrdx : rd_T61 l0 (i : Int) = x := by
        show l0.getD (i : Int).toNat _ = x
        rw [Int.toNat_natCast, List.getD_eq_getElem?_getD, hx]; rfl
      obtain ⟨ad, rfl, ha0, ha1, ha2⟩ := at_T61 (Kd.C_below HR0.out HB.out) (i : Int) (by omega) hltz
      rw [hrdx, Int.toNat_natCast] at ha0 ha1 ha2
      have hbl0 := World.block_lt_of_cell? _ _ ha0
      obtain ⟨po, hpo⟩ : ∃ q, q = addL s x.f0 x.f1 := ⟨_, rfl⟩
      have hdr : l0.drop i = x :: l0.drop (i + 1) := by
        rw [List.drop_eq_getElem_cons hlt]
        rw [List.getElem?_eq_getElem hlt] at hx
        cases hx; rfl
      have hrs : (po.bind fun s' => runL (l0.drop (i + 1)) s') = o := by rw [hpo]; have := HRS.out; rw [hdr] at this; exact this
      have HW1 := Aside0.mk (show (wr.alloc (.cells #[.int .i64 x.f0.f0, .int .i64 x.f0.f1, .int .i64 x.f1] 61)).heap.size = wr.heap.size + 1 by simp)
      obtain ⟨pl, hpl1, hpl2⟩ := tiPlace_k _ HOK.1 x.f0 k hk
      have hpl : Calls Try.prog 70 #[.pointer (some ⟨w.heap.size, 0, none⟩), .agg #[.int .i64 x.f0.f0, .int .i64 x.f0.f1, .int .i64 x.f1]] (wr.alloc (.cells #[.int .i64 x.f0.f0, .int .i64 x.f0.f1, .int .i64 x.f1] 61)) fun e W' => e = .returned (.bool po.isSome) ∧ LyAt W' w.heap.size w.heap.size (po.getD s) ∧ Below w.heap.size (wr.alloc (.cells #[.int .i64 x.f0.f0, .int .i64 x.f0.f1, .int .i64 x.f1] 61)) W' :=
        spec_lyState_add.gcalls k w.heap.size w.heap.size s x.f0 x.f1 po hpo.symm _ (HSP.out.below ((Below.refl _ _).alloc (Nat.le_refl _) _)) (Nat.le_refl _) (by have := HW1.out; have := HSZ.out; omega) pl hpl1 hpl2 ⟨by have := HOK.2; have := HOK.1; omega, HOK.1⟩
      have HPL := Aside0.mk hpl
      have HRR := Aside0.mk hrs
      have HPO := Aside0.mk hpo
      clear hpl hrs hpo hx hrdx hdr HRS hpl1 hpl2
      cases po with
      | some s1 =>
        go_wp2_with (go_at_call 70; refine HPL.out.mono ?_; rintro e w2 ⟨rfl, hs2, hb2⟩; have HS2 := Aside0.mk hs2; have HB2 := Aside0.mk hb2; clear hs2 hb2)
        go_roundg (l0.length - (i + 1))
        case measure => omega
        case rel =>
          have hsz := HB2.out.size
          have hw1 := HW1.out
          exact ⟨i + 1, s1, by go_num, by omega, Nat.le_refl _, HOK.step HPO.out.symm, ⟨HRR.out⟩, HS2, ⟨(HB.out.alloc HB.out.size _).trans HB2.out⟩, ⟨by have := HSZ.out; omega⟩⟩
      | none =>
        have ho2 : o = none := HRR.out.symm
        subst ho2
        go_wp2_with (go_at_call 70; refine HPL.out.mono ?_; rintro e w2 ⟨rfl, hs2, hb2⟩; have HB2 := Aside0.mk hb2; clear hs2 hb2)
        go_ret2
        exact ⟨rfl, (fun s h => by cases h), (HB.out.alloc HB.out.size _).trans HB2.out, by have := HB2.out.size; have := HW1.out; have := HSZ.out; omega⟩
    · obtain rfl : i = l0.length := by omega
      have hltz : ¬ (l0.length : Int) < (l0.length : Int) := by omega
      have hos : o = some s := by have := HRS.out; rw [List.drop_length] at this; exact this.symm
      subst hos
      go_wp2
      go_ret2
      exact ⟨by first | rfl | simp, by first | exact HSP.out | exact (fun s' h => by cases h; exact HSP.out), HB.out, HSZ.out⟩

end

section
/-! ### spec_IsSpread: function 30: written by hand -/
def spec_IsSpread.f (k : Nat) (l0 : List S61) : Option (Bool) := if 40 ≤ k then some ((readL l0).isSome) else none
theorem spec_IsSpread.mono : ∀ a0 k, LeO (spec_IsSpread.f k a0) (spec_IsSpread.f (k + 1) a0) := by
  intro a0 k r h
  unfold spec_IsSpread.f at h ⊢
  by_cases c : 40 ≤ k
  · rw [if_pos c] at h; rw [if_pos (by omega)]; exact h
  · rw [if_neg c] at h; cases h
set_option maxHeartbeats 4000000 in
set_option maxRecDepth 100000 in
theorem spec_IsSpread.calls (k : Nat) (A0 : Option Addr) (c0 : Nat) (l0 : List S61) (r : Bool) (w : World) (hr0 : Kd.C k61 w A0 l0.length l0) (hc0 : l0.length ≤ c0) (h : spec_IsSpread.f k l0 = some r) :
    Calls Try.prog 30 #[.slice A0 l0.length c0] w fun e w' => e = .returned (.bool r) ∧ Below w.heap.size w w' := by
  unfold spec_IsSpread.f at h
  by_cases c : 40 ≤ k
  case neg => rw [if_neg c] at h; cases h
  rw [if_pos c] at h
  have h2 := Option.some.inj h
  obtain ⟨o, ho⟩ : ∃ o, o = readL l0 := ⟨_, rfl⟩
  rw [← ho] at h2
  have HSO := Aside0.mk (spec_lyRead.gcalls k c A0 c0 l0 w hr0 hc0 o ho.symm)
  clear hr0 hc0 ho h
  subst h2
  go_enter Try.func30, Try.ntmps30
  go_wp2_with (go_at_call 64; refine (HSO.out).mono ?_; rintro e w2 ⟨rfl, hs, hb, hz⟩; have HB := Aside0.mk hb; clear hs hb hz)
  go_ret
  exact ⟨by first | rfl | simp, HB.out⟩

end

end Go.Proofs.Ytepccigcdbimaaa.P
