-- Printed by a program of this session (wip/myprint.py, which drives the kit's print): what one function of the program does, and the proof that its call does so.
import Derived.BigQuiet
import Derived.BigRegion
import Derived.ChangeKeysEq
import Derived.Deep.Cut
import Derived.Deep.RegionHeld3
import Derived.Deep.RegionWith
import Derived.Lib.SliceRun
import Derived.RegionTactic
import Derived.WalkSpells
import Derived.Test.YtnooegfhffhfpaaP0
import Derived.Test.YtnooegfhffhfpaaPIa
import Derived.Test.YtnooegfhffhfpaaPIf
import Derived.Test.YtnooegfhffhfpaaPIg4
import Derived.Test.YtnooegfhffhfpaaPIw
namespace Go.Proofs.Ytnooegfhffhfpaa.P
open Go.RowKit Go.Proofs.YtnooegfhffhfpaaW.PrintWords Go.Proofs.YtnooegfhffhfpaaW.PrintLast Go.Proofs.YtnooegfhffhfpaaW.PrintMore
attribute [local go_sem] max2_int min2_int max_two min_two max_three min_three max_four min_four   -- for this text's walks alone
set_option linter.unusedVariables false
set_option linter.unusedSimpArgs false

section
/-! ### impl_countWhole_1: function 39: written by hand -/
/-- In how many ways doubles can be put into a chain. -/
def waysN (own chain : List Int) : Int := own.foldl (fun w n => wrap64 (w * (chain.count n : Int))) 1
theorem C_cellN {W : World} {A : Option Addr} {l : List Int} (h : Kd.C (Kd.int .i64) W A l.length l) (i : Nat) (x : Int) (hx : l[i]? = some x) : ∃ ad, A = some ad ∧ W.cell? (ad.add i) = some (.int .i64 x) := by
 have hlt := (List.getElem?_eq_some_iff.1 hx).1
 obtain ⟨ad, c, e, hs, hK, hc⟩ := ReadsRow.get_ h (0 : Int) (i : Int) (by omega) (by omega)
 have h2 := hc 0 (.int .i64 (l.getD (i : Int).toNat 0)) (by rw [show c = [.int .i64 (l.getD (i : Int).toNat 0)] from hK]; rfl)
 have e2 : l.getD (i : Int).toNat 0 = x := by rw [Int.toNat_natCast, List.getD_eq_getElem?_getD, hx]; rfl
 rw [e2] at h2
 exact ⟨ad, e, by simpa [show (Kd.int .i64).sz = 1 from rfl] using h2⟩
theorem lt_heapN {W : World} {g : Nat} {o : Obj} (h : W.heap[g]? = some o) : g < W.heap.size := (Array.getElem?_eq_some_iff.1 h).1
theorem heap_cellN {W : World} {g : Nat} {v : Value} {T : TypeId} (h : W.heap[g]? = some (.cells #[v] T (0, 0))) : W.cell? ⟨g, 0, none⟩ = some v ∧ W.frozen? ⟨g, 0, none⟩ = false := by
 refine ⟨?_, by simp [World.frozen?, h]⟩
 simp only [World.cell?, h]; rfl
theorem waysN_snoc (own chain : List Int) (i : Nat) (n : Int) (h : own[i]? = some n) : waysN (own.take (i + 1)) chain = wrap64 (waysN (own.take i) chain * (chain.count n : Int)) := by
 unfold waysN
 rw [List.take_add_one, h, Option.toList_some, List.foldl_append]
 rfl
theorem count_snoc (l : List Int) (j : Nat) (x n : Int) (h : l[j]? = some x) : ((l.take (j + 1)).count n : Int) = ((l.take j).count n : Int) + (if x = n then 1 else 0) := by
 rw [List.take_add_one, h, Option.toList_some, List.count_append, List.count_singleton]
 by_cases e : x = n
 ·simp [e]
 ·simp [e]
set_option maxHeartbeats 8000000 in
set_option maxRecDepth 100000 in
theorem impl_countWhole_1.gcalls (chain : List Int) (A : Option Addr) (c : Nat) (own : List Int) (Ao : Option Addr) (co : Nat) (bO bL : Nat) (a : Int) (W : World) (hC : Kd.C (Kd.int .i64) W A chain.length chain) (hown : Kd.C (Kd.int .i64) W Ao own.length own)
  (hbO : W.cell? ⟨bO, 0, none⟩ = some (.slice Ao own.length co)) (hbL : W.heap[bL]? = some (.cells #[.int .i64 a] 3 (0, 0))) (hlc : chain.length ≤ 1000) (hlo : own.length ≤ 1000) :
  Calls Try.prog 39 #[.slice A chain.length c, .pointer (some ⟨bO, 0, none⟩), .pointer (some ⟨bL, 0, none⟩)] W fun e W' => e = .returned (.tuple #[]) ∧ W'.heap[bL]? = some (.cells #[.int .i64 (wrap64 (a + waysN own chain))] 3 (0, 0)) ∧ W.grownBy W' (some bL) := by
 have HC := aM hC
 have HOW := aM hown
 have HL := aM hbL
 clear hC hown hbL
 go_enter Try.func39, Try.ntmps39
 go_wp2
 go_loopg [4, 12] own.length (fun gg s4 s12 wx => ∃ i : Nat, s12 = .int .i64 i ∧ i ≤ own.length ∧ own.length - i ≤ gg ∧ s4 = .int .i64 (waysN (own.take i) chain) ∧ Aside0 (Below W.heap.size W wx))
 case atStart => exact ⟨0, rfl, Nat.zero_le _, by omega, rfl, ⟨Below.refl _ _⟩⟩
 case round =>
  obtain ⟨i, rfl, hi, hgg, rfl, HB⟩ := hrel
  by_cases hlt : i < own.length
  ·have hltz : (i : Int) < (own.length : Int) := by omega
   obtain ⟨n, hn⟩ : ∃ n, own[i]? = some n := ⟨_, List.getElem?_eq_getElem hlt⟩
   obtain ⟨ado, rfl, hcello⟩ := C_cellN (Kd.C_below HOW.out HB.out) i n hn
   have HN := aM hn
   have HWS := aM (waysN_snoc own chain i n hn)
   obtain ⟨ww, hww⟩ : ∃ x, x = waysN (own.take i) chain := ⟨_, rfl⟩
   rw [← hww] at HWS
   rw [← hww]
   have HWW := aM hww
   clear hn hww
   go_wp2
   go_loopg [7, 18] chain.length (fun gh s7 s18 wy => ∃ j : Nat, s18 = .int .i64 j ∧ j ≤ chain.length ∧ chain.length - j ≤ gh ∧ s7 = .int .i64 ((chain.take j).count n : Int) ∧ Aside0 (Below W.heap.size W wy))
   case atStart => exact ⟨0, rfl, Nat.zero_le _, by omega, rfl, HB⟩
   case round =>
    obtain ⟨j, rfl, hj, hgh, rfl, HB2⟩ := hrel
    by_cases hjt : j < chain.length
    ·have hjz : (j : Int) < (chain.length : Int) := by omega
     obtain ⟨x, hx⟩ : ∃ x, chain[j]? = some x := ⟨_, List.getElem?_eq_getElem hjt⟩
     obtain ⟨adc, hA, hcellc⟩ := C_cellN (Kd.C_below HC.out HB2.out) j x hx
     subst hA
     have HCS := aM (count_snoc chain j x n hx)
     have hcb : (chain.take j).count n ≤ 1000 := Nat.le_trans List.count_le_length (by rw [List.length_take]; omega)
     obtain ⟨q, hq⟩ : ∃ q, q = (chain.take j).count n := ⟨_, rfl⟩
     rw [← hq] at hcb HCS
     rw [← hq]
     clear hx hq
     by_cases e : x = n
     ·have HE := aM e
      have hbt : Calls Try.prog 40 #[.bool true] wr fun e w' => e = .returned (.int .i64 1) ∧ Drawn0 wr w' := impl_bit.calls true 1 wr rfl
      have HBT : Aside0 (∀ w, Calls Try.prog 40 #[.bool true] w fun e w' => e = .returned (.int .i64 1) ∧ Drawn0 w w') := ⟨fun w => impl_bit.calls true 1 w rfl⟩
      have hd1 : (x == n) = true := by rw [e]; exact beq_self_eq_true n
      have hd2 : decide (x = n) = true := decide_eq_true e
      clear hbt e
      go_wp2_with (go_at_call 40; refine (HBT.out _).mono ?_; rintro e w2 ⟨rfl, hd⟩; have HD := aM hd.below; clear hd)
      go_roundg (chain.length - (j + 1))
      case measure => omega
      case rel => exact ⟨j + 1, by go_num, by omega, Nat.le_refl _, by rw [HCS.out, if_pos HE.out], ⟨below_then HB2.out HB2.out.size HD.out⟩⟩
     ·have HE := aM e
      have HBT : Aside0 (∀ w, Calls Try.prog 40 #[.bool false] w fun e w' => e = .returned (.int .i64 0) ∧ Drawn0 w w') := ⟨fun w => impl_bit.calls false 0 w rfl⟩
      have hd1 : (x == n) = false := beq_eq_false_iff_ne.2 e
      have hd2 : decide (x = n) = false := decide_eq_false e
      clear e
      go_wp2_with (go_at_call 40; refine (HBT.out _).mono ?_; rintro e w2 ⟨rfl, hd⟩; have HD := aM hd.below; clear hd)
      go_roundg (chain.length - (j + 1))
      case measure => omega
      case rel => exact ⟨j + 1, by go_num, by omega, Nat.le_refl _, by rw [HCS.out, if_neg HE.out]; go_num, ⟨below_then HB2.out HB2.out.size HD.out⟩⟩
    ·obtain rfl : j = chain.length := by omega
     have hjz : ¬ (chain.length : Int) < (chain.length : Int) := by omega
     rw [List.take_length]
     go_wp2
     go_roundg (own.length - (i + 1))
     case measure => omega
     case rel => exact ⟨i + 1, by go_num, by omega, Nat.le_refl _, by rw [HWS.out], HB2⟩
  ·obtain rfl : i = own.length := by omega
   have hltz : ¬ (own.length : Int) < (own.length : Int) := by omega
   rw [List.take_length]
   have hbl := lt_heapN HL.out
   have hL2 : wr.heap[bL]? = some (.cells #[.int .i64 a] 3 (0, 0)) := (HB.out.block _ hbl).trans HL.out
   have HL2 := aM hL2
   obtain ⟨hc0, hf0⟩ := heap_cellN hL2
   clear hL2 hbl
   go_wp2
   go_end0
   exact ⟨rfl, by rw [heap_setCell_at HL2.out]; simp, ⟨HB.out.os, HB.out.tape, HB.out.output, by simpa [World.setCell] using HB.out.size, fun k hk hne => by
    rw [Below.heap_setCell wr ⟨bL, 0, none⟩ _ k (fun e => hne (by rw [e]))]
    exact HB.out.block k hk⟩⟩

end

section
/-! ### impl_wholes_1: function 56: written by hand -/
def hasN (n : Int) (t : S39) : Bool := if t.f0 = n then true else t.f1 == n
def otherN (n : Int) (t : S39) : Int := wrap64 (wrap64 (t.f0 + t.f1) - n)
/-- What becomes of a number while the whole chains that begin so are gone through. -/
def addW (each : List Int → Int → Int) : Nat → List Int → List S39 → Int → Int
 | 0, chain, _, a => each chain a
 | m + 1, chain, left, a => if left = [] then each chain a else (List.range left.length).foldl (fun a i => match left[i]? with
  | some t => if hasN (chain.getLast?.getD 0) t = true then addW each m (chain ++ [otherN (chain.getLast?.getD 0) t]) (left.eraseIdx i) a else a
  | none => a) a
/-- How a list can be read as long as no block but one is changed. -/
def CKI (W : World) (bL : Nat) (A : Option Addr) (l : List Int) : Prop := ∀ W', W.grownBy W' (some bL) → Kd.C (Kd.int .i64) W' A l.length l
def CKT (W : World) (bL : Nat) (A : Option Addr) (l : List S39) : Prop := ∀ W', W.grownBy W' (some bL) → Kd.C k39 W' A l.length l
theorem grown_trans {W W1 W2 : World} {b : Option Nat} (h : W.grownBy W1 b) (h2 : W1.grownBy W2 b) : W.grownBy W2 b :=
 ⟨h2.os.trans h.os, h2.tape.trans h.tape, h2.output.trans h.output, Nat.le_trans h.size h2.size, fun k hk hne => (h2.block k (Nat.lt_of_lt_of_le hk h.size) hne).trans (h.block k hk hne)⟩
theorem grown_refl (W : World) (b : Option Nat) : W.grownBy W b := ⟨rfl, rfl, rfl, Nat.le_refl _, fun _ _ _ => rfl⟩
theorem grown_of_belowN {W W1 : World} {b : Option Nat} (h : Below W.heap.size W W1) : W.grownBy W1 b := ⟨h.os, h.tape, h.output, h.size, fun k hk _ => h.block k hk⟩
theorem CKI.step {W W1 : World} {bL : Nat} {A : Option Addr} {l : List Int} (h : CKI W bL A l) (hg : W.grownBy W1 (some bL)) : CKI W1 bL A l := fun W' h2 => h W' (grown_trans hg h2)
theorem CKT.step {W W1 : World} {bL : Nat} {A : Option Addr} {l : List S39} (h : CKT W bL A l) (hg : W.grownBy W1 (some bL)) : CKT W1 bL A l := fun W' h2 => h W' (grown_trans hg h2)
theorem CKI.here {W : World} {bL : Nat} {A : Option Addr} {l : List Int} (h : CKI W bL A l) : Kd.C (Kd.int .i64) W A l.length l := h W (grown_refl _ _)
theorem CKT.here {W : World} {bL : Nat} {A : Option Addr} {l : List S39} (h : CKT W bL A l) : Kd.C k39 W A l.length l := h W (grown_refl _ _)
theorem CKI.own {W : World} {base bL : Nat} {v : Value} {l : List Int} (h : Kd.R (Kd.int .i64) 3 W base (fun _ => True) v l) (hb : bL < base) : ∃ A c, v = .slice A l.length c ∧ l.length ≤ c ∧ CKI W bL A l := by
 obtain ⟨A, c, rfl, hc, _⟩ := Kd.R_reads h
 have h2 : Kd.R (Kd.int .i64) 3 W base (fun k => base ≤ k) (.slice A l.length c) l := Kd.R_mono (Kd.R_bound h) fun k hk => hk.2.1
 exact ⟨A, c, rfl, hc, fun W' hg => (Kd.R_reads' (Kd.R_grown h2 hg (fun k hk e => absurd (Option.some.inj e) (Nat.ne_of_gt (Nat.lt_of_lt_of_le hb hk))))).2.2⟩
theorem CKT.own {W : World} {base bL : Nat} {v : Value} {l : List S39} (h : Kd.R k39 39 W base (fun _ => True) v l) (hb : bL < base) : ∃ A c, v = .slice A l.length c ∧ l.length ≤ c ∧ CKT W bL A l := by
 obtain ⟨A, c, rfl, hc, _⟩ := Kd.R_reads h
 have h2 : Kd.R k39 39 W base (fun k => base ≤ k) (.slice A l.length c) l := Kd.R_mono (Kd.R_bound h) fun k hk => hk.2.1
 exact ⟨A, c, rfl, hc, fun W' hg => (Kd.R_reads' (Kd.R_grown h2 hg (fun k hk e => absurd (Option.some.inj e) (Nat.ne_of_gt (Nat.lt_of_lt_of_le hb hk))))).2.2⟩
/-- The machine while chains are counted: the number in block bL, the boxes of the two closures, the doubles. -/
structure WInv (own : List Int) (Ao : Option Addr) (co bO bL bE bA : Nat) (a : Int) (W : World) : Prop where
 L : W.heap[bL]? = some (.cells #[.int .i64 a] 3 (0, 0))
 E : W.cell? ⟨bE, 0, none⟩ = some (.func (.func 39) #[] #[.pointer (some ⟨bO, 0, none⟩), .pointer (some ⟨bL, 0, none⟩)])
 A : W.cell? ⟨bA, 0, none⟩ = some (.func (.func 56) #[] #[.pointer (some ⟨bE, 0, none⟩), .pointer (some ⟨bA, 0, none⟩)])
 O : W.cell? ⟨bO, 0, none⟩ = some (.slice Ao own.length co)
 C : CKI W bL Ao own
 ne : bE ≠ bL ∧ bA ≠ bL ∧ bO ≠ bL
theorem WInv.step {own : List Int} {Ao : Option Addr} {co bO bL bE bA : Nat} {a a' : Int} {W W' : World} (h : WInv own Ao co bO bL bE bA a W) (hg : W.grownBy W' (some bL)) (hL : W'.heap[bL]? = some (.cells #[.int .i64 a'] 3 (0, 0))) : WInv own Ao co bO bL bE bA a' W' :=
 ⟨hL, hg.cell h.E (by simpa using h.ne.1), hg.cell h.A (by simpa using h.ne.2.1), hg.cell h.O (by simpa using h.ne.2.2), h.C.step hg, h.ne⟩
theorem WInv.below {own : List Int} {Ao : Option Addr} {co bO bL bE bA : Nat} {a : Int} {W W' : World} (h : WInv own Ao co bO bL bE bA a W) (hb : Below W.heap.size W W') : WInv own Ao co bO bL bE bA a W' :=
 h.step (grown_of_belowN hb) ((hb.block _ (lt_heapN h.L)).trans h.L)
theorem cell_bN {W W' : World} {a : Addr} {v : Value} (h : W.cell? a = some v) (hb : Below W.heap.size W W') : W'.cell? a = some v := (hb.cell (World.block_lt_of_cell? _ _ h)).trans h
set_option maxHeartbeats 8000000 in
set_option maxRecDepth 100000 in
theorem impl_wholes_1.gcalls (own : List Int) (Ao : Option Addr) (co bO bL bE bA : Nat) (hlo : own.length ≤ 1000) : ∀ (m : Nat) (left : List S39) (chain : List Int) (a : Int) (W : World) (Ac : Option Addr) (cc : Nat) (Al : Option Addr) (cl : Nat), left.length ≤ m → chain ≠ [] → chain.length + left.length ≤ 900 → chain.length ≤ cc → left.length ≤ cl → CKI W bL Ac chain → CKT W bL Al left → WInv own Ao co bO bL bE bA a W →
  Calls Try.prog 56 #[.slice Ac chain.length cc, .slice Al left.length cl, .pointer (some ⟨bE, 0, none⟩), .pointer (some ⟨bA, 0, none⟩)] W fun e W' => e = .returned (.tuple #[]) ∧ WInv own Ao co bO bL bE bA (addW (fun ch a => wrap64 (a + waysN own ch)) m chain left a) W' ∧ W.grownBy W' (some bL) := by
 have eg39 : ∀ args w, (callFunc 39 args).run Try.prog w = .ok (.enter 39 args) w := enters_of Try.func39 (by kernel_rfl) rfl
 have eg56 : ∀ args w, (callFunc 56 args).run Try.prog w = .ok (.enter 56 args) w := enters_of Try.func56 (by kernel_rfl) rfl
 have base : ∀ (m : Nat) (chain : List Int) (a : Int) (W : World) (Ac : Option Addr) (cc : Nat) (Al : Option Addr) (cl : Nat), chain.length ≤ 900 → CKI W bL Ac chain → WInv own Ao co bO bL bE bA a W →
   Calls Try.prog 56 #[.slice Ac chain.length cc, .slice Al 0 cl, .pointer (some ⟨bE, 0, none⟩), .pointer (some ⟨bA, 0, none⟩)] W fun e W' => e = .returned (.tuple #[]) ∧ WInv own Ao co bO bL bE bA (wrap64 (a + waysN own chain)) W' ∧ W.grownBy W' (some bL) := by
  intro m chain a W Ac cc Al cl hl hC HI
  have HCALL := aM (impl_countWhole_1.gcalls chain Ac cc own Ao co bO bL a W hC.here HI.C.here HI.O HI.L (by omega) hlo)
  have hE := HI.E
  have HI2 := aM HI
  clear HI hC eg56
  go_enter Try.func56, Try.ntmps56
  go_wp2_with (go_at_fn 39; refine HCALL.out.mono ?_; rintro e w1 ⟨rfl, hl1, hg1⟩)
  refine bodyPost_ret (results_none rfl _ _ _) rfl ⟨rfl, HI2.out.step hg1 hl1, hg1⟩
 intro m
 induction m with
 | zero =>
  intro left chain a W Ac cc Al cl hm hne hsum hcc hcl hC hT HI
  obtain rfl : left = [] := List.length_eq_zero_iff.1 (by omega)
  exact base 0 chain a W Ac cc Al cl (by simp at hsum; omega) hC HI
 | succ m ih =>
  intro left chain a W Ac cc Al cl hm hne hsum hcc hcl hC hT HI
  by_cases hz : left = []
  ·subst hz
   have := base 0 chain a W Ac cc Al cl (by simp at hsum; omega) hC HI
   simpa [addW] using this
  obtain ⟨p, hp⟩ : ∃ p, chain.length = p + 1 := ⟨chain.length - 1, by have := List.length_pos_iff.2 hne; omega⟩
  obtain ⟨la, hla⟩ : ∃ x, chain[p]? = some x := ⟨_, List.getElem?_eq_getElem (by omega)⟩
  have hlast : chain.getLast?.getD 0 = la := by rw [List.getLast?_eq_getElem?, hp, Nat.add_sub_cancel, hla]; rfl
  obtain ⟨stp, hstp⟩ : ∃ f : Int → Nat → Int, f = fun a i => match left[i]? with
   | some t => if hasN (chain.getLast?.getD 0) t = true then addW (fun ch a => wrap64 (a + waysN own ch)) m (chain ++ [otherN (chain.getLast?.getD 0) t]) (left.eraseIdx i) a else a
   | none => a := ⟨_, rfl⟩
  have hadd : addW (fun ch a => wrap64 (a + waysN own ch)) (m + 1) chain left a = (List.range left.length).foldl stp a := by
   rw [hstp]; simp only [addW]; rw [if_neg hz]
  rw [hadd]
  have HSTP := aM hstp
  have HCC := aM hC
  have HTT := aM hT
  have HLA := aM (And.intro hla hlast)
  have HII := aM HI
  have HIH := aM ih
  have HE39 := aM eg39
  have HSUM := aM (And.intro hsum (And.intro hm (And.intro hcc hcl)))
  have hp900 : p ≤ 900 := by omega
  have hpos : ¬ left.length = 0 := fun e => hz (List.length_eq_zero_iff.1 e)
  have hposz : ¬ (left.length : Int) = 0 := by omega
  have hlb : ((left.length : Int) == 0) = false := by rw [beq_eq_false_iff_ne]; exact hposz
  have hzl : ¬ left = [] := hz
  rw [hp]
  clear hC hT HI ih hstp hadd hla hlast eg39 base hsum hm hcc hcl hne
  go_enter Try.func56, Try.ntmps56
  go_wp2
  go_loopg [17] left.length (fun gg s17 wx => ∃ i : Nat, s17 = .int .i64 i ∧ i ≤ left.length ∧ left.length - i ≤ gg ∧ Aside0 (WInv own Ao co bO bL bE bA ((List.range i).foldl stp a) wx) ∧ Aside0 (W.grownBy wx (some bL)))
  case atStart => exact ⟨0, rfl, Nat.zero_le _, by omega, HII, ⟨grown_refl _ _⟩⟩
  case round =>
   clear HII
   obtain ⟨i, rfl, hi, hgg, HI, HG⟩ := hrel
   by_cases hlt : i < left.length
   ·have hltz : (i : Int) < (left.length : Int) := by omega
    obtain ⟨t, ht⟩ : ∃ x, left[i]? = some x := ⟨_, List.getElem?_eq_getElem hlt⟩
    have hrd : rd_T39 left (i : Int) = t := by
     show left.getD (i : Int).toNat _ = t
     rw [Int.toNat_natCast, List.getD_eq_getElem?_getD, ht]; rfl
    obtain ⟨adl, hAl, ha0, ha1⟩ := at_T39 (HTT.out wr HG.out) (i : Int) (by omega) hltz
    subst hAl
    rw [hrd, Int.toNat_natCast] at ha0 ha1
    obtain ⟨adc, hAc, hcell⟩ := C_cellN (HCC.out wr HG.out) p la HLA.out.1
    subst hAc
    have hcellA := fun o => Lib.cell?_alloc_some (W := wr) o hcell
    have hbl1 := World.block_lt_of_cell? _ _ hcell
    have hbl2 := World.block_lt_of_cell? _ _ ha0
    have hi900 : i ≤ 900 := by have := HSUM.out.1; omega
    have HHAS : Aside0 (∀ w, Calls Try.prog 57 #[.agg #[.int .i64 t.f0, .int .i64 t.f1], .int .i64 la] w fun e w' => e = .returned (.bool (hasN la t)) ∧ Below w.heap.size w w') :=
     ⟨fun w => impl_Tile_has.calls t.f0 t.f1 la (hasN la t) w (by unfold impl_Tile_has.f hasN; split <;> rfl)⟩
    have HFOLD : Aside0 ((List.range (i + 1)).foldl stp a = stp ((List.range i).foldl stp a) i) := ⟨by rw [List.range_succ, List.foldl_append]; rfl⟩
    have HSTEP : Aside0 (∀ A, stp A i = if hasN la t = true then addW (fun ch a => wrap64 (a + waysN own ch)) m (chain ++ [otherN la t]) (left.eraseIdx i) A else A) := ⟨fun A => by rw [HSTP.out]; simp only [ht]; rw [HLA.out.2]⟩
    clear ht hrd
    cases hb : hasN la t with
    | false =>
     rw [hb] at HHAS
     have HHB := aM hb
     clear hb
     go_wp2_with (go_at_call 57; refine (HHAS.out _).mono ?_; rintro e w6 ⟨rfl, hb6⟩; have HB6 := aM hb6; clear hb6)
     have HB7 := aM (below_then (((Below.refl wr.heap.size wr).alloc (Nat.le_refl _) _)) (by simp) HB6.out)
     go_roundg (left.length - (i + 1))
     case measure => omega
     case rel => exact ⟨i + 1, by go_num, by omega, Nat.le_refl _, ⟨by rw [HFOLD.out, HSTEP.out, if_neg (by rw [HHB.out]; decide)]; exact HI.out.below HB7.out⟩, ⟨grown_trans HG.out (grown_of_belowN HB7.out)⟩⟩
    | true =>
     rw [hb] at HHAS
     have HHB := aM hb
     clear hb
     go_wp2_with (go_at_call 57; refine (HHAS.out _).mono ?_; rintro e w6 ⟨rfl, hb6⟩; have HB6 := aM hb6; clear hb6)
     have HB7 := aM (below_then (((Below.refl wr.heap.size wr).alloc (Nat.le_refl _) _)) (by simp) HB6.out)
     have ht0 : w6.cell? ⟨wr.heap.size, 0, none⟩ = some (.int .i64 t.f0) := (HB6.out.cell (by simp)).trans (by simp only [World.cell?, heap_alloc_new]; rfl)
     have ht1 : w6.cell? ⟨wr.heap.size, 1, none⟩ = some (.int .i64 t.f1) := (HB6.out.cell (by simp)).trans (by simp only [World.cell?, heap_alloc_new]; rfl)
     have HI6 := aM (HI.out.below HB7.out)
     have hcA := HI6.out.A
     have HG6 := aM (grown_trans HG.out (grown_of_belowN HB7.out))
     have HCLC : Aside0 (∀ W, Below w6.heap.size w6 W → Calls Try.prog 58 #[.slice (some adc) (p + 1) cc] W fun e w' => ∃ v0_ : Value, e = .returned (v0_) ∧ Kd.R (Kd.int .i64) 3 w' W.heap.size (fun _ => True) v0_ chain ∧ Below W.heap.size W w') :=
      ⟨fun W hb => by
       have := slices_Clone_int.calls (some adc) cc chain chain W (HCC.out W (grown_trans HG6.out (grown_of_belowN hb))) HSUM.out.2.2.1 (by unfold slices_Clone_int.f; rw [if_pos (by have := HSUM.out.1; omega)])
       rw [hp] at this; exact this⟩
     have HOTH : Aside0 (∀ w, Calls Try.prog 59 #[.agg #[.int .i64 t.f0, .int .i64 t.f1], .int .i64 la] w fun e w' => e = .returned (.int .i64 (otherN la t)) ∧ Below w.heap.size w w') := ⟨fun w => impl_Tile_other.calls t.f0 t.f1 la _ w rfl⟩
     have HCLT : Aside0 (∀ W, Below w6.heap.size w6 W → Calls Try.prog 61 #[.slice (some adl) left.length cl] W fun e w' => ∃ v0_ : Value, e = .returned (v0_) ∧ Kd.R k39 39 w' W.heap.size (fun _ => True) v0_ left ∧ Below W.heap.size W w') :=
      ⟨fun W hb => slices_Clone_Tile.calls (some adl) cl left left W (HTT.out W (grown_trans HG6.out (grown_of_belowN hb))) HSUM.out.2.2.2 (by unfold slices_Clone_Tile.f; rw [if_pos (by have := HSUM.out.1; omega)])⟩
     have HDEL : Aside0 (∀ (W : World) (v : Value), w6.heap.size ≤ W.heap.size → Kd.R k39 39 W w6.heap.size (fun _ => True) v left → Calls Try.prog 60 #[v, .int .i64 (i : Int), .int .i64 ((i : Int) + 1)] W fun e w' => ∃ v', e = .returned v' ∧ Kd.R k39 39 w' w6.heap.size (fun _ => True) v' (left.eraseIdx i) ∧ Below w6.heap.size W w' ∧ W.grownBy w' v.ownBlock) :=
      ⟨fun W v hB ho => slices_Delete_Tile.gcallsG w6.heap.size (fun _ => True) v left i W hB ho hlt⟩
     have hbL6 : bL < w6.heap.size := lt_heapN HI6.out.L
     have HREC : Aside0 (∀ (W : World) (vch vle : Value), Kd.R (Kd.int .i64) 3 W w6.heap.size (fun _ => True) vch (chain ++ [otherN la t]) → Kd.R k39 39 W w6.heap.size (fun _ => True) vle (left.eraseIdx i) → Below w6.heap.size w6 W → Calls Try.prog 56 #[vch, vle, .pointer (some ⟨bE, 0, none⟩), .pointer (some ⟨bA, 0, none⟩)] W fun e W' => e = .returned (.tuple #[]) ∧ WInv own Ao co bO bL bE bA (addW (fun ch a => wrap64 (a + waysN own ch)) m (chain ++ [otherN la t]) (left.eraseIdx i) ((List.range i).foldl stp a)) W' ∧ W.grownBy W' (some bL)) :=
      ⟨fun W vch vle h1 h2 hb => by
       obtain ⟨A1, c1, rfl, hc1, hk1⟩ := CKI.own h1 hbL6
       obtain ⟨A2, c2, rfl, hc2, hk2⟩ := CKT.own h2 hbL6
       have hle : (left.eraseIdx i).length + 1 = left.length := by rw [List.length_eraseIdx, if_pos hlt]; omega
       exact HIH.out (left.eraseIdx i) (chain ++ [otherN la t]) _ W A1 c1 A2 c2 (by have := HSUM.out.2.1; omega) (by simp) (by rw [List.length_append, List.length_singleton]; have := HSUM.out.1; omega) hc1 hc2 hk1 hk2 (HI6.out.below hb)⟩
     have hwr : IntKind.i64.wrap ((i : Int) + 1) = (i : Int) + 1 := by rw [i64_w]; unfold wrap64; omega
     clear hltz hcell hcellA hbl1 hbl2 ha0 ha1 hbL6
     refine start_ (n := 15) (S := fun w' => w'.cell? ⟨wr.heap.size, 0, none⟩ = some (.int .i64 t.f0) ∧ w'.cell? ⟨wr.heap.size, 1, none⟩ = some (.int .i64 t.f1) ∧ w'.cell? ⟨bA, 0, none⟩ = some (.func (.func 56) #[] #[.pointer (some ⟨bE, 0, none⟩), .pointer (some ⟨bA, 0, none⟩)]) ∧ Below w6.heap.size w6 w') (ds := [14]) #[false, false, false, false, false, false, false, false, false, false, false, false, false, false, false] (by kernel_rfl) rfl rfl ⟨(cell_bN ht0 (bD (Below.refl _ _))), (cell_bN ht1 (bD (Below.refl _ _))), (cell_bN hcA (bD (Below.refl _ _))), (bD (Below.refl _ _))⟩ (fun hHeld => ?_)
     refine pure_ (i := 1) (N := some 32) (v := ?_) (a' := ?_) #[false, true, false, false, false, false, false, false, false, false, false, false, false, false, false] rfl rfl (by kernel_rfl) (fun _ _ _ h => h) (Or.inl ⟨by rfl, ?_⟩) ?_ ?_
     rotate_left
     ·intro w'
      go_simp
      with_reducible rfl
     rotate_left
     ·simp only [sP]
      rfl
     refine pure_ (i := 4) (N := some 35) (v := ?_) (a' := ?_) #[false, true, false, false, true, false, false, false, false, false, false, false, false, false, false] rfl rfl (by kernel_rfl) (fun _ _ _ h => h) (Or.inl ⟨by rfl, ?_⟩) ?_ ?_
     rotate_left
     ·intro w'
      go_simp
      with_reducible rfl
     rotate_left
     ·simp only [sP]
      rfl
     refine pure_ (i := 8) (N := some 39) (v := ?_) (a' := ?_) #[false, true, false, false, true, false, false, false, true, false, false, false, false, false, false] rfl rfl (by kernel_rfl) (fun _ _ _ h => h) (Or.inl ⟨by rfl, ?_⟩) ?_ ?_
     rotate_left
     ·intro w'
      go_simp
      with_reducible rfl
     rotate_left
     ·simp only [sP]
      rfl
     refine pure_ (i := 10) (N := some 41) (v := ?_) (a' := ?_) #[false, true, false, false, true, false, false, false, true, false, true, false, false, false, false] rfl rfl (by kernel_rfl) (fun _ _ _ h => h) (Or.inl ⟨by rfl, ?_⟩) ?_ ?_
     rotate_left
     ·intro w'
      go_simp
      with_reducible rfl
     rotate_left
     ·simp only [sP]
      rfl
     refine pure_ (i := 11) (N := some 42) (v := ?_) (a' := ?_) #[false, true, false, false, true, false, false, false, true, false, true, true, false, false, false] rfl rfl (by kernel_rfl) (fun _ _ _ h => h) (Or.inl ⟨by rfl, ?_⟩) ?_ ?_
     rotate_left
     ·intro w'
      go_simp
      with_reducible rfl
     rotate_left
     ·simp only [sP]
      rfl
     refine pure_ (i := 12) (N := some 43) (v := ?_) (a' := ?_) #[false, true, false, false, true, false, false, false, true, false, true, true, true, false, false] rfl rfl (by kernel_rfl) (fun _ _ _ h => h) (Or.inl ⟨by rfl, ?_⟩) ?_ ?_
     rotate_left
     ·intro w'
      go_simp
      with_reducible rfl
     rotate_left
     ·simp only [sP]
      rfl
     refine take_ (i := 0) (N := some 31) (v := ?_) (a' := ?_) #[true, true, false, false, true, false, false, false, true, false, true, true, true, false, false] rfl rfl (by kernel_rfl) (fun _ _ _ h => h) (Or.inl ⟨by rfl, ?_⟩) hHeld ?_ ?_
     rotate_left
     ·rintro w' ⟨s0, s1, s2, s3⟩
      go_simp
      with_reducible rfl
     rotate_left
     ·simp only [sP]
      rfl
     refine take_ (i := 3) (N := some 34) (v := ?_) (a' := ?_) #[true, true, false, true, true, false, false, false, true, false, true, true, true, false, false] rfl rfl (by kernel_rfl) (fun _ _ _ h => h) (Or.inl ⟨by rfl, ?_⟩) hHeld ?_ ?_
     rotate_left
     ·rintro w' ⟨s0, s1, s2, s3⟩
      go_simp
      with_reducible rfl
     rotate_left
     ·simp only [sP]
      rfl
     refine one_ (i := 2) (N := some 33) #[true, true, true, true, true, false, false, false, true, false, true, true, true, false, false] rfl rfl (by kernel_rfl) (by decide) (fun K hK => ?_)
     refine goes_ Try.func58 (by kernel_rfl) rfl #[.slice (some adc) (p + 1) cc] (by rfl) rfl rfl (by simp only [List.map_toArray, List.map_cons, List.map_nil]; rfl) ?_
     with_reducible refine (HCLC.out _ hHeld.2.2.2).mono ?_
     rintro e x2 ⟨v2, rfl, ho2, hb2⟩
     refine ⟨_, rfl, ?_⟩
     have R2 := aM (RS.clone_c (RS.start (vc := .slice none 0 0) (vl := .slice none 0 0) (va := .slice none 0 0) (vx := .slice none 0 0) (vd := .slice none 0 0) (chain := chain) (left := left) (dl := left.eraseIdx i) (o := otherN la t) hHeld.2.2.2) ho2 hb2)
     clear ho2 hb2
     refine hK.out _ _ ⟨(cell_bN ht0 R2.out.B), (cell_bN ht1 R2.out.B), (cell_bN hcA R2.out.B), R2.out.B⟩ (fun hHeld => ?_)
     clear hK K
     refine norm_ (a' := ?_) ?_ ?_
     rotate_left
     ·show Act.put _ (some 33) _ = _
      simp only [sP]
      rfl
     refine one_ (i := 5) (N := some 36) #[true, true, true, true, true, true, false, false, true, false, true, true, true, false, false] rfl rfl (by kernel_rfl) (by decide) (fun K hK => ?_)
     refine goes_ Try.func59 (by kernel_rfl) rfl #[.agg #[.int .i64 t.f0, .int .i64 t.f1], .int .i64 la] (by rfl) rfl rfl (by simp only [List.map_toArray, List.map_cons, List.map_nil]; rfl) ?_
     with_reducible refine (HOTH.out _).mono ?_
     rintro e x5 ⟨rfl, hb5⟩
     refine ⟨_, rfl, ?_⟩
     have R5 := aM (R2.out.below hb5)
     clear hb5
     refine hK.out _ _ ⟨(cell_bN ht0 R5.out.B), (cell_bN ht1 R5.out.B), (cell_bN hcA R5.out.B), R5.out.B⟩ (fun hHeld => ?_)
     clear hK K
     refine norm_ (a' := ?_) ?_ ?_
     rotate_left
     ·show Act.put _ (some 36) _ = _
      simp only [sP]
      rfl
     refine one_ (i := 6) (N := some 37) #[true, true, true, true, true, true, true, false, true, false, true, true, true, false, false] rfl rfl (by kernel_rfl) (by decide) (fun K hK => ?_)
     refine value_ (w1 := ?_) (v := ?_) (by rfl) rfl ?_ ?_
     rotate_left 2
     ·go_simp
      constructor
      ·rfl
      ·rfl
     have R6 := aM R5.out.lit
     refine hK.out _ _ ⟨(cell_bN ht0 R6.out.B), (cell_bN ht1 R6.out.B), (cell_bN hcA R6.out.B), R6.out.B⟩ (fun hHeld => ?_)
     clear hK K
     refine norm_ (a' := ?_) ?_ ?_
     rotate_left
     ·show Act.put _ (some 37) _ = _
      simp only [sP]
      rfl
     refine one_ (i := 7) (N := some 38) #[true, true, true, true, true, true, true, true, true, false, true, true, true, false, false] rfl rfl (by kernel_rfl) (by decide) (fun K hK => ?_)
     refine Kd.R_append_rows_step (Kd.int .i64) (w0 := w6) w6.heap.size (by rfl) (.tmp 33) (.tmp 37) 36 3 (.int .i64 0) 8 rfl Try.underlying36 info3 rfl (by decide) (by omega) v2 chain [otherN la t] _ _ _ (fun k => true = true → some k ≠ (Value.slice (some ⟨x5.heap.size, 0, none⟩) 1 1).ownBlock) (fun _ => False) rfl rfl ?aO ?aR (fun _ _ h => h) (fun _ h => h.elim) ?aF ?aB ?aS ?aL ?_
     (case aR => exact (Kd.R_reads' (R6.out.l rfl)).2.2)
     (case aB => exact R6.out.B)
     (case aF => exact fun k hk _ e => by have h1 := Kd.R_lt (R6.out.l rfl) k e.symm; omega)
     (case aO => exact R6.out.c rfl)
     (case aS => exact R6.out.B.size)
     (case aL => have h1 := HSUM.out.1; have h2 : [otherN la t].length = 1 := rfl; omega)
     intro v7 x7 ho7 hb7 hg7 hat7
     have R7 := aM (RS.app R6.out ho7 hb7 hg7)
     clear ho7 hb7 hg7 hat7
     refine hK.out _ _ ⟨(cell_bN ht0 R7.out.B), (cell_bN ht1 R7.out.B), (cell_bN hcA R7.out.B), R7.out.B⟩ (fun hHeld => ?_)
     clear hK K
     refine norm_ (a' := ?_) ?_ ?_
     rotate_left
     ·show Act.put _ (some 38) _ = _
      simp only [sP]
      rfl
     refine one_ (i := 9) (N := some 40) #[true, true, true, true, true, true, true, true, true, true, true, true, true, false, false] rfl rfl (by kernel_rfl) (by decide) (fun K hK => ?_)
     refine goes_ Try.func61 (by kernel_rfl) rfl #[.slice (some adl) left.length cl] (by rfl) rfl rfl (by simp only [List.map_toArray, List.map_cons, List.map_nil]; rfl) ?_
     with_reducible refine (HCLT.out _ hHeld.2.2.2).mono ?_
     rintro e x9 ⟨v9, rfl, ho9, hb9⟩
     refine ⟨_, rfl, ?_⟩
     have R9 := aM (RS.clone_x R7.out ho9 hb9)
     clear ho9 hb9
     refine hK.out _ _ ⟨(cell_bN ht0 R9.out.B), (cell_bN ht1 R9.out.B), (cell_bN hcA R9.out.B), R9.out.B⟩ (fun hHeld => ?_)
     clear hK K
     refine norm_ (a' := ?_) ?_ ?_
     rotate_left
     ·show Act.put _ (some 40) _ = _
      simp only [sP]
      rfl
     refine one_ (i := 13) (N := some 44) #[true, true, true, true, true, true, true, true, true, true, true, true, true, true, false] rfl rfl (by kernel_rfl) (by decide) (fun K hK => ?_)
     refine goes_ Try.func60 (by kernel_rfl) rfl #[v9, .int .i64 (i : Int), .int .i64 ((i : Int) + 1)] (by rfl) rfl rfl (by simp only [List.map_toArray, List.map_cons, List.map_nil]; rfl) ?_
     with_reducible refine (HDEL.out _ _ R9.out.B.size (R9.out.x rfl)).mono ?_
     rintro e x13 ⟨v13, rfl, ho13, hb13, hg13⟩
     refine ⟨_, rfl, ?_⟩
     have R13 := aM (RS.del R9.out ho13 hb13 hg13)
     clear ho13 hb13 hg13
     refine hK.out _ _ ⟨(cell_bN ht0 R13.out.B), (cell_bN ht1 R13.out.B), (cell_bN hcA R13.out.B), R13.out.B⟩ (fun hHeld => ?_)
     clear hK K
     refine norm_ (a' := ?_) ?_ ?_
     rotate_left
     ·show Act.put _ (some 44) _ = _
      simp only [sP]
      rfl
     refine last_ (i := 14) (N := some 45) #[true, true, true, true, true, true, true, true, true, true, true, true, true, true, true] rfl rfl (by kernel_rfl) (by decide) (fun K hK => ?_)
     refine call_ 56 #[v7, v13, .pointer (some ⟨bE, 0, none⟩), .pointer (some ⟨bA, 0, none⟩)] (by rfl) rfl ?_ ?_
     ·go_simp
     refine (HREC.out _ _ _ (R13.out.a rfl) (R13.out.d rfl) R13.out.B).mono ?_
     rintro e x14 ⟨rfl, hi14, hg14⟩
     refine ⟨_, rfl, ?_⟩
     have HI14 := aM hi14
     have HG14 := aM (grown_trans (grown_of_belowN R13.out.B) hg14)
     clear hi14 hg14
     refine hK.out _ _ ?_
     clear hK K
     refine norm_ (a' := ?_) ?_ ?_
     rotate_left
     ·show Act.put _ (some 45) _ = _
      simp only [sP]
      rfl
     refine done_ (by kernel_rfl) ?_
     have hltz : (i : Int) < (left.length : Int) := by omega
     go_wp2
     go_roundg (left.length - (i + 1))
     case measure => omega
     case rel => exact ⟨i + 1, by go_num, by omega, Nat.le_refl _, ⟨by rw [HFOLD.out, HSTEP.out, if_pos HHB.out]; exact HI14.out⟩, ⟨grown_trans HG6.out HG14.out⟩⟩
   ·obtain rfl : i = left.length := by omega
    have hltz : ¬ (left.length : Int) < (left.length : Int) := by omega
    go_wp2
    go_end0
    exact ⟨rfl, HI.out, HG.out⟩

end

section
/-! ### impl_wholes: function 38: written by hand -/
/-- What becomes of a number while all whole chains of tiles are gone through. -/
def wholesN (own : List Int) (l : List S39) (a : Int) : Int := (List.range 10).foldl (fun a (n : Nat) => addW (fun ch a => wrap64 (a + waysN own ch)) l.length [(n : Int)] l a) a
@[go_sem] theorem run_store_funcN (P : Program) (w : World) (a : Addr) (m : Mode) (f : Fn) (x y : Array Value) : (store a (.func f x y) m).run P w = stored P w a (.func f x y) m := run_store P w a _ m rfl
theorem wholesN_start {W w1 : World} {own : List Int} {Ao : Option Addr} {co bO bL : Nat} {a : Int} (hb : Below (W.alloc (.cells #[.func (.func 39) #[] #[.pointer (some ⟨bO, 0, none⟩), .pointer (some ⟨bL, 0, none⟩)]] 52)).heap.size (W.alloc (.cells #[.func (.func 39) #[] #[.pointer (some ⟨bO, 0, none⟩), .pointer (some ⟨bL, 0, none⟩)]] 52)) w1)
  (hL : W.heap[bL]? = some (.cells #[.int .i64 a] 3 (0, 0))) (hO : W.cell? ⟨bO, 0, none⟩ = some (.slice Ao own.length co)) (hC : CKI W bL Ao own) (hOL : bO ≠ bL) :
  WInv own Ao co bO bL W.heap.size w1.heap.size a (w1.alloc (.cells #[.func (.func 56) #[] #[.pointer (some ⟨W.heap.size, 0, none⟩), .pointer (some ⟨w1.heap.size, 0, none⟩)]] 62)) ∧
  W.grownBy (w1.alloc (.cells #[.func (.func 56) #[] #[.pointer (some ⟨W.heap.size, 0, none⟩), .pointer (some ⟨w1.heap.size, 0, none⟩)]] 62)) (some bL) := by
 have hbL := lt_heapN hL
 have hbO := World.block_lt_of_cell? _ _ hO
 have hs1 : W.heap.size < w1.heap.size := by have := hb.size; simp at this; omega
 have hb2 := below_then ((Below.refl W.heap.size W).alloc (Nat.le_refl _) _) (by simp) hb
 have hb3 := hb2.alloc (Nat.le_of_lt hs1) (.cells #[.func (.func 56) #[] #[.pointer (some ⟨W.heap.size, 0, none⟩), .pointer (some ⟨w1.heap.size, 0, none⟩)]] 62)
 have hg := grown_of_belowN (b := some bL) hb3
 refine ⟨⟨(hb3.block _ hbL).trans hL, ?_, ?_, hg.cell hO (by simpa using hOL), hC.step hg, ⟨by omega, by omega, hOL⟩⟩, hg⟩
 ·refine cell_bN (cell_bN (W := W.alloc _) ?_ hb) ((Below.refl w1.heap.size w1).alloc (Nat.le_refl _) _)
  simp only [World.cell?, heap_alloc_new]; rfl
 ·simp only [World.cell?, heap_alloc_new]; rfl
set_option maxHeartbeats 8000000 in
set_option maxRecDepth 100000 in
theorem impl_wholes.gcalls (k : Nat) (own : List Int) (Ao : Option Addr) (co bO bL : Nat) (hlo : own.length ≤ 1000) (l : List S39) (A0 : Option Addr) (c0 : Nat) (b : Bool) (a : Int) (W : World) (hll : l.length ≤ 800) (hc0 : l.length ≤ c0) (hb : impl_canChain.f k l = some b) (hT : CKT W bL A0 l)
  (hL : W.heap[bL]? = some (.cells #[.int .i64 a] 3 (0, 0))) (hO : W.cell? ⟨bO, 0, none⟩ = some (.slice Ao own.length co)) (hC : CKI W bL Ao own) (hOL : bO ≠ bL) :
  Calls Try.prog 38 #[.slice A0 l.length c0, .func (.func 39) #[] #[.pointer (some ⟨bO, 0, none⟩), .pointer (some ⟨bL, 0, none⟩)]] W fun e W' => e = .returned (.tuple #[]) ∧ W'.heap[bL]? = some (.cells #[.int .i64 (if b = true then wholesN own l a else a)] 3 (0, 0)) ∧ W.grownBy W' (some bL) := by
 have eg56 : ∀ args w, (callFunc 56 args).run Try.prog w = .ok (.enter 56 args) w := enters_of Try.func56 (by kernel_rfl) rfl
 have hmf : ∀ (fn : Fn) (first cap : Array Value) (w : World), (Instr.makeFunc fn first cap).run Try.prog w = .ok (.func fn first cap) w := fun _ _ _ _ => rfl
 have HCAN : Aside0 (∀ w, Below W.heap.size W w → Calls Try.prog 37 #[.slice A0 l.length c0] w fun e w' => e = .returned (.bool b) ∧ Below w.heap.size w w') :=
  ⟨fun w hw => (impl_canChain.calls k A0 c0 l b w (hT w (grown_of_belowN hw)) hc0 hb).mono fun e w' ⟨he, h⟩ => ⟨he, by first | exact h | exact h.below⟩⟩
 have HT := aM hT
 have HL := aM hL
 have HO := aM hO
 have HC := aM hC
 have HOL := aM hOL
 have hbL := lt_heapN hL
 have hbO := World.block_lt_of_cell? _ _ hO
 clear hT hL hO hC hb hOL
 cases b with
 | false =>
  go_enter Try.func38, Try.ntmps38
  go_wp2_with (go_at_call 37; refine (HCAN.out _ (by first | exact Below.refl _ _ | exact (Below.refl _ _).alloc (Nat.le_refl _) _)).mono ?_; rintro e w1 ⟨rfl, hb1⟩)
  have hb2 := below_then ((Below.refl W.heap.size W).alloc (Nat.le_refl _) (.cells #[.func (.func 39) #[] #[.pointer (some ⟨bO, 0, none⟩), .pointer (some ⟨bL, 0, none⟩)]] 52)) (by simp) hb1
  refine bodyPost_ret (results_none rfl _ _ _) rfl ⟨rfl, (hb2.block _ hbL).trans HL.out, grown_of_belowN hb2⟩
 | true =>
  go_enter Try.func38, Try.ntmps38
  go_wp2_with (go_at_call 37; refine (HCAN.out _ (by first | exact Below.refl _ _ | exact (Below.refl _ _).alloc (Nat.le_refl _) _)).mono ?_; rintro e w1 ⟨rfl, hb1⟩; have HB1 := aM hb1; clear hb1)
  have HST := aM (wholesN_start HB1.out HL.out HO.out HC.out HOL.out)
  go_wp2
  go_loopg [10] 10 (fun gg s10 wx => ∃ n : Nat, s10 = .int .i64 n ∧ n ≤ 10 ∧ 10 - n ≤ gg ∧ Aside0 (WInv own Ao co bO bL W.heap.size w1.heap.size ((List.range n).foldl (fun a (n : Nat) => addW (fun ch a => wrap64 (a + waysN own ch)) l.length [(n : Int)] l a) a) wx) ∧ Aside0 (W.grownBy wx (some bL)))
  case atStart => exact ⟨0, rfl, Nat.zero_le _, by omega, ⟨HST.out.1⟩, ⟨HST.out.2⟩⟩
  case round =>
   clear HST
   obtain ⟨n, rfl, hn, hgg, HI, HG⟩ := hrel
   by_cases hlt : n < 10
   ·have hltz : (n : Int) < 10 := by omega
    have HFOLD : Aside0 ((List.range (n + 1)).foldl (fun a (n : Nat) => addW (fun ch a => wrap64 (a + waysN own ch)) l.length [(n : Int)] l a) a = addW (fun ch a => wrap64 (a + waysN own ch)) l.length [(n : Int)] l ((List.range n).foldl (fun a (n : Nat) => addW (fun ch a => wrap64 (a + waysN own ch)) l.length [(n : Int)] l a) a)) := ⟨by rw [List.range_succ, List.foldl_append]; rfl⟩
    obtain ⟨aa, haa⟩ : ∃ x, x = (List.range n).foldl (fun a (n : Nat) => addW (fun ch a => wrap64 (a + waysN own ch)) l.length [(n : Int)] l a) a := ⟨_, rfl⟩
    rw [← haa] at HI HFOLD
    have hcA := HI.out.A
    have hbA := World.block_lt_of_cell? _ _ hcA
    have HCALL : Aside0 (Calls Try.prog 56 #[.slice (some ⟨wr.heap.size, 0, none⟩) 1 1, .slice A0 l.length c0, .pointer (some ⟨W.heap.size, 0, none⟩), .pointer (some ⟨w1.heap.size, 0, none⟩)] (wr.alloc (.cells #[.int .i64 n] 3)) fun e W' => e = .returned (.tuple #[]) ∧ WInv own Ao co bO bL W.heap.size w1.heap.size (addW (fun ch a => wrap64 (a + waysN own ch)) l.length [(n : Int)] l aa) W' ∧ (wr.alloc (.cells #[.int .i64 n] 3)).grownBy W' (some bL)) := by
     have hg1 : wr.grownBy (wr.alloc (.cells #[.int .i64 n] 3)) (some bL) := grown_of_belowN ((Below.refl wr.heap.size wr).alloc (Nat.le_refl _) _)
     have hr : Kd.R (Kd.int .i64) 3 (wr.alloc (.cells #[.int .i64 n] 3)) wr.heap.size (fun _ => True) (.slice (some ⟨wr.heap.size, 0, none⟩) 1 1) [(n : Int)] := by
      have h1 : rowI (wr.alloc (.cells #[.int .i64 n] 3)) wr.heap.size 1 [(n : Int)] := ⟨_, heap_alloc_new _ _, rfl, Nat.le_refl _, fun i y hy => by
       match i, hy with
       | 0, hy => cases hy; rfl⟩
      exact R_of_rowI h1 (Nat.le_refl _) trivial (by simp [maxLen])
     obtain ⟨A1, c1, e1, hc1, hk1⟩ := CKI.own hr (Nat.lt_of_lt_of_le hbL HG.out.size)
     cases e1
     exact ⟨impl_wholes_1.gcalls own Ao co bO bL W.heap.size w1.heap.size hlo l.length l [(n : Int)] aa _ _ _ _ _ (Nat.le_refl _) (by simp) (by simp; omega) (Nat.le_refl _) hc0 hk1 (HT.out.step (grown_trans HG.out hg1)) (HI.out.below ((Below.refl wr.heap.size wr).alloc (Nat.le_refl _) _))⟩
    have hHI := HI
    clear haa HI
    go_wp2_with (go_at_fn 56; refine HCALL.out.mono ?_; rintro e w3 ⟨rfl, hi3, hg3⟩; have HI3 := aM hi3; have HG3 := aM hg3; clear hi3 hg3)
    go_roundg (10 - (n + 1))
    case measure => omega
    case rel => exact ⟨n + 1, by go_num, by omega, Nat.le_refl _, ⟨by rw [HFOLD.out]; exact HI3.out⟩, ⟨grown_trans HG.out (grown_trans (grown_of_belowN ((Below.refl wr.heap.size wr).alloc (Nat.le_refl _) _)) HG3.out)⟩⟩
   ·obtain rfl : n = 10 := by omega
    have hltz : ¬ ((10 : Nat) : Int) < 10 := by omega
    go_wp2
    go_end0
    exact ⟨rfl, HI.out.L, HG.out⟩

end

section
/-! ### impl_countWhole: function 21: written by hand -/
def impl_countWhole.f (k : Nat) (l0 : List S39) : Option Int := (impl_doubles.f k l0).bind fun own => (impl_canChain.f k l0).bind fun c => if c = true then ((impl_plain.f l0).bind fun pl => (impl_canChain.f k pl).bind fun c2 => if own.length ≤ 1000 ∧ pl.length ≤ 800 then some (if c2 = true then wholesN own pl 0 else 0) else none) else some 0
theorem impl_countWhole.mono : ∀ a0 k, LeO (impl_countWhole.f k a0) (impl_countWhole.f (k + 1) a0) := by
 intro a0 k r h
 unfold impl_countWhole.f at h ⊢
 cases hd : impl_doubles.f k a0 with
 | none => rw [hd] at h; cases h
 | some own =>
  rw [hd] at h
  rw [impl_doubles.mono a0 k own hd]
  simp only [Option.bind_some] at h ⊢
  cases hc : impl_canChain.f k a0 with
  | none => rw [hc] at h; cases h
  | some c =>
   rw [hc] at h
   rw [impl_canChain.mono a0 k c hc]
   simp only [Option.bind_some] at h ⊢
   cases c with
   | false => exact h
   | true =>
    rw [if_pos rfl] at h ⊢
    cases hp : impl_plain.f a0 with
    | none => rw [hp] at h; cases h
    | some pl =>
     rw [hp] at h
     simp only [Option.bind_some] at h ⊢
     cases hc2 : impl_canChain.f k pl with
     | none => rw [hc2] at h; cases h
     | some c2 =>
      rw [hc2] at h
      rw [impl_canChain.mono pl k c2 hc2]
      exact h
theorem impl_countWhole.own_keeps {W : World} {base : Nat} {ok : Nat → Prop} {A : Option Addr} {c : Nat} {l : List Int} {b : Option Nat} (h : Kd.R (Kd.int .i64) 3 W base ok (.slice A l.length c) l) (hb : ∀ k, b = some k → W.heap.size ≤ k) {W' : World} (hg : W.grownBy W' b) : Kd.C (Kd.int .i64) W' A l.length l := by
 have h2 := Kd.R_bound h
 exact (Kd.R_reads' (Kd.R_grown h2 hg (fun k hk e => absurd (hb k e.symm) (Nat.not_le.2 hk.2.2.1)))).2.2
set_option maxHeartbeats 8000000 in
set_option maxRecDepth 100000 in
theorem impl_countWhole.calls (k : Nat) (A0 : Option Addr) (c0 : Nat) (l0 : List S39) (r : Int) (w : World) (hr0 : Kd.C k39 w A0 l0.length l0) (hc0 : l0.length ≤ c0) (h : impl_countWhole.f k l0 = some r) :
  Calls Try.prog 21 #[.slice A0 l0.length c0] w fun e w' => e = .returned (.int .i64 r) ∧ Below w.heap.size w w' := by
 have eg39 : ∀ args w, (callFunc 39 args).run Try.prog w = .ok (.enter 39 args) w := enters_of Try.func39 (by kernel_rfl) rfl
 obtain ⟨own, hown, h⟩ : ∃ x, impl_doubles.f k l0 = some x ∧ _ := Option.bind_eq_some_iff.1 h
 obtain ⟨c, hcc, h⟩ : ∃ x, impl_canChain.f k l0 = some x ∧ _ := Option.bind_eq_some_iff.1 h
 have HD := aM (fun w hw => impl_doubles.calls k A0 c0 l0 own w hw hc0 hown)
 have HC := aM (fun w hw => impl_canChain.calls k A0 c0 l0 c w hw hc0 hcc)
 have HR := aM hr0
 have HH := aM h
 clear hr0 h hown hcc
 go_enter Try.func21, Try.ntmps21
 go_wp2_with (go_at_call 36; refine (HD.out _ HR.out).mono ?_; rintro e w1 ⟨v1, rfl, ho1, hb1⟩; obtain ⟨Ao, co, rfl, hco, _⟩ := Kd.R_reads ho1; have HO1 := aM ho1; have HB1 := aM hb1; clear ho1 hb1)
 have HCW := aM (fun k => impl_countWhole.own_keeps (b := some k) HO1.out)
 have hb2 : Below w.heap.size w ((w1.alloc (Obj.cells #[Value.int IntKind.i64 0] 3)).alloc (Obj.cells #[Value.slice Ao own.length co] 36)) := (HB1.out.alloc HB1.out.size _).alloc (by have := HB1.out.size; simp; omega) _
 have hl2 : ((w1.alloc (Obj.cells #[Value.int IntKind.i64 0] 3)).alloc (Obj.cells #[Value.slice Ao own.length co] 36)).heap[w1.heap.size]? = some (.cells #[.int .i64 0] 3 (0, 0)) := by
  have h1 : (w1.alloc (Obj.cells #[Value.int IntKind.i64 0] 3)).heap[w1.heap.size]? = some (.cells #[.int .i64 0] 3 (0, 0)) := heap_alloc_new _ _
  exact (((Below.refl _ _).alloc (Nat.le_refl _) _).block _ (lt_heapN h1)).trans h1
 have hq2 : ((w1.alloc (Obj.cells #[Value.int IntKind.i64 0] 3)).alloc (Obj.cells #[Value.slice Ao own.length co] 36)).cell? ⟨w1.heap.size + 1, 0, none⟩ = some (.slice Ao own.length co) := by
  have h1 : ((w1.alloc (Obj.cells #[Value.int IntKind.i64 0] 3)).alloc (Obj.cells #[Value.slice Ao own.length co] 36)).heap[w1.heap.size + 1]? = some (.cells #[Value.slice Ao own.length co] 36 (0, 0)) := by
   have := heap_alloc_new (w1.alloc (Obj.cells #[Value.int IntKind.i64 0] 3)) (Obj.cells #[Value.slice Ao own.length co] 36)
   simpa using this
  simp only [World.cell?, h1]; rfl
 obtain ⟨W2, hW2⟩ : ∃ W2, W2 = ((w1.alloc (Obj.cells #[Value.int IntKind.i64 0] 3)).alloc (Obj.cells #[Value.slice Ao own.length co] 36)) := ⟨_, rfl⟩
 have HG2 : Aside0 (w1.grownBy W2 (some w1.heap.size)) := ⟨by rw [hW2]; exact grown_of_belowN (((Below.refl w1.heap.size w1).alloc (Nat.le_refl _) _).alloc (by simp) _)⟩
 rw [← hW2] at hb2 hl2 hq2
 have HB2 := aM hb2
 have HL2 := aM hl2
 have HQ2 := aM hq2
 have HS1 := aM HB1.out.size
 clear hb2 hl2 hq2
 rw [← hW2]
 clear hW2
 go_at_call 37
 refine (HC.out _ (Kd.C_below HR.out HB2.out)).mono ?_
 rintro e w3 ⟨rfl, hb3⟩
 have HB3 := aM hb3
 clear hb3
 cases c with
 | false =>
  have hz : r = 0 := by have := HH.out; simpa using this.symm
  go_wp2
  go_ret
  exact ⟨by rw [hz]; rfl, below_then HB2.out HB2.out.size HB3.out⟩
 | true =>
  have h := HH.out
  rw [if_pos rfl] at h
  obtain ⟨pl, hpl, h⟩ := Option.bind_eq_some_iff.1 h
  obtain ⟨c2, hc2, h⟩ := Option.bind_eq_some_iff.1 h
  by_cases hlen : own.length ≤ 1000 ∧ pl.length ≤ 800
  case neg => rw [if_neg hlen] at h; cases h
  rw [if_pos hlen] at h
  have HZ := aM (Option.some.inj h)
  have HP := aM (fun w hw => impl_plain.calls A0 c0 l0 pl w hw hc0 hpl)
  have HC2 := aM hc2
  have HLEN := aM hlen
  clear h hpl hc2 hlen HH
  go_wp2_with (go_at_call 23; refine (HP.out _ (Kd.C_below (Kd.C_below HR.out HB2.out) HB3.out)).mono ?_; rintro e w4 ⟨v4, rfl, ho4, hb4⟩; have HO4 := aM ho4; have HB4 := aM hb4; clear ho4 hb4)
  have hs3 : w1.heap.size < w3.heap.size := Nat.lt_of_lt_of_le (lt_heapN HL2.out) HB3.out.size
  obtain ⟨Ap, cp, rfl, hcp, hkp⟩ := CKT.own HO4.out hs3
  have HG4 : Aside0 (w1.grownBy w4 (some w1.heap.size)) := ⟨grown_trans HG2.out (grown_trans (grown_of_belowN HB3.out) (grown_of_belowN HB4.out))⟩
  have hw0 := (impl_wholes.gcalls k own Ao co (w1.heap.size + 1) w1.heap.size HLEN.out.1 pl Ap cp c2 0 w4 HLEN.out.2 hcp HC2.out hkp
   ((HB4.out.block _ hs3).trans ((HB3.out.block _ (lt_heapN HL2.out)).trans HL2.out)) (cell_bN (cell_bN HQ2.out HB3.out) HB4.out)
   (fun W' hg => HCW.out _ (fun k e => by obtain rfl := Option.some.inj e; exact Nat.le_refl _) (grown_trans HG4.out hg)) (by omega))
  rw [HZ.out] at hw0
  have HW := aM hw0
  clear hkp hw0
  go_wp2_with (go_at_call 38; refine HW.out.mono ?_; rintro e w5 ⟨rfl, hl5, hg5⟩; have hl5c := (heap_cellN hl5).1; have HG5 := aM hg5; clear hl5 hg5)
  go_ret
  have hb4 := below_then (below_then HB2.out HB2.out.size HB3.out) (Nat.le_trans HB2.out.size HB3.out.size) HB4.out
  refine ⟨rfl, ⟨HG5.out.os.trans hb4.os, HG5.out.tape.trans hb4.tape, HG5.out.output.trans hb4.output, Nat.le_trans hb4.size HG5.out.size, fun q hq => ?_⟩⟩
  have hs1 := HS1.out
  exact (HG5.out.block q (Nat.lt_of_lt_of_le hq hb4.size) (fun e => by have := Option.some.inj e; omega)).trans (hb4.block q hq)

end

end Go.Proofs.Ytnooegfhffhfpaa.P
