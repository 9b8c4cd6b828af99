-- Printed by a program of this session (wip/myprint.py, which drives the kit's print): what one function of the program does, and the proof that its call does so.
import Derived.BigQuiet
import Derived.BigRegion
import Derived.ChangeKeysEq
import Derived.Deep.Cut
import Derived.Deep.CutRange
import Derived.Deep.RegionHeld3
import Derived.Deep.RegionWith
import Derived.Lib.SliceRun
import Derived.RegionTactic
import Derived.WalkSpells
import Derived.Test.YtepccigcdbimaaaP0
import Derived.Test.YtepccigcdbimaaaPIb
import Derived.Test.YtepccigcdbimaaaPSa
import Derived.Test.YtepccigcdbimaaaPSh
import Derived.Test.YtepccigcdbimaaaPimplspreadplay
namespace Go.Proofs.Ytepccigcdbimaaa.P
open Go.RowKit Go.Proofs.YtepccigcdbimaaaW.PrintWords Go.Proofs.YtepccigcdbimaaaW.PrintLast Go.Proofs.YtepccigcdbimaaaW.PrintMore
attribute [local go_sem] max2_int min2_int max_two min_two max_three min_three max_four min_four   -- for this text's walks alone
set_option linter.unusedVariables false
set_option linter.unusedSimpArgs false

/-! ### spec_lyState_add: function 70: written by hand -/
theorem amsP : (∀ (a : Act) (d : Tmp) (v : Value), a.put (some d) v = { a with tmps := a.tmps.setIfInBounds d v }) ∧ (∀ (a : Act) (v : Value), a.put none v = a) ∧ (∀ (l : List Value) (i : Nat) (x : Value), l.toArray.setIfInBounds i x = (l.set i x).toArray) ∧ (∀ (x y : Value) (l : List Value), (x :: l).set 0 y = y :: l) ∧ (∀ (x y : Value) (l : List Value) (n : Nat), (x :: l).set (n + 1) y = x :: l.set n y) ∧ (∀ n : Int, IntKind.i64.wrap n = Go.RowKit.wrap64 n) ∧ (∀ n : Int, IntKind.i32.wrap n = Go.RowKit.wrap32 n) :=
  ⟨fun _ _ _ => rfl, fun _ _ => rfl, fun _ _ _ => List.setIfInBounds_toArray .., fun _ _ _ => rfl, fun _ _ _ _ => rfl, i64_w, i32_w⟩
abbrev am0 : Array Bool := #[false, false, false, false, false, false, false, false, false, false, false, false, false, false, false, false, false, false, false, false, false, false]
abbrev am1 : Array Bool := #[true, false, false, false, false, false, false, false, false, false, false, false, false, false, false, false, false, false, false, false, false, false]
abbrev am2 : Array Bool := #[true, true, false, false, false, false, false, false, false, false, false, false, false, false, false, false, false, false, false, false, false, false]
abbrev am3 : Array Bool := #[true, true, true, false, false, false, false, false, false, false, false, false, false, false, false, false, false, false, false, false, false, false]
abbrev am4 : Array Bool := #[true, true, true, true, false, false, false, false, false, false, false, false, false, false, false, false, false, false, false, false, false, false]
abbrev am5 : Array Bool := #[true, true, true, true, true, false, false, false, false, false, false, false, false, false, false, false, false, false, false, false, false, false]
abbrev am6 : Array Bool := #[true, true, true, true, true, true, false, false, false, false, false, false, false, false, false, false, false, false, false, false, false, false]
abbrev am7 : Array Bool := #[true, true, true, true, true, true, true, false, false, false, false, false, false, false, false, false, false, false, false, false, false, false]
abbrev am8 : Array Bool := #[true, true, true, true, true, true, true, true, false, false, false, false, false, false, false, false, false, false, false, false, false, false]
abbrev am9 : Array Bool := #[true, true, true, true, true, true, true, true, true, false, false, false, false, false, false, false, false, false, false, false, false, false]
abbrev am10 : Array Bool := #[true, true, true, true, true, true, true, true, true, true, false, false, false, false, false, false, false, false, false, false, false, false]
abbrev am11 : Array Bool := #[true, true, true, true, true, true, true, true, true, true, true, false, false, false, false, false, false, false, false, false, false, false]
abbrev am12 : Array Bool := #[true, true, true, true, true, true, true, true, true, true, true, true, false, false, false, false, false, false, false, false, false, false]
abbrev am13 : Array Bool := #[true, true, true, true, true, true, true, true, true, true, true, true, true, false, false, false, false, false, false, false, false, false]
abbrev am14 : Array Bool := #[true, true, true, true, true, true, true, true, true, true, true, true, true, true, false, false, false, false, false, false, false, false]
abbrev am15 : Array Bool := #[true, true, true, true, true, true, true, true, true, true, true, true, true, true, true, false, false, false, false, false, false, false]
abbrev am16 : Array Bool := #[true, true, true, true, true, true, true, true, true, true, true, true, true, true, true, true, false, false, false, false, false, false]
abbrev am17 : Array Bool := #[true, true, true, true, true, true, true, true, true, true, true, true, true, true, true, true, true, false, false, false, false, false]
abbrev am18 : Array Bool := #[true, true, true, true, true, true, true, true, true, true, true, true, true, true, true, true, true, true, false, false, false, false]
abbrev am19 : Array Bool := #[true, true, true, true, true, true, true, true, true, true, true, true, true, true, true, true, true, true, true, false, false, false]
abbrev am20 : Array Bool := #[true, true, true, true, true, true, true, true, true, true, true, true, true, true, true, true, true, true, true, true, false, false]
abbrev am21 : Array Bool := #[true, true, true, true, true, true, true, true, true, true, true, true, true, true, true, true, true, true, true, true, true, false]
abbrev am22 : Array Bool := #[true, true, true, true, true, true, true, true, true, true, true, true, true, true, true, true, true, true, true, true, true, true]
abbrev am23 : Array Bool := #[true, true, true, true, true, true, true, true, false, true, false, false, false, false, false, false, false, false, false, false, false, false]
abbrev am24 : Array Bool := #[false, false, false, false, false, false, false, false, false, false, false, false]
abbrev am25 : Array Bool := #[true, false, false, false, false, false, false, false, false, false, false, false]
abbrev am26 : Array Bool := #[true, true, false, false, false, false, false, false, false, false, false, false]
abbrev am27 : Array Bool := #[true, true, true, false, false, false, false, false, false, false, false, false]
abbrev am28 : Array Bool := #[true, true, true, true, false, false, false, false, false, false, false, false]
abbrev am29 : Array Bool := #[true, true, true, true, false, true, false, false, false, false, false, false]
abbrev am30 : Array Bool := #[true, true, true, true, true, true, false, false, false, false, false, false]
abbrev am31 : Array Bool := #[true, true, true, true, true, true, true, false, false, false, false, false]
abbrev am32 : Array Bool := #[true, true, true, true, true, true, true, true, false, false, false, false]
abbrev am33 : Array Bool := #[true, true, true, true, true, true, true, true, true, false, false, false]
abbrev am34 : Array Bool := #[true, true, true, true, true, true, true, true, true, true, false, false]
abbrev am35 : Array Bool := #[true, true, true, true, true, true, true, true, true, true, true, false]
abbrev am36 : Array Bool := #[true, true, true, true, true, true, true, true, true, true, true, true]
abbrev am37 : Array Bool := #[false, false, false, false, false, false, false, false, false, false, false, false, false, false, false, false, false, false, false, false, false, false, false, false, false]
abbrev am38 : Array Bool := #[true, false, false, false, false, false, false, false, false, false, false, false, false, false, false, false, false, false, false, false, false, false, false, false, false]
abbrev am39 : Array Bool := #[true, false, true, false, false, false, false, false, false, false, false, false, false, false, false, false, false, false, false, false, false, false, false, false, false]
abbrev am40 : Array Bool := #[true, false, true, true, false, false, false, false, false, false, false, false, false, false, false, false, false, false, false, false, false, false, false, false, false]
abbrev am41 : Array Bool := #[true, false, true, true, true, false, false, false, false, false, false, false, false, false, false, false, false, false, false, false, false, false, false, false, false]
abbrev am42 : Array Bool := #[true, true, true, true, true, false, false, false, false, false, false, false, false, false, false, false, false, false, false, false, false, false, false, false, false]
abbrev am43 : Array Bool := #[true, true, true, true, true, true, false, false, false, false, false, false, false, false, false, false, false, false, false, false, false, false, false, false, false]
abbrev am44 : Array Bool := #[true, true, true, true, true, true, true, false, false, false, false, false, false, false, false, false, false, false, false, false, false, false, false, false, false]
abbrev am45 : Array Bool := #[true, true, true, true, true, true, true, true, false, false, false, false, false, false, false, false, false, false, false, false, false, false, false, false, false]
abbrev am46 : Array Bool := #[true, true, true, true, true, true, true, true, true, false, false, false, false, false, false, false, false, false, false, false, false, false, false, false, false]
abbrev am47 : Array Bool := #[true, true, true, true, true, true, true, true, true, true, false, false, false, false, false, false, false, false, false, false, false, false, false, false, false]
abbrev am48 : Array Bool := #[true, true, true, true, true, true, true, true, true, true, true, false, false, false, false, false, false, false, false, false, false, false, false, false, false]
abbrev am49 : Array Bool := #[true, true, true, true, true, true, true, true, true, true, true, true, false, false, false, false, false, false, false, false, false, false, false, false, false]
abbrev am50 : Array Bool := #[true, true, true, true, true, true, true, true, true, true, true, true, true, false, false, false, false, false, false, false, false, false, false, false, false]
abbrev am51 : Array Bool := #[true, true, true, true, true, true, true, true, true, true, true, true, true, true, false, false, false, false, false, false, false, false, false, false, false]
abbrev am52 : Array Bool := #[true, true, true, true, true, true, true, true, true, true, true, true, true, true, true, false, false, false, false, false, false, false, false, false, false]
abbrev am53 : Array Bool := #[true, true, true, true, true, true, true, true, true, true, true, true, true, true, true, true, false, false, false, false, false, false, false, false, false]
abbrev am54 : Array Bool := #[true, true, true, true, true, true, true, true, true, true, true, true, true, true, true, true, true, false, false, false, false, false, false, false, false]
abbrev am55 : Array Bool := #[true, true, true, true, true, true, true, true, true, true, true, true, true, true, true, true, true, true, false, false, false, false, false, false, false]
abbrev am56 : Array Bool := #[true, true, true, true, true, true, true, true, true, true, true, true, true, true, true, true, true, true, true, false, false, false, false, false, false]
abbrev am57 : Array Bool := #[true, true, true, true, true, true, true, true, true, true, true, true, true, true, true, true, true, true, true, true, false, false, false, false, false]
abbrev am58 : Array Bool := #[true, true, true, true, true, true, true, true, true, true, true, true, true, true, true, true, true, true, true, true, true, false, false, false, false]
abbrev am59 : Array Bool := #[true, true, true, true, true, true, true, true, true, true, true, true, true, true, true, true, true, true, true, true, true, true, false, false, false]
abbrev am60 : Array Bool := #[true, true, true, true, true, true, true, true, true, true, true, true, true, true, true, true, true, true, true, true, true, true, true, false, false]
abbrev am61 : Array Bool := #[true, true, true, true, true, true, true, true, true, true, true, true, true, true, true, true, true, true, true, true, true, true, true, true, false]
abbrev am62 : Array Bool := #[true, true, true, true, true, true, true, true, true, true, true, true, true, true, true, true, true, true, true, true, true, true, true, true, true]
abbrev am63 : Array Bool := #[true, true, true, true, true, true, true, true, true, true, true, true, false, true, false, false, false, false, false, false, false, false, false, false, false]
abbrev am64 : Array Bool := #[true, true, true, true, true, true, true, true, true, true, true, true, false, true, true, false, false, false, false, false, false, false, false, false, false]
abbrev am65 : Array Bool := #[true, true, true, true, true, true, true, true, true, true, true, true, false, true, true, true, false, false, false, false, false, false, false, false, false]
abbrev am66 : Array Bool := #[true, true, true, true, true, true, true, true, true, true, true, true, false, true, true, true, false, true, false, false, false, false, false, false, false]
abbrev am67 : Array Bool := #[true, true, true, true, true, true, true, true, true, true, true, true, true, true, true, true, false, true, false, false, false, false, false, false, false]
abbrev am68 : Array Bool := #[false, false, false, false, false, false, false, false, false, false, false, false, false, false, false, false, false, false, false]
abbrev am69 : Array Bool := #[true, false, false, false, false, false, false, false, false, false, false, false, false, false, false, false, false, false, false]
abbrev am70 : Array Bool := #[true, true, false, false, false, false, false, false, false, false, false, false, false, false, false, false, false, false, false]
abbrev am71 : Array Bool := #[true, true, true, false, false, false, false, false, false, false, false, false, false, false, false, false, false, false, false]
abbrev am72 : Array Bool := #[true, true, true, true, false, false, false, false, false, false, false, false, false, false, false, false, false, false, false]
abbrev am73 : Array Bool := #[true, true, true, true, true, false, false, false, false, false, false, false, false, false, false, false, false, false, false]
abbrev am74 : Array Bool := #[true, true, true, true, true, true, false, false, false, false, false, false, false, false, false, false, false, false, false]
abbrev am75 : Array Bool := #[true, true, true, true, true, true, true, false, false, false, false, false, false, false, false, false, false, false, false]
abbrev am76 : Array Bool := #[true, true, true, true, true, true, true, true, false, false, false, false, false, false, false, false, false, false, false]
abbrev am77 : Array Bool := #[true, true, true, true, true, true, true, true, true, false, false, false, false, false, false, false, false, false, false]
abbrev am78 : Array Bool := #[true, true, true, true, true, true, true, true, true, true, false, false, false, false, false, false, false, false, false]
abbrev am79 : Array Bool := #[true, true, true, true, true, true, true, true, true, true, true, false, false, false, false, false, false, false, false]
abbrev am80 : Array Bool := #[true, true, true, true, true, true, true, true, true, true, true, true, false, false, false, false, false, false, false]
abbrev am81 : Array Bool := #[true, true, true, true, true, true, true, true, true, true, true, true, true, false, false, false, false, false, false]
abbrev am82 : Array Bool := #[true, true, true, true, true, true, true, true, true, true, true, true, true, true, false, false, false, false, false]
abbrev am83 : Array Bool := #[true, true, true, true, true, true, true, true, true, true, true, true, true, true, true, false, false, false, false]
abbrev am84 : Array Bool := #[true, true, true, true, true, true, true, true, true, true, true, true, true, true, true, true, false, false, false]
abbrev am85 : Array Bool := #[true, true, true, true, true, true, true, true, true, true, true, true, true, true, true, true, true, false, false]
abbrev am86 : Array Bool := #[true, true, true, true, true, true, true, true, true, true, true, true, true, true, true, true, true, true, false]
abbrev am87 : Array Bool := #[true, true, true, true, true, true, true, true, true, true, true, true, true, true, true, true, true, true, true]
abbrev am88 : Array Bool := #[true, true, true, true, true, true, true, true, true, true, true, true, false, true, false, false, false, false, false]
abbrev am89 : Array Bool := #[true, true, true, true, true, true, true, true, true, true, true, true, false, true, true, false, false, false, false]
abbrev am90 : Array Bool := #[false, false, false, false, false, false, false]
abbrev am91 : Array Bool := #[true, false, false, false, false, false, false]
abbrev am92 : Array Bool := #[true, true, false, false, false, false, false]
abbrev am93 : Array Bool := #[true, true, false, true, false, false, false]
abbrev am94 : Array Bool := #[true, true, false, true, true, false, false]
abbrev am95 : Array Bool := #[true, true, true, true, true, false, false]
abbrev am96 : Array Bool := #[true, true, true, true, true, true, false]
abbrev am97 : Array Bool := #[true, true, true, true, true, true, true]
abbrev am98 : Array Bool := #[true, true, true, false, false, false, false]
abbrev am99 : Array Bool := #[true, true, true, false, true, false, false]
abbrev am100 : Array Bool := #[true, true, true, false, true, false, false, false, false, false, false, false, false, false, false, false, false, false, false, false, false, false]
abbrev am101 : Array Bool := #[true, true, true, false, true, false, true, false, false, false, false, false, false, false, false, false, false, false, false, false, false, false]
abbrev am102 : Array Bool := #[true, true, true, false, true, false, true, false, true, false, false, false, false, false, false, false, false, false, false, false, false, false]
abbrev am103 : Array Bool := #[true, true, true, false, true, false, true, false, true, true, false, false, false, false, false, false, false, false, false, false, false, false]
abbrev am104 : Array Bool := #[true, true, true, false, true, false, true, false, true, true, true, false, false, false, false, false, false, false, false, false, false, false]
abbrev am105 : Array Bool := #[true, true, true, false, true, false, true, false, true, true, true, false, true, false, false, false, false, false, false, false, false, false]
abbrev am106 : Array Bool := #[true, true, true, false, true, false, true, false, true, true, true, false, true, false, false, false, false, false, true, false, false, false]
abbrev am107 : Array Bool := #[true, true, true, true, true, false, true, false, true, true, true, false, true, false, false, false, false, false, true, false, false, false]
abbrev am108 : Array Bool := #[true, true, true, true, true, true, true, false, true, true, true, false, true, false, false, false, false, false, true, false, false, false]
abbrev am109 : Array Bool := #[true, true, true, true, true, true, true, true, true, true, true, false, true, false, false, false, false, false, true, false, false, false]
abbrev am110 : Array Bool := #[true, true, true, true, true, true, true, true, true, true, true, true, true, false, false, false, false, false, true, false, false, false]
abbrev am111 : Array Bool := #[true, true, true, true, true, true, true, true, true, true, true, true, true, true, false, false, false, false, true, false, false, false]
abbrev am112 : Array Bool := #[true, true, true, true, true, true, true, true, true, true, true, true, true, true, true, false, false, false, true, false, false, false]
abbrev am113 : Array Bool := #[true, true, true, true, true, true, true, true, true, true, true, true, true, true, true, true, false, false, true, false, false, false]
abbrev am114 : Array Bool := #[true, true, true, true, true, true, true, true, true, true, true, true, true, true, true, true, true, false, true, false, false, false]
abbrev am115 : Array Bool := #[true, true, true, true, true, false, false, false, false, false, false, false]
/-- What the reference keeps of a spread. -/
structure LyS where
  arms : List S93
  tiles : List S59
  sp : Int
  wt : Int
  first : Bool
  l0 : Bool
  l1 : Bool
def firstL (s : LyS) (t : S59) : LyS :=
  ⟨[⟨t.f0, t.f0 == t.f1, false⟩, ⟨t.f1, t.f0 == t.f1, false⟩], s.tiles ++ [t], if (t.f0 == t.f1) = true then t.f0 else s.sp, s.wt, if (t.f0 == t.f1) = true then true else s.first, s.l0, s.l1⟩
def cA (s : LyS) (a : Nat) : Bool := s.first && (decide (a = 0) && !s.l0 || decide (a = 1) && !s.l1)
def nl0 (s : LyS) (a : Nat) : Bool := s.l0 || (cA s a && decide (a = 0))
def nl1 (s : LyS) (a : Nat) : Bool := s.l1 || (cA s a && decide (a = 1))
def sdA (s : LyS) (a : Nat) : Bool := cA s a && (nl0 s a && nl1 s a)
def nextL (s : LyS) (t : S59) (a : Nat) (e : Int) : LyS :=
  let wa := decide (s.wt = (a : Int))
  let arms1 := s.arms.set a ⟨t.f0 + t.f1 - e, t.f0 == t.f1, false⟩
  let arms2 := if (wa || sdA s a) = true then arms1 ++ [⟨s.sp, false, true⟩, ⟨s.sp, false, true⟩] else arms1
  let sd := (t.f0 == t.f1) && decide (s.sp < 0)
  ⟨arms2, s.tiles ++ [t], if sd = true then t.f0 else s.sp, if sd = true then (a : Int) else if wa = true then -1 else s.wt, s.first, nl0 s a, nl1 s a⟩
def addL (s : LyS) (t : S59) (arm : Int) : Option LyS :=
  if goodT t = true ∧ t ∉ s.tiles ∧ s.tiles.length < 28 then
    (if s.tiles = [] then (if arm = 0 then some (firstL s t) else none)
    else if 0 ≤ arm ∧ arm < s.arms.length then (if hasB2 (rd_T93 s.arms arm).f0 t = true then some (nextL s t arm.toNat (rd_T93 s.arms arm).f0) else none) else none)
  else none
/-- A state in memory. -/
def LyAt (W : World) (g base : Nat) (s : LyS) : Prop :=
  ∃ va vt, W.heap[g]? = some (.cells #[va, vt, .int .i64 s.sp, .int .i64 s.wt, .bool s.first, .bool s.l0, .bool s.l1] 87 (0, 0)) ∧ Kd.R k93 93 W base (fun _ => True) va s.arms ∧ Kd.R k59 59 W base (fun _ => True) vt s.tiles
theorem LyAt.below {W W' : World} {g base : Nat} {s : LyS} (h : LyAt W g base s) (hb : Below W.heap.size W W') : LyAt W' g base s := by
  obtain ⟨va, vt, h1, h2, h3⟩ := h
  exact ⟨va, vt, (hb.block g (Array.getElem?_eq_some_iff.1 h1).1).trans h1, Kd.R_below h2 hb, Kd.R_below h3 hb⟩
theorem St.doneL {W W1 : World} {g base N : Nat} {wn : World} {va vt : Value} {s : LyS} (h : St 87 W W1 g base N [.int .i64 s.sp, .int .i64 s.wt, .bool s.first, .bool s.l0, .bool s.l1] wn va vt s.arms s.tiles) : LyAt wn g base s :=
  ⟨va, vt, h.G, Kd.R_mono h.RA fun _ _ => trivial, Kd.R_mono h.RT fun _ _ => trivial⟩
theorem tiGood_good (t : S59) : spec_tiGood.f t.f0 t.f1 = some (goodT t) := by
  unfold spec_tiGood.f spec_l1In.f goodT
  by_cases h : t.f0 ≥ 0
  · rw [if_pos h]; by_cases h2 : t.f0 ≤ t.f1 <;> simp [h, h2]
  · rw [if_neg h]; simp [h]
theorem haOther_has {t : S59} (hg : goodT t = true) {n : Int} (hh : hasB2 n t = true) : spec_haOther.f t.f0 t.f1 n = some (t.f0 + t.f1 - n) ∧ ¬ (t.f0 + t.f1 - n) < 0 := by
  have := goodT_nums hg
  have hn : n = t.f0 ∨ n = t.f1 := by
    unfold hasB2 at hh
    rw [Bool.or_eq_true, decide_eq_true_eq, decide_eq_true_eq] at hh
    omega
  refine ⟨?_, by omega⟩
  unfold spec_haOther.f
  by_cases c : n = t.f0
  · rw [if_pos c]; congr 1; omega
  · rw [if_neg c, if_pos (by omega)]; congr 1; omega
theorem haOther_no {t : S59} {n : Int} (hh : ¬ hasB2 n t = true) : spec_haOther.f t.f0 t.f1 n = some (-1) := by
  unfold hasB2 at hh
  rw [Bool.or_eq_true, decide_eq_true_eq, decide_eq_true_eq] at hh
  unfold spec_haOther.f
  rw [if_neg (fun c => hh (.inl c.symm)), if_neg (fun c => hh (.inr c.symm))]
theorem l1In_f (a : Int) (n : Nat) (hn : n ≤ 1000) : spec_l1In.f a 0 (wrap64 ((n : Int) - 1)) = some (decide (0 ≤ a ∧ a < n)) := by
  have e : wrap64 ((n : Int) - 1) = (n : Int) - 1 := by unfold wrap64; omega
  unfold spec_l1In.f
  rw [e]
  by_cases c : a ≥ 0
  · rw [if_pos c]
    congr 1
    rw [decide_eq_decide]
    omega
  · rw [if_neg c, decide_eq_false (fun h => c h.1)]
set_option maxHeartbeats 8000000 in
set_option maxRecDepth 100000 in
theorem spec_lyState_add.gcalls (k : Nat) (g base : Nat) (s : LyS) (t : S59) (arm : Int) (o : Option LyS) (ho : addL s t arm = o) (W : World) (hs : LyAt W g base s) (hbase : base ≤ g) (hbs : base ≤ W.heap.size)
  (pl : Int) (hpl : pl ≥ 0 ↔ t ∈ s.tiles) (hc : spec_tiPlace.f k s.tiles t.f0 t.f1 = some pl) (hlen : s.arms.length ≤ 1000 ∧ s.tiles.length ≤ 28) :
  Calls Try.prog 70 #[.pointer (some ⟨g, 0, none⟩), .agg #[.int .i64 t.f0, .int .i64 t.f1, .int .i64 arm]] W fun e W' => e = .returned (.bool o.isSome) ∧ LyAt W' g base (o.getD s) ∧ Below base W W' := by
 obtain ⟨va, vt, hb, hra, hrt⟩ := hs
 have hgl : g < W.heap.size := (Array.getElem?_eq_some_iff.1 hb).1
 obtain ⟨Aa, ca, rfl, hlca, _⟩ := Kd.R_reads hra
 obtain ⟨At, ct, rfl, hlct, _⟩ := Kd.R_reads hrt
 have HR := Aside0.mk (And.intro hra hrt)
 have HC := Aside0.mk hc
 have HO := Aside0.mk ho
 have HPL := Aside0.mk hpl
 clear hra hrt hc ho hpl
 go_enter Try.func70, Try.ntmps70
 go_wp2

 have hP : (W.alloc (.cells #[.int .i64 t.f0, .int .i64 t.f1, .int .i64 arm] 61)).heap[W.heap.size]? = some (.cells #[.int .i64 t.f0, .int .i64 t.f1, .int .i64 arm] 61 (0, 0)) := heap_alloc_new _ _
 have hB : Below W.heap.size W (W.alloc (.cells #[.int .i64 t.f0, .int .i64 t.f1, .int .i64 arm] 61)) := (Below.refl W.heap.size W).alloc (Nat.le_refl _) _
 have hSz : (W.alloc (.cells #[.int .i64 t.f0, .int .i64 t.f1, .int .i64 arm] 61)).heap.size = W.heap.size + 1 := by simp
 generalize W.alloc (.cells #[.int .i64 t.f0, .int .i64 t.f1, .int .i64 arm] 61) = W1 at hP hB hSz ⊢
 have hG : W1.heap[g]? = some (.cells #[.slice Aa s.arms.length ca, .slice At s.tiles.length ct, .int .i64 s.sp, .int .i64 s.wt, .bool s.first, .bool s.l0, .bool s.l1] 87 (0, 0)) := (hB.block g hgl).trans hb
 have hSt : St 87 W W1 g base (W.heap.size + 1) [.int .i64 s.sp, .int .i64 s.wt, .bool s.first, .bool s.l0, .bool s.l1] W1 (.slice Aa s.arms.length ca) (.slice At s.tiles.length ct) s.arms s.tiles :=
  ⟨hG, Kd.R_mono (Kd.R_types (Kd.R_below (Kd.R_bound HR.out.1) hB) hG (by decide)) (fun k hk => ⟨hk.2, .inl hk.1.2.2.1⟩), Kd.R_mono (Kd.R_types (Kd.R_below (Kd.R_bound HR.out.2) hB) hG (by decide)) (fun k hk => ⟨hk.2, .inl hk.1.2.2.1⟩), hB.mono hbs, by omega, fun _ _ _ => rfl⟩
 have HST := Aside0.mk hSt
 have HPT := Aside0.mk hP
 obtain ⟨t0, ft0⟩ := heap_cell hP 0 (.int .i64 t.f0) rfl
 obtain ⟨t1, ft1⟩ := heap_cell hP 1 (.int .i64 t.f1) rfl
 obtain ⟨c1, f1⟩ := heap_cell hG 1 (.slice At s.tiles.length ct) rfl
 have hCC : ∀ w', Below W1.heap.size W1 w' → Calls Try.prog 78 #[.slice At s.tiles.length ct, .agg #[.int .i64 t.f0, .int .i64 t.f1]] w' fun e w2 => e = .returned (.int .i64 pl) ∧ Below w'.heap.size w' w2 := by
  intro w' hb'
  obtain ⟨_, _, hcc⟩ := Kd.R_reads' (Kd.R_below (Kd.R_below HR.out.2 hB) hb')
  exact spec_tiPlace.calls k At ct s.tiles t.f0 t.f1 pl w' hcc hlct HC.out
 have HCC := Aside0.mk hCC
 clear hCC HC HR hB hG hP hb hSt
 by_cases hg : goodT t = true
 rotate_left
 ·have hgf : goodT t = false := by simpa using hg
  have HP := Aside0.mk (show addL s t arm = none by unfold addL; rw [if_neg (fun c => hg c.1)])
  refine start_ (n := 22) (S := fun w' => w'.cell? ⟨W.heap.size, 0, none⟩ = some (.int .i64 t.f0) ∧ w'.cell? ⟨W.heap.size, 1, none⟩ = some (.int .i64 t.f1) ∧ Below W1.heap.size W1 w') (ds := []) am0 (by kernel_rfl) rfl rfl ⟨(cell_b t0 (belowD (Below.refl _ _))), (cell_b t1 (belowD (Below.refl _ _))), (belowD (Below.refl _ _))⟩ (fun hHeld => ?_)
  refine pure_ (i := 0) (N := some 8) (v := ?_) (a' := ?_) am1 rfl rfl (by kernel_rfl) (fun _ _ _ h => h) (Or.inl ⟨by rfl, ?_⟩) ?_ ?_
  rotate_left
  ·intro w'
   go_simp
   with_reducible rfl
  rotate_left
  ·simp only [amsP]
   rfl
  refine take_ (i := 1) (N := some 9) (v := ?_) (a' := ?_) am2 rfl rfl (by kernel_rfl) (fun _ _ _ h => h) (Or.inl ⟨by rfl, ?_⟩) hHeld ?_ ?_
  rotate_left
  ·rintro w' ⟨s0, s1, s2⟩
   go_simp
   with_reducible rfl
  rotate_left
  ·simp only [amsP]
   rfl
  refine one_ (i := 2) (N := some 10) am3 rfl rfl (by kernel_rfl) (by decide) (fun K hK => ?_)
  refine goes_ Try.func77 (by kernel_rfl) rfl #[.agg #[.int .i64 t.f0, .int .i64 t.f1]] (by rfl) rfl rfl (by simp only [List.map_toArray, List.map_cons, List.map_nil]; rfl) ?_
  with_reducible refine (spec_tiGood.calls t.f0 t.f1 _ _ ((tiGood_good t).trans (congrArg some hgf))).mono ?_
  rintro e w3 ⟨rfl, hb_2⟩
  refine ⟨_, rfl, ?_⟩
  have hB_2 := belowS hHeld.2.2 hb_2
  refine hK.out _ _ ⟨(cell_b t0 hB_2), (cell_b t1 hB_2), hB_2⟩ (fun hHeld => ?_)
  clear hK K
  refine norm_ (a' := ?_) ?_ ?_
  rotate_left
  ·show Act.put _ (some 10) _ = _
   simp only [amsP]
   rfl
  refine pure_ (i := 3) (N := some 11) (v := ?_) (a' := ?_) am4 rfl rfl (by kernel_rfl) (fun _ _ _ h => h) (Or.inl ⟨by rfl, ?_⟩) ?_ ?_
  rotate_left
  ·intro w'
   go_simp
   with_reducible rfl
  rotate_left
  ·simp only [amsP]
   rfl
  refine pure_ (i := 4) (N := some 12) (v := ?_) (a' := ?_) am5 rfl rfl (by kernel_rfl) (fun _ _ _ h => h) (Or.inl ⟨by rfl, ?_⟩) ?_ ?_
  rotate_left
  ·intro w'
   go_simp
   with_reducible rfl
  rotate_left
  ·simp only [amsP]
   rfl
  refine pure_ (i := 5) (N := some 13) (v := undef) (a' := ?_) am6 rfl rfl (by kernel_rfl) (fun _ _ _ h => h) (Or.inr ⟨by rfl, rfl⟩) ?_ ?_
  rotate_left
  ·simp only [amsP]
   rfl
  refine pure_ (i := 6) (N := some 14) (v := undef) (a' := ?_) am7 rfl rfl (by kernel_rfl) (fun _ _ _ h => h) (Or.inr ⟨by rfl, rfl⟩) ?_ ?_
  rotate_left
  ·simp only [amsP]
   rfl
  refine pure_ (i := 7) (N := some 15) (v := undef) (a' := ?_) am8 rfl rfl (by kernel_rfl) (fun _ _ _ h => h) (Or.inr ⟨by rfl, rfl⟩) ?_ ?_
  rotate_left
  ·simp only [amsP]
   rfl
  refine pure_ (i := 8) (N := some 16) (v := undef) (a' := ?_) am9 rfl rfl (by kernel_rfl) (fun _ _ _ h => h) (Or.inr ⟨by rfl, rfl⟩) ?_ ?_
  rotate_left
  ·simp only [amsP]
   rfl
  refine pure_ (i := 9) (N := some 17) (v := undef) (a' := ?_) am10 rfl rfl (by kernel_rfl) (fun _ _ _ h => h) (Or.inr ⟨by rfl, rfl⟩) ?_ ?_
  rotate_left
  ·simp only [amsP]
   rfl
  refine pure_ (i := 10) (N := some 18) (v := undef) (a' := ?_) am11 rfl rfl (by kernel_rfl) (fun _ _ _ h => h) (Or.inr ⟨by rfl, rfl⟩) ?_ ?_
  rotate_left
  ·simp only [amsP]
   rfl
  refine pure_ (i := 11) (N := some 19) (v := undef) (a' := ?_) am12 rfl rfl (by kernel_rfl) (fun _ _ _ h => h) (Or.inr ⟨by rfl, rfl⟩) ?_ ?_
  rotate_left
  ·simp only [amsP]
   rfl
  refine pure_ (i := 12) (N := some 20) (v := undef) (a' := ?_) am13 rfl rfl (by kernel_rfl) (fun _ _ _ h => h) (Or.inr ⟨by rfl, rfl⟩) ?_ ?_
  rotate_left
  ·simp only [amsP]
   rfl
  refine pure_ (i := 13) (N := some 21) (v := ?_) (a' := ?_) am14 rfl rfl (by kernel_rfl) (fun _ _ _ h => h) (Or.inl ⟨by rfl, ?_⟩) ?_ ?_
  rotate_left
  ·intro w'
   go_simp
   with_reducible rfl
  rotate_left
  ·simp only [amsP]
   rfl
  refine pure_ (i := 14) (N := some 22) (v := ?_) (a' := ?_) am15 rfl rfl (by kernel_rfl) (fun _ _ _ h => h) (Or.inl ⟨by rfl, ?_⟩) ?_ ?_
  rotate_left
  ·intro w'
   go_simp
   with_reducible rfl
  rotate_left
  ·simp only [amsP]
   rfl
  refine pure_ (i := 15) (N := some 23) (v := undef) (a' := ?_) am16 rfl rfl (by kernel_rfl) (fun _ _ _ h => h) (Or.inr ⟨by rfl, rfl⟩) ?_ ?_
  rotate_left
  ·simp only [amsP]
   rfl
  refine pure_ (i := 16) (N := some 24) (v := undef) (a' := ?_) am17 rfl rfl (by kernel_rfl) (fun _ _ _ h => h) (Or.inr ⟨by rfl, rfl⟩) ?_ ?_
  rotate_left
  ·simp only [amsP]
   rfl
  refine pure_ (i := 17) (N := some 25) (v := undef) (a' := ?_) am18 rfl rfl (by kernel_rfl) (fun _ _ _ h => h) (Or.inr ⟨by rfl, rfl⟩) ?_ ?_
  rotate_left
  ·simp only [amsP]
   rfl
  refine pure_ (i := 18) (N := some 26) (v := undef) (a' := ?_) am19 rfl rfl (by kernel_rfl) (fun _ _ _ h => h) (Or.inr ⟨by rfl, rfl⟩) ?_ ?_
  rotate_left
  ·simp only [amsP]
   rfl
  refine pure_ (i := 19) (N := some 27) (v := undef) (a' := ?_) am20 rfl rfl (by kernel_rfl) (fun _ _ _ h => h) (Or.inr ⟨by rfl, rfl⟩) ?_ ?_
  rotate_left
  ·simp only [amsP]
   rfl
  refine pure_ (i := 20) (N := some 28) (v := undef) (a' := ?_) am21 rfl rfl (by kernel_rfl) (fun _ _ _ h => h) (Or.inr ⟨by rfl, rfl⟩) ?_ ?_
  rotate_left
  ·simp only [amsP]
   rfl
  refine pure_ (i := 21) (N := some 29) (v := ?_) (a' := ?_) am22 rfl rfl (by kernel_rfl) (fun _ _ _ h => h) (Or.inl ⟨by rfl, ?_⟩) ?_ ?_
  rotate_left
  ·intro w'
   go_simp
   with_reducible rfl
  rotate_left
  ·simp only [amsP]
   rfl
  refine done_ (by kernel_rfl) ?_
  have HST2 := Aside0.mk (HST.out.below hHeld.2.2 hbs (by omega))
  go_wp2
  obtain rfl : o = none := HO.out.symm.trans HP.out
  go_ret
  exact ⟨rfl, HST2.out.doneL, HST2.out.BL⟩
 by_cases hm : pl ≥ 0
 ·have HP := Aside0.mk (show addL s t arm = none by unfold addL; rw [if_neg (fun c => c.2.1 (HPL.out.1 hm))])
  have hplb : decide (pl ≥ 0) = true := decide_eq_true hm
  have hplb2 : decide (0 ≤ pl) = true := decide_eq_true hm
  refine start_ (n := 22) (S := fun w' => w'.cell? ⟨W.heap.size, 0, none⟩ = some (.int .i64 t.f0) ∧ w'.cell? ⟨W.heap.size, 1, none⟩ = some (.int .i64 t.f1) ∧ w'.cell? ⟨g, 1, none⟩ = some (.slice At s.tiles.length ct) ∧ Below W1.heap.size W1 w') (ds := []) am0 (by kernel_rfl) rfl rfl ⟨(cell_b t0 (belowD (Below.refl _ _))), (cell_b t1 (belowD (Below.refl _ _))), (cell_b c1 (belowD (Below.refl _ _))), (belowD (Below.refl _ _))⟩ (fun hHeld => ?_)
  refine pure_ (i := 0) (N := some 8) (v := ?_) (a' := ?_) am1 rfl rfl (by kernel_rfl) (fun _ _ _ h => h) (Or.inl ⟨by rfl, ?_⟩) ?_ ?_
  rotate_left
  ·intro w'
   go_simp
   with_reducible rfl
  rotate_left
  ·simp only [amsP]
   rfl
  refine take_ (i := 1) (N := some 9) (v := ?_) (a' := ?_) am2 rfl rfl (by kernel_rfl) (fun _ _ _ h => h) (Or.inl ⟨by rfl, ?_⟩) hHeld ?_ ?_
  rotate_left
  ·rintro w' ⟨s0, s1, s2, s3⟩
   go_simp
   with_reducible rfl
  rotate_left
  ·simp only [amsP]
   rfl
  refine one_ (i := 2) (N := some 10) am3 rfl rfl (by kernel_rfl) (by decide) (fun K hK => ?_)
  refine goes_ Try.func77 (by kernel_rfl) rfl #[.agg #[.int .i64 t.f0, .int .i64 t.f1]] (by rfl) rfl rfl (by simp only [List.map_toArray, List.map_cons, List.map_nil]; rfl) ?_
  with_reducible refine (spec_tiGood.calls t.f0 t.f1 _ _ ((tiGood_good t).trans (congrArg some hg))).mono ?_
  rintro e w3 ⟨rfl, hb_2⟩
  refine ⟨_, rfl, ?_⟩
  have hB_2 := belowS hHeld.2.2.2 hb_2
  refine hK.out _ _ ⟨(cell_b t0 hB_2), (cell_b t1 hB_2), (cell_b c1 hB_2), hB_2⟩ (fun hHeld => ?_)
  clear hK K
  refine norm_ (a' := ?_) ?_ ?_
  rotate_left
  ·show Act.put _ (some 10) _ = _
   simp only [amsP]
   rfl
  refine pure_ (i := 3) (N := some 11) (v := ?_) (a' := ?_) am4 rfl rfl (by kernel_rfl) (fun _ _ _ h => h) (Or.inl ⟨by rfl, ?_⟩) ?_ ?_
  rotate_left
  ·intro w'
   go_simp
   with_reducible rfl
  rotate_left
  ·simp only [amsP]
   rfl
  refine pure_ (i := 4) (N := some 12) (v := ?_) (a' := ?_) am5 rfl rfl (by kernel_rfl) (fun _ _ _ h => h) (Or.inl ⟨by rfl, ?_⟩) ?_ ?_
  rotate_left
  ·intro w'
   go_simp
   with_reducible rfl
  rotate_left
  ·simp only [amsP]
   rfl
  refine pure_ (i := 5) (N := some 13) (v := ?_) (a' := ?_) am6 rfl rfl (by kernel_rfl) (fun _ _ _ h => h) (Or.inl ⟨by rfl, ?_⟩) ?_ ?_
  rotate_left
  ·intro w'
   go_simp
   with_reducible rfl
  rotate_left
  ·simp only [amsP]
   rfl
  refine pure_ (i := 6) (N := some 14) (v := ?_) (a' := ?_) am7 rfl rfl (by kernel_rfl) (fun _ _ _ h => h) (Or.inl ⟨by rfl, ?_⟩) ?_ ?_
  rotate_left
  ·intro w'
   go_simp
   with_reducible rfl
  rotate_left
  ·simp only [amsP]
   rfl
  refine pure_ (i := 7) (N := some 15) (v := ?_) (a' := ?_) am8 rfl rfl (by kernel_rfl) (fun _ _ _ h => h) (Or.inl ⟨by rfl, ?_⟩) ?_ ?_
  rotate_left
  ·intro w'
   go_simp
   with_reducible rfl
  rotate_left
  ·simp only [amsP]
   rfl
  refine pure_ (i := 9) (N := some 17) (v := ?_) (a' := ?_) am23 rfl rfl (by kernel_rfl) (fun _ _ _ h => h) (Or.inl ⟨by rfl, ?_⟩) ?_ ?_
  rotate_left
  ·intro w'
   go_simp
   with_reducible rfl
  rotate_left
  ·simp only [amsP]
   rfl
  refine take_ (i := 8) (N := some 16) (v := ?_) (a' := ?_) am10 rfl rfl (by kernel_rfl) (fun _ _ _ h => h) (Or.inl ⟨by rfl, ?_⟩) hHeld ?_ ?_
  rotate_left
  ·rintro w' ⟨s0, s1, s2, s3⟩
   go_simp
   with_reducible rfl
  rotate_left
  ·simp only [amsP]
   rfl
  refine take_ (i := 10) (N := some 18) (v := ?_) (a' := ?_) am11 rfl rfl (by kernel_rfl) (fun _ _ _ h => h) (Or.inl ⟨by rfl, ?_⟩) hHeld ?_ ?_
  rotate_left
  ·rintro w' ⟨s0, s1, s2, s3⟩
   go_simp
   with_reducible rfl
  rotate_left
  ·simp only [amsP]
   rfl
  refine one_ (i := 11) (N := some 19) am12 rfl rfl (by kernel_rfl) (by decide) (fun K hK => ?_)
  refine goes_ Try.func78 (by kernel_rfl) rfl #[.slice At s.tiles.length ct, .agg #[.int .i64 t.f0, .int .i64 t.f1]] (by rfl) rfl rfl (by simp only [List.map_toArray, List.map_cons, List.map_nil]; rfl) ?_
  with_reducible refine (HCC.out _ hB_2).mono ?_
  rintro e w4 ⟨rfl, hb_11⟩
  refine ⟨_, rfl, ?_⟩
  have hB_11 := belowS hHeld.2.2.2 hb_11
  refine hK.out _ _ ⟨(cell_b t0 hB_11), (cell_b t1 hB_11), (cell_b c1 hB_11), hB_11⟩ (fun hHeld => ?_)
  clear hK K
  refine norm_ (a' := ?_) ?_ ?_
  rotate_left
  ·show Act.put _ (some 19) _ = _
   simp only [amsP]
   rfl
  refine pure_ (i := 12) (N := some 20) (v := ?_) (a' := ?_) am13 rfl rfl (by kernel_rfl) (fun _ _ _ h => h) (Or.inl ⟨by rfl, ?_⟩) ?_ ?_
  rotate_left
  ·intro w'
   go_simp
   with_reducible rfl
  rotate_left
  ·simp only [amsP]
   rfl
  refine pure_ (i := 13) (N := some 21) (v := ?_) (a' := ?_) am14 rfl rfl (by kernel_rfl) (fun _ _ _ h => h) (Or.inl ⟨by rfl, ?_⟩) ?_ ?_
  rotate_left
  ·intro w'
   go_simp
   with_reducible rfl
  rotate_left
  ·simp only [amsP]
   rfl
  refine pure_ (i := 14) (N := some 22) (v := ?_) (a' := ?_) am15 rfl rfl (by kernel_rfl) (fun _ _ _ h => h) (Or.inl ⟨by rfl, ?_⟩) ?_ ?_
  rotate_left
  ·intro w'
   go_simp
   with_reducible rfl
  rotate_left
  ·simp only [amsP]
   rfl
  refine pure_ (i := 15) (N := some 23) (v := undef) (a' := ?_) am16 rfl rfl (by kernel_rfl) (fun _ _ _ h => h) (Or.inr ⟨by rfl, rfl⟩) ?_ ?_
  rotate_left
  ·simp only [amsP]
   rfl
  refine pure_ (i := 16) (N := some 24) (v := undef) (a' := ?_) am17 rfl rfl (by kernel_rfl) (fun _ _ _ h => h) (Or.inr ⟨by rfl, rfl⟩) ?_ ?_
  rotate_left
  ·simp only [amsP]
   rfl
  refine pure_ (i := 17) (N := some 25) (v := undef) (a' := ?_) am18 rfl rfl (by kernel_rfl) (fun _ _ _ h => h) (Or.inr ⟨by rfl, rfl⟩) ?_ ?_
  rotate_left
  ·simp only [amsP]
   rfl
  refine pure_ (i := 18) (N := some 26) (v := undef) (a' := ?_) am19 rfl rfl (by kernel_rfl) (fun _ _ _ h => h) (Or.inr ⟨by rfl, rfl⟩) ?_ ?_
  rotate_left
  ·simp only [amsP]
   rfl
  refine pure_ (i := 19) (N := some 27) (v := undef) (a' := ?_) am20 rfl rfl (by kernel_rfl) (fun _ _ _ h => h) (Or.inr ⟨by rfl, rfl⟩) ?_ ?_
  rotate_left
  ·simp only [amsP]
   rfl
  refine pure_ (i := 20) (N := some 28) (v := undef) (a' := ?_) am21 rfl rfl (by kernel_rfl) (fun _ _ _ h => h) (Or.inr ⟨by rfl, rfl⟩) ?_ ?_
  rotate_left
  ·simp only [amsP]
   rfl
  refine pure_ (i := 21) (N := some 29) (v := ?_) (a' := ?_) am22 rfl rfl (by kernel_rfl) (fun _ _ _ h => h) (Or.inl ⟨by rfl, ?_⟩) ?_ ?_
  rotate_left
  ·intro w'
   go_simp
   with_reducible rfl
  rotate_left
  ·simp only [amsP]
   rfl
  refine done_ (by kernel_rfl) ?_
  have HST2 := Aside0.mk (HST.out.below hHeld.2.2.2 hbs (by omega))
  go_wp2
  obtain rfl : o = none := HO.out.symm.trans HP.out
  go_ret
  exact ⟨rfl, HST2.out.doneL, HST2.out.BL⟩
 have hplb : decide (pl ≥ 0) = false := decide_eq_false hm
 have hplb2 : decide (0 ≤ pl) = false := decide_eq_false hm
 by_cases h28 : s.tiles.length = 28
 ·have HP := Aside0.mk (show addL s t arm = none by unfold addL; rw [if_neg (fun c => by have := c.2.2; omega)])
  have h28b : decide ((s.tiles.length : Int) ≥ 28) = true := decide_eq_true (by omega)
  have h28c : decide (28 ≤ (s.tiles.length : Int)) = true := decide_eq_true (by omega)
  have h28d : decide (28 ≤ s.tiles.length) = true := decide_eq_true (by omega)
  clear h28
  refine start_ (n := 22) (S := fun w' => w'.cell? ⟨W.heap.size, 0, none⟩ = some (.int .i64 t.f0) ∧ w'.cell? ⟨W.heap.size, 1, none⟩ = some (.int .i64 t.f1) ∧ w'.cell? ⟨g, 1, none⟩ = some (.slice At s.tiles.length ct) ∧ Below W1.heap.size W1 w') (ds := []) am0 (by kernel_rfl) rfl rfl ⟨(cell_b t0 (belowD (Below.refl _ _))), (cell_b t1 (belowD (Below.refl _ _))), (cell_b c1 (belowD (Below.refl _ _))), (belowD (Below.refl _ _))⟩ (fun hHeld => ?_)
  refine pure_ (i := 0) (N := some 8) (v := ?_) (a' := ?_) am1 rfl rfl (by kernel_rfl) (fun _ _ _ h => h) (Or.inl ⟨by rfl, ?_⟩) ?_ ?_
  rotate_left
  ·intro w'
   go_simp
   with_reducible rfl
  rotate_left
  ·simp only [amsP]
   rfl
  refine take_ (i := 1) (N := some 9) (v := ?_) (a' := ?_) am2 rfl rfl (by kernel_rfl) (fun _ _ _ h => h) (Or.inl ⟨by rfl, ?_⟩) hHeld ?_ ?_
  rotate_left
  ·rintro w' ⟨s0, s1, s2, s3⟩
   go_simp
   with_reducible rfl
  rotate_left
  ·simp only [amsP]
   rfl
  refine one_ (i := 2) (N := some 10) am3 rfl rfl (by kernel_rfl) (by decide) (fun K hK => ?_)
  refine goes_ Try.func77 (by kernel_rfl) rfl #[.agg #[.int .i64 t.f0, .int .i64 t.f1]] (by rfl) rfl rfl (by simp only [List.map_toArray, List.map_cons, List.map_nil]; rfl) ?_
  with_reducible refine (spec_tiGood.calls t.f0 t.f1 _ _ ((tiGood_good t).trans (congrArg some hg))).mono ?_
  rintro e w3 ⟨rfl, hb_2⟩
  refine ⟨_, rfl, ?_⟩
  have hB_2 := belowS hHeld.2.2.2 hb_2
  refine hK.out _ _ ⟨(cell_b t0 hB_2), (cell_b t1 hB_2), (cell_b c1 hB_2), hB_2⟩ (fun hHeld => ?_)
  clear hK K
  refine norm_ (a' := ?_) ?_ ?_
  rotate_left
  ·show Act.put _ (some 10) _ = _
   simp only [amsP]
   rfl
  refine pure_ (i := 3) (N := some 11) (v := ?_) (a' := ?_) am4 rfl rfl (by kernel_rfl) (fun _ _ _ h => h) (Or.inl ⟨by rfl, ?_⟩) ?_ ?_
  rotate_left
  ·intro w'
   go_simp
   with_reducible rfl
  rotate_left
  ·simp only [amsP]
   rfl
  refine pure_ (i := 4) (N := some 12) (v := ?_) (a' := ?_) am5 rfl rfl (by kernel_rfl) (fun _ _ _ h => h) (Or.inl ⟨by rfl, ?_⟩) ?_ ?_
  rotate_left
  ·intro w'
   go_simp
   with_reducible rfl
  rotate_left
  ·simp only [amsP]
   rfl
  refine pure_ (i := 5) (N := some 13) (v := ?_) (a' := ?_) am6 rfl rfl (by kernel_rfl) (fun _ _ _ h => h) (Or.inl ⟨by rfl, ?_⟩) ?_ ?_
  rotate_left
  ·intro w'
   go_simp
   with_reducible rfl
  rotate_left
  ·simp only [amsP]
   rfl
  refine pure_ (i := 6) (N := some 14) (v := ?_) (a' := ?_) am7 rfl rfl (by kernel_rfl) (fun _ _ _ h => h) (Or.inl ⟨by rfl, ?_⟩) ?_ ?_
  rotate_left
  ·intro w'
   go_simp
   with_reducible rfl
  rotate_left
  ·simp only [amsP]
   rfl
  refine pure_ (i := 7) (N := some 15) (v := ?_) (a' := ?_) am8 rfl rfl (by kernel_rfl) (fun _ _ _ h => h) (Or.inl ⟨by rfl, ?_⟩) ?_ ?_
  rotate_left
  ·intro w'
   go_simp
   with_reducible rfl
  rotate_left
  ·simp only [amsP]
   rfl
  refine pure_ (i := 9) (N := some 17) (v := ?_) (a' := ?_) am23 rfl rfl (by kernel_rfl) (fun _ _ _ h => h) (Or.inl ⟨by rfl, ?_⟩) ?_ ?_
  rotate_left
  ·intro w'
   go_simp
   with_reducible rfl
  rotate_left
  ·simp only [amsP]
   rfl
  refine take_ (i := 8) (N := some 16) (v := ?_) (a' := ?_) am10 rfl rfl (by kernel_rfl) (fun _ _ _ h => h) (Or.inl ⟨by rfl, ?_⟩) hHeld ?_ ?_
  rotate_left
  ·rintro w' ⟨s0, s1, s2, s3⟩
   go_simp
   with_reducible rfl
  rotate_left
  ·simp only [amsP]
   rfl
  refine take_ (i := 10) (N := some 18) (v := ?_) (a' := ?_) am11 rfl rfl (by kernel_rfl) (fun _ _ _ h => h) (Or.inl ⟨by rfl, ?_⟩) hHeld ?_ ?_
  rotate_left
  ·rintro w' ⟨s0, s1, s2, s3⟩
   go_simp
   with_reducible rfl
  rotate_left
  ·simp only [amsP]
   rfl
  refine one_ (i := 11) (N := some 19) am12 rfl rfl (by kernel_rfl) (by decide) (fun K hK => ?_)
  refine goes_ Try.func78 (by kernel_rfl) rfl #[.slice At s.tiles.length ct, .agg #[.int .i64 t.f0, .int .i64 t.f1]] (by rfl) rfl rfl (by simp only [List.map_toArray, List.map_cons, List.map_nil]; rfl) ?_
  with_reducible refine (HCC.out _ hB_2).mono ?_
  rintro e w4 ⟨rfl, hb_11⟩
  refine ⟨_, rfl, ?_⟩
  have hB_11 := belowS hHeld.2.2.2 hb_11
  refine hK.out _ _ ⟨(cell_b t0 hB_11), (cell_b t1 hB_11), (cell_b c1 hB_11), hB_11⟩ (fun hHeld => ?_)
  clear hK K
  refine norm_ (a' := ?_) ?_ ?_
  rotate_left
  ·show Act.put _ (some 19) _ = _
   simp only [amsP]
   rfl
  refine pure_ (i := 12) (N := some 20) (v := ?_) (a' := ?_) am13 rfl rfl (by kernel_rfl) (fun _ _ _ h => h) (Or.inl ⟨by rfl, ?_⟩) ?_ ?_
  rotate_left
  ·intro w'
   go_simp
   with_reducible rfl
  rotate_left
  ·simp only [amsP]
   rfl
  refine pure_ (i := 13) (N := some 21) (v := ?_) (a' := ?_) am14 rfl rfl (by kernel_rfl) (fun _ _ _ h => h) (Or.inl ⟨by rfl, ?_⟩) ?_ ?_
  rotate_left
  ·intro w'
   go_simp
   with_reducible rfl
  rotate_left
  ·simp only [amsP]
   rfl
  refine pure_ (i := 14) (N := some 22) (v := ?_) (a' := ?_) am15 rfl rfl (by kernel_rfl) (fun _ _ _ h => h) (Or.inl ⟨by rfl, ?_⟩) ?_ ?_
  rotate_left
  ·intro w'
   go_simp
   with_reducible rfl
  rotate_left
  ·simp only [amsP]
   rfl
  refine pure_ (i := 15) (N := some 23) (v := ?_) (a' := ?_) am16 rfl rfl (by kernel_rfl) (fun _ _ _ h => h) (Or.inl ⟨by rfl, ?_⟩) ?_ ?_
  rotate_left
  ·intro w'
   go_simp
   with_reducible rfl
  rotate_left
  ·simp only [amsP]
   rfl
  refine pure_ (i := 16) (N := some 24) (v := ?_) (a' := ?_) am17 rfl rfl (by kernel_rfl) (fun _ _ _ h => h) (Or.inl ⟨by rfl, ?_⟩) ?_ ?_
  rotate_left
  ·intro w'
   go_simp
   with_reducible rfl
  rotate_left
  ·simp only [amsP]
   rfl
  refine pure_ (i := 17) (N := some 25) (v := ?_) (a' := ?_) am18 rfl rfl (by kernel_rfl) (fun _ _ _ h => h) (Or.inl ⟨by rfl, ?_⟩) ?_ ?_
  rotate_left
  ·intro w'
   go_simp
   with_reducible rfl
  rotate_left
  ·simp only [amsP]
   rfl
  refine take_ (i := 18) (N := some 26) (v := ?_) (a' := ?_) am19 rfl rfl (by kernel_rfl) (fun _ _ _ h => h) (Or.inl ⟨by rfl, ?_⟩) hHeld ?_ ?_
  rotate_left
  ·rintro w' ⟨s0, s1, s2, s3⟩
   go_simp
   with_reducible rfl
  rotate_left
  ·simp only [amsP]
   rfl
  refine pure_ (i := 19) (N := some 27) (v := ?_) (a' := ?_) am20 rfl rfl (by kernel_rfl) (fun _ _ _ h => h) (Or.inl ⟨by rfl, ?_⟩) ?_ ?_
  rotate_left
  ·intro w'
   go_simp
   with_reducible rfl
  rotate_left
  ·simp only [amsP]
   rfl
  refine pure_ (i := 20) (N := some 28) (v := ?_) (a' := ?_) am21 rfl rfl (by kernel_rfl) (fun _ _ _ h => h) (Or.inl ⟨by rfl, ?_⟩) ?_ ?_
  rotate_left
  ·intro w'
   go_simp
   with_reducible rfl
  rotate_left
  ·simp only [amsP]
   rfl
  refine pure_ (i := 21) (N := some 29) (v := ?_) (a' := ?_) am22 rfl rfl (by kernel_rfl) (fun _ _ _ h => h) (Or.inl ⟨by rfl, ?_⟩) ?_ ?_
  rotate_left
  ·intro w'
   go_simp
   with_reducible rfl
  rotate_left
  ·simp only [amsP]
   rfl
  refine done_ (by kernel_rfl) ?_
  have HST2 := Aside0.mk (HST.out.below hHeld.2.2.2 hbs (by omega))
  go_wp2
  obtain rfl : o = none := HO.out.symm.trans HP.out
  go_ret
  exact ⟨rfl, HST2.out.doneL, HST2.out.BL⟩
 have h28b : decide ((s.tiles.length : Int) ≥ 28) = false := decide_eq_false (by omega)
 have h28c : decide (28 ≤ (s.tiles.length : Int)) = false := decide_eq_false (by omega)
 have h28d : decide (28 ≤ s.tiles.length) = false := decide_eq_false (by omega)
 have HGD := Aside0.mk (show goodT t = true ∧ t ∉ s.tiles ∧ s.tiles.length < 28 from ⟨hg, fun c => hm (HPL.out.2 c), by omega⟩)
 clear hm h28
 refine start_ (n := 22) (S := fun w' => w'.cell? ⟨W.heap.size, 0, none⟩ = some (.int .i64 t.f0) ∧ w'.cell? ⟨W.heap.size, 1, none⟩ = some (.int .i64 t.f1) ∧ w'.cell? ⟨g, 1, none⟩ = some (.slice At s.tiles.length ct) ∧ Below W1.heap.size W1 w') (ds := []) am0 (by kernel_rfl) rfl rfl ⟨(cell_b t0 (belowD (Below.refl _ _))), (cell_b t1 (belowD (Below.refl _ _))), (cell_b c1 (belowD (Below.refl _ _))), (belowD (Below.refl _ _))⟩ (fun hHeld => ?_)
 refine pure_ (i := 0) (N := some 8) (v := ?_) (a' := ?_) am1 rfl rfl (by kernel_rfl) (fun _ _ _ h => h) (Or.inl ⟨by rfl, ?_⟩) ?_ ?_
 rotate_left
 ·intro w'
  go_simp
  with_reducible rfl
 rotate_left
 ·simp only [amsP]
  rfl
 refine take_ (i := 1) (N := some 9) (v := ?_) (a' := ?_) am2 rfl rfl (by kernel_rfl) (fun _ _ _ h => h) (Or.inl ⟨by rfl, ?_⟩) hHeld ?_ ?_
 rotate_left
 ·rintro w' ⟨s0, s1, s2, s3⟩
  go_simp
  with_reducible rfl
 rotate_left
 ·simp only [amsP]
  rfl
 refine one_ (i := 2) (N := some 10) am3 rfl rfl (by kernel_rfl) (by decide) (fun K hK => ?_)
 refine goes_ Try.func77 (by kernel_rfl) rfl #[.agg #[.int .i64 t.f0, .int .i64 t.f1]] (by rfl) rfl rfl (by simp only [List.map_toArray, List.map_cons, List.map_nil]; rfl) ?_
 with_reducible refine (spec_tiGood.calls t.f0 t.f1 _ _ ((tiGood_good t).trans (congrArg some hg))).mono ?_
 rintro e w3 ⟨rfl, hb_2⟩
 refine ⟨_, rfl, ?_⟩
 have hB_2 := belowS hHeld.2.2.2 hb_2
 refine hK.out _ _ ⟨(cell_b t0 hB_2), (cell_b t1 hB_2), (cell_b c1 hB_2), hB_2⟩ (fun hHeld => ?_)
 clear hK K
 refine norm_ (a' := ?_) ?_ ?_
 rotate_left
 ·show Act.put _ (some 10) _ = _
  simp only [amsP]
  rfl
 refine pure_ (i := 3) (N := some 11) (v := ?_) (a' := ?_) am4 rfl rfl (by kernel_rfl) (fun _ _ _ h => h) (Or.inl ⟨by rfl, ?_⟩) ?_ ?_
 rotate_left
 ·intro w'
  go_simp
  with_reducible rfl
 rotate_left
 ·simp only [amsP]
  rfl
 refine pure_ (i := 4) (N := some 12) (v := ?_) (a' := ?_) am5 rfl rfl (by kernel_rfl) (fun _ _ _ h => h) (Or.inl ⟨by rfl, ?_⟩) ?_ ?_
 rotate_left
 ·intro w'
  go_simp
  with_reducible rfl
 rotate_left
 ·simp only [amsP]
  rfl
 refine pure_ (i := 5) (N := some 13) (v := ?_) (a' := ?_) am6 rfl rfl (by kernel_rfl) (fun _ _ _ h => h) (Or.inl ⟨by rfl, ?_⟩) ?_ ?_
 rotate_left
 ·intro w'
  go_simp
  with_reducible rfl
 rotate_left
 ·simp only [amsP]
  rfl
 refine pure_ (i := 6) (N := some 14) (v := ?_) (a' := ?_) am7 rfl rfl (by kernel_rfl) (fun _ _ _ h => h) (Or.inl ⟨by rfl, ?_⟩) ?_ ?_
 rotate_left
 ·intro w'
  go_simp
  with_reducible rfl
 rotate_left
 ·simp only [amsP]
  rfl
 refine pure_ (i := 7) (N := some 15) (v := ?_) (a' := ?_) am8 rfl rfl (by kernel_rfl) (fun _ _ _ h => h) (Or.inl ⟨by rfl, ?_⟩) ?_ ?_
 rotate_left
 ·intro w'
  go_simp
  with_reducible rfl
 rotate_left
 ·simp only [amsP]
  rfl
 refine pure_ (i := 9) (N := some 17) (v := ?_) (a' := ?_) am23 rfl rfl (by kernel_rfl) (fun _ _ _ h => h) (Or.inl ⟨by rfl, ?_⟩) ?_ ?_
 rotate_left
 ·intro w'
  go_simp
  with_reducible rfl
 rotate_left
 ·simp only [amsP]
  rfl
 refine take_ (i := 8) (N := some 16) (v := ?_) (a' := ?_) am10 rfl rfl (by kernel_rfl) (fun _ _ _ h => h) (Or.inl ⟨by rfl, ?_⟩) hHeld ?_ ?_
 rotate_left
 ·rintro w' ⟨s0, s1, s2, s3⟩
  go_simp
  with_reducible rfl
 rotate_left
 ·simp only [amsP]
  rfl
 refine take_ (i := 10) (N := some 18) (v := ?_) (a' := ?_) am11 rfl rfl (by kernel_rfl) (fun _ _ _ h => h) (Or.inl ⟨by rfl, ?_⟩) hHeld ?_ ?_
 rotate_left
 ·rintro w' ⟨s0, s1, s2, s3⟩
  go_simp
  with_reducible rfl
 rotate_left
 ·simp only [amsP]
  rfl
 refine one_ (i := 11) (N := some 19) am12 rfl rfl (by kernel_rfl) (by decide) (fun K hK => ?_)
 refine goes_ Try.func78 (by kernel_rfl) rfl #[.slice At s.tiles.length ct, .agg #[.int .i64 t.f0, .int .i64 t.f1]] (by rfl) rfl rfl (by simp only [List.map_toArray, List.map_cons, List.map_nil]; rfl) ?_
 with_reducible refine (HCC.out _ hB_2).mono ?_
 rintro e w4 ⟨rfl, hb_11⟩
 refine ⟨_, rfl, ?_⟩
 have hB_11 := belowS hHeld.2.2.2 hb_11
 refine hK.out _ _ ⟨(cell_b t0 hB_11), (cell_b t1 hB_11), (cell_b c1 hB_11), hB_11⟩ (fun hHeld => ?_)
 clear hK K
 refine norm_ (a' := ?_) ?_ ?_
 rotate_left
 ·show Act.put _ (some 19) _ = _
  simp only [amsP]
  rfl
 refine pure_ (i := 12) (N := some 20) (v := ?_) (a' := ?_) am13 rfl rfl (by kernel_rfl) (fun _ _ _ h => h) (Or.inl ⟨by rfl, ?_⟩) ?_ ?_
 rotate_left
 ·intro w'
  go_simp
  with_reducible rfl
 rotate_left
 ·simp only [amsP]
  rfl
 refine pure_ (i := 13) (N := some 21) (v := ?_) (a' := ?_) am14 rfl rfl (by kernel_rfl) (fun _ _ _ h => h) (Or.inl ⟨by rfl, ?_⟩) ?_ ?_
 rotate_left
 ·intro w'
  go_simp
  with_reducible rfl
 rotate_left
 ·simp only [amsP]
  rfl
 refine pure_ (i := 14) (N := some 22) (v := ?_) (a' := ?_) am15 rfl rfl (by kernel_rfl) (fun _ _ _ h => h) (Or.inl ⟨by rfl, ?_⟩) ?_ ?_
 rotate_left
 ·intro w'
  go_simp
  with_reducible rfl
 rotate_left
 ·simp only [amsP]
  rfl
 refine pure_ (i := 15) (N := some 23) (v := ?_) (a' := ?_) am16 rfl rfl (by kernel_rfl) (fun _ _ _ h => h) (Or.inl ⟨by rfl, ?_⟩) ?_ ?_
 rotate_left
 ·intro w'
  go_simp
  with_reducible rfl
 rotate_left
 ·simp only [amsP]
  rfl
 refine pure_ (i := 16) (N := some 24) (v := ?_) (a' := ?_) am17 rfl rfl (by kernel_rfl) (fun _ _ _ h => h) (Or.inl ⟨by rfl, ?_⟩) ?_ ?_
 rotate_left
 ·intro w'
  go_simp
  with_reducible rfl
 rotate_left
 ·simp only [amsP]
  rfl
 refine pure_ (i := 17) (N := some 25) (v := ?_) (a' := ?_) am18 rfl rfl (by kernel_rfl) (fun _ _ _ h => h) (Or.inl ⟨by rfl, ?_⟩) ?_ ?_
 rotate_left
 ·intro w'
  go_simp
  with_reducible rfl
 rotate_left
 ·simp only [amsP]
  rfl
 refine take_ (i := 18) (N := some 26) (v := ?_) (a' := ?_) am19 rfl rfl (by kernel_rfl) (fun _ _ _ h => h) (Or.inl ⟨by rfl, ?_⟩) hHeld ?_ ?_
 rotate_left
 ·rintro w' ⟨s0, s1, s2, s3⟩
  go_simp
  with_reducible rfl
 rotate_left
 ·simp only [amsP]
  rfl
 refine pure_ (i := 19) (N := some 27) (v := ?_) (a' := ?_) am20 rfl rfl (by kernel_rfl) (fun _ _ _ h => h) (Or.inl ⟨by rfl, ?_⟩) ?_ ?_
 rotate_left
 ·intro w'
  go_simp
  with_reducible rfl
 rotate_left
 ·simp only [amsP]
  rfl
 refine pure_ (i := 20) (N := some 28) (v := ?_) (a' := ?_) am21 rfl rfl (by kernel_rfl) (fun _ _ _ h => h) (Or.inl ⟨by rfl, ?_⟩) ?_ ?_
 rotate_left
 ·intro w'
  go_simp
  with_reducible rfl
 rotate_left
 ·simp only [amsP]
  rfl
 refine pure_ (i := 21) (N := some 29) (v := ?_) (a' := ?_) am22 rfl rfl (by kernel_rfl) (fun _ _ _ h => h) (Or.inl ⟨by rfl, ?_⟩) ?_ ?_
 rotate_left
 ·intro w'
  go_simp
  with_reducible rfl
 rotate_left
 ·simp only [amsP]
  rfl
 refine done_ (by kernel_rfl) ?_
 have HST2 := Aside0.mk (HST.out.below hHeld.2.2.2 hbs (by omega))
 have hszE := hHeld.2.2.2.size
 clear t0 ft0 t1 ft1 c1 f1 HCC hHeld
 obtain ⟨t0, ft0⟩ := HST2.out.box HPT.out (by omega) (by omega) 0 (.int .i64 t.f0) rfl
 obtain ⟨t1, ft1⟩ := HST2.out.box HPT.out (by omega) (by omega) 1 (.int .i64 t.f1) rfl
 obtain ⟨p2, fp2⟩ := HST2.out.box HPT.out (by omega) (by omega) 2 (.int .i64 arm) rfl
 obtain ⟨c0, f0⟩ := HST2.out.cell 0 (.slice Aa s.arms.length ca) rfl
 obtain ⟨c1, f1⟩ := HST2.out.cell 1 (.slice At s.tiles.length ct) rfl
 by_cases he : s.tiles = []
 ·have hl0b : ((s.tiles.length : Int) == 0) = true := by rw [beq_iff_eq]; simp [he]
  have HE := Aside0.mk he
  clear he
  by_cases ha : arm = 0
  rotate_left
  ·have hab : (arm == 0) = false := by rw [beq_eq_false_iff_ne]; exact ha
   have HP := Aside0.mk (show addL s t arm = none by unfold addL; rw [if_pos HGD.out, if_pos HE.out, if_neg ha])
   clear ha
   go_wp2
   obtain rfl : o = none := HO.out.symm.trans HP.out
   go_ret
   exact ⟨rfl, HST2.out.doneL, HST2.out.BL⟩
  have hab : (arm == 0) = true := by rw [beq_iff_eq]; exact ha
  have HA := Aside0.mk ha
  clear ha
  have c0A : ∀ o, (w4.alloc o).cell? ⟨g, 0, none⟩ = some (.slice Aa s.arms.length ca) := fun o => cell_b c0 (belowA (Below.refl _ _) o)
  have f0A : ∀ o, (w4.alloc o).frozen? ⟨g, 0, none⟩ = false := fun o => froz_b HST2.out.G (belowA (Below.refl _ _) o) 0
  go_wp2
  have hS9 := HST2.out.arms_new hgl hbase (by omega) ⟨t.f0, t.f0 == t.f1, false⟩ ⟨t.f1, t.f0 == t.f1, false⟩
  have hz8 : w4.heap.size ≤ ((w4.alloc (.cells #[.int .i64 t.f0, .bool (t.f0 == t.f1), .bool false, .int .i64 t.f1, .bool (t.f0 == t.f1), .bool false] 93)).setCell ⟨g, 0, none⟩ (.slice (some ⟨w4.heap.size, 0, none⟩) 2 2)).heap.size := by simp [World.setCell]
  have hv2 := (.slice (some ⟨w4.heap.size, 0, none⟩) 2 2 : Value)
  generalize (w4.alloc (.cells #[.int .i64 t.f0, .bool (t.f0 == t.f1), .bool false, .int .i64 t.f1, .bool (t.f0 == t.f1), .bool false] 93)).setCell ⟨g, 0, none⟩ (.slice (some ⟨w4.heap.size, 0, none⟩) 2 2) = w8 at hS9 hz8 ⊢
  clear t0 ft0 t1 ft1 p2 fp2 c0 f0 c1 f1 c0A f0A
  have HS9 := Aside0.mk hS9
  clear hS9
  obtain ⟨t0, ft0⟩ := HS9.out.box HPT.out (by omega) (by omega) 0 (.int .i64 t.f0) rfl
  obtain ⟨t1, ft1⟩ := HS9.out.box HPT.out (by omega) (by omega) 1 (.int .i64 t.f1) rfl
  obtain ⟨c1, f1⟩ := HS9.out.cell 1 (.slice At s.tiles.length ct) rfl
  refine start_ (n := 12) (S := fun w' => w'.cell? ⟨W.heap.size, 0, none⟩ = some (.int .i64 t.f0) ∧ w'.cell? ⟨W.heap.size, 1, none⟩ = some (.int .i64 t.f1) ∧ w'.cell? ⟨g, 1, none⟩ = some (.slice At s.tiles.length ct) ∧ Below w8.heap.size w8 w') (ds := [8, 11]) am24 (by kernel_rfl) rfl rfl ⟨(cell_b t0 (belowD (Below.refl _ _))), (cell_b t1 (belowD (Below.refl _ _))), (cell_b c1 (belowD (Below.refl _ _))), (belowD (Below.refl _ _))⟩ (fun hHeld => ?_)
  generalize w8.drew = wd at hHeld ⊢
  have HSTd := Aside0.mk (HS9.out.below hHeld.2.2.2 hbs (by omega))
  refine pure_ (i := 0) (N := some 60) (v := ?_) (a' := ?_) am25 rfl rfl (by kernel_rfl) (fun _ _ _ h => h) (Or.inl ⟨by rfl, ?_⟩) ?_ ?_
  rotate_left
  ·intro w'
   go_simp
   with_reducible rfl
  rotate_left
  ·simp only [amsP]
   rfl
  refine pure_ (i := 1) (N := some 61) (v := ?_) (a' := ?_) am26 rfl rfl (by kernel_rfl) (fun _ _ _ h => h) (Or.inl ⟨by rfl, ?_⟩) ?_ ?_
  rotate_left
  ·intro w'
   go_simp
   with_reducible rfl
  rotate_left
  ·simp only [amsP]
   rfl
  refine pure_ (i := 2) (N := some 62) (v := ?_) (a' := ?_) am27 rfl rfl (by kernel_rfl) (fun _ _ _ h => h) (Or.inl ⟨by rfl, ?_⟩) ?_ ?_
  rotate_left
  ·intro w'
   go_simp
   with_reducible rfl
  rotate_left
  ·simp only [amsP]
   rfl
  refine pure_ (i := 3) (N := some 63) (v := ?_) (a' := ?_) am28 rfl rfl (by kernel_rfl) (fun _ _ _ h => h) (Or.inl ⟨by rfl, ?_⟩) ?_ ?_
  rotate_left
  ·intro w'
   go_simp
   with_reducible rfl
  rotate_left
  ·simp only [amsP]
   rfl
  refine pure_ (i := 5) (N := some 65) (v := ?_) (a' := ?_) am29 rfl rfl (by kernel_rfl) (fun _ _ _ h => h) (Or.inl ⟨by rfl, ?_⟩) ?_ ?_
  rotate_left
  ·intro w'
   go_simp
   with_reducible rfl
  rotate_left
  ·simp only [amsP]
   rfl
  refine take_ (i := 4) (N := some 64) (v := ?_) (a' := ?_) am30 rfl rfl (by kernel_rfl) (fun _ _ _ h => h) (Or.inl ⟨by rfl, ?_⟩) hHeld ?_ ?_
  rotate_left
  ·rintro w' ⟨s0, s1, s2, s3⟩
   go_simp
   with_reducible rfl
  rotate_left
  ·simp only [amsP]
   rfl
  refine take_ (i := 6) (N := some 66) (v := ?_) (a' := ?_) am31 rfl rfl (by kernel_rfl) (fun _ _ _ h => h) (Or.inl ⟨by rfl, ?_⟩) hHeld ?_ ?_
  rotate_left
  ·rintro w' ⟨s0, s1, s2, s3⟩
   go_simp
   with_reducible rfl
  rotate_left
  ·simp only [amsP]
   rfl
  refine one_ (i := 7) (N := some 67) am32 rfl rfl (by kernel_rfl) (by decide) (fun K hK => ?_)
  refine value_ (w1 := ?_) (v := ?_) (by rfl) rfl ?_ ?_
  rotate_left 2
  ·go_simp
   constructor
   ·rfl
   ·rfl
  refine hK.out _ _ ⟨(cell_b t0 (belowA hHeld.2.2.2 _)), (cell_b t1 (belowA hHeld.2.2.2 _)), (cell_b c1 (belowA hHeld.2.2.2 _)), (belowA hHeld.2.2.2 _)⟩ (fun hHeld => ?_)
  clear hK K
  refine norm_ (a' := ?_) ?_ ?_
  rotate_left
  ·show Act.put _ (some 67) _ = _
   simp only [amsP]
   rfl
  refine last_ (i := 8) (N := some 68) am33 rfl rfl (by kernel_rfl) (by decide) (fun K hK => ?_)
  refine Kd.R_append_step k59 (w0 := W) base (by rfl) (.tmp 64) (.tmp 67) 33 59 (.agg #[(.int .i64 0), (.int .i64 0)]) 16 rfl Try.underlying33 info59 rfl (by decide) (by omega) (.slice At s.tiles.length ct) (s.tiles) t [.int .i64 t.f0, .int .i64 t.f1] (fun k => k ≠ g ∧ (k < W.heap.size ∨ W.heap.size + 1 ≤ k)) (fun _ => False) rfl rfl ?aP (fun _ hk => hk.elim) ?aF ?aO ?aB ?aS ?aL ?_
  (case aP => exact k59_mkM _ _ _ t)
  (case aB => exact HSTd.out.BL)
  (case aF => intro k hk; have h1 := HSTd.out.SZ; exact ⟨by omega, .inr (by omega)⟩)
  (case aO => exact HSTd.out.RT)
  (case aS => have h1 := HSTd.out.SZ; omega)
  (case aL => have := hlen.2; omega)
  intro v7 w7 ho7 hb7 hg7 _
  obtain ⟨A7, c7, hv7, _, _⟩ := Kd.R_reads ho7
  generalize (s.tiles ++ [t]).length = n7 at hv7
  subst hv7
  refine hK.out _ _ ?_
  clear hK K
  refine norm_ (a' := ?_) ?_ ?_
  rotate_left
  ·show Act.put _ (some 68) _ = _
   simp only [amsP]
   rfl
  refine pure_ (i := 9) (N := some 69) (v := ?_) (a' := ?_) am34 rfl rfl (by kernel_rfl) (fun _ _ _ h => h) (Or.inl ⟨by rfl, ?_⟩) ?_ ?_
  rotate_left
  ·intro w'
   go_simp
   with_reducible rfl
  rotate_left
  ·simp only [amsP]
   rfl
  refine pure_ (i := 10) (N := some 70) (v := ?_) (a' := ?_) am35 rfl rfl (by kernel_rfl) (fun _ _ _ h => h) (Or.inl ⟨by rfl, ?_⟩) ?_ ?_
  rotate_left
  ·intro w'
   go_simp
   with_reducible rfl
  rotate_left
  ·simp only [amsP]
   rfl
  refine last_ (i := 11) (N := none) am36 rfl rfl (by kernel_rfl) (by decide) (fun K hK => ?_)
  have hG7 := (hg7.block g (Array.getElem?_eq_some_iff.1 HSTd.out.G).1 (Kd.R_away HSTd.out.RT (fun k hk => hk.1))).trans HSTd.out.G
  obtain ⟨c1', f1'⟩ := heap_cell hG7 1 (.slice At s.tiles.length ct) rfl
  refine skip_ (w1 := ?_) (by rfl) rfl ?_ ?_
  rotate_left
  ·go_simp
   rfl
  refine hK.out _ _ ?_
  clear hK K
  refine done_ (by kernel_rfl) ?_
  have hS10 := HSTd.out.tiles_grown hgl hbase hb7 hg7 ho7
  generalize w7.setCell ⟨g, 1, none⟩ (.slice A7 n7 c7) = w10 at hS10 ⊢
  have HS10 := Aside0.mk hS10
  clear hS10 hG7 c1' f1' ho7 hb7 hg7 t0 ft0 t1 ft1 c1 f1
  obtain ⟨t0, ft0⟩ := HS10.out.box HPT.out (by omega) (by omega) 0 (.int .i64 t.f0) rfl
  obtain ⟨t1, ft1⟩ := HS10.out.box HPT.out (by omega) (by omega) 1 (.int .i64 t.f1) rfl
  obtain ⟨c2, f2⟩ := HS10.out.cell 2 (.int .i64 s.sp) rfl
  obtain ⟨c4, f4⟩ := HS10.out.cell 4 (.bool s.first) rfl
  have HP := Aside0.mk (show addL s t arm = some (firstL s t) by unfold addL; rw [if_pos HGD.out, if_pos HE.out, if_pos HA.out])
  by_cases hd : (t.f0 == t.f1) = true
  rotate_left
  ·have hdf : (t.f0 == t.f1) = false := by simpa using hd
   have e : firstL s t = ⟨[⟨t.f0, t.f0 == t.f1, false⟩, ⟨t.f1, t.f0 == t.f1, false⟩], s.tiles ++ [t], s.sp, s.wt, s.first, s.l0, s.l1⟩ := by unfold firstL; rw [if_neg hd, if_neg hd]
   go_wp2
   obtain rfl : o = _ := HO.out.symm.trans HP.out
   go_ret
   have hF := HS10.out
   exact ⟨rfl, by rw [Option.getD_some, e]; exact St.doneL (s := ⟨_, _, _, _, _, _, _⟩) hF, hF.BL⟩
  have e : firstL s t = ⟨[⟨t.f0, t.f0 == t.f1, false⟩, ⟨t.f1, t.f0 == t.f1, false⟩], s.tiles ++ [t], t.f0, s.wt, true, s.l0, s.l1⟩ := by unfold firstL; rw [if_pos hd, if_pos hd]
  have f4' : ∀ u, (w10.setCell ⟨g, 2, none⟩ u).frozen? ⟨g, 4, none⟩ = false := fun u => (HS10.out.set_rest hgl hbase 0 u).cell 4 (.bool s.first) rfl |>.2
  have c4' : ∀ u, (w10.setCell ⟨g, 2, none⟩ u).cell? ⟨g, 4, none⟩ = some (.bool s.first) := fun u => (HS10.out.set_rest hgl hbase 0 u).cell 4 (.bool s.first) rfl |>.1
  go_wp2
  obtain rfl : o = _ := HO.out.symm.trans HP.out
  go_ret
  have hF := (HS10.out.set_rest hgl hbase 0 (.int .i64 t.f0)).set_rest hgl hbase 2 (.bool true)
  exact ⟨rfl, by rw [Option.getD_some, e]; exact St.doneL (s := ⟨_, _, _, _, _, _, _⟩) hF, hF.BL⟩
 have hl0b : ((s.tiles.length : Int) == 0) = false := by rw [beq_eq_false_iff_ne]; intro h; exact he (List.length_eq_zero_iff.1 (by omega))
 have HE := Aside0.mk he
 clear he
 go_wp2
 have hlenA := hlen.1
 have HW := l1In_f arm s.arms.length hlenA
 by_cases hin : 0 ≤ arm ∧ arm < s.arms.length
 rotate_left
 ·have HP := Aside0.mk (show addL s t arm = none by unfold addL; rw [if_pos HGD.out, if_neg HE.out, if_neg hin])
  rw [decide_eq_false hin] at HW
  have HST := HST2
  clear HST2
  refine start_ (n := 25) (S := fun w' => w'.cell? ⟨W.heap.size, 2, none⟩ = some (.int .i64 arm) ∧ w'.cell? ⟨g, 0, none⟩ = some (.slice Aa s.arms.length ca) ∧ Below w4.heap.size w4 w') (ds := []) am37 (by kernel_rfl) rfl rfl ⟨(cell_b p2 (belowD (Below.refl _ _))), (cell_b c0 (belowD (Below.refl _ _))), (belowD (Below.refl _ _))⟩ (fun hHeld => ?_)
  refine pure_ (i := 0) (N := some 81) (v := ?_) (a' := ?_) am38 rfl rfl (by kernel_rfl) (fun _ _ _ h => h) (Or.inl ⟨by rfl, ?_⟩) ?_ ?_
  rotate_left
  ·intro w'
   go_simp
   with_reducible rfl
  rotate_left
  ·simp only [amsP]
   rfl
  refine pure_ (i := 2) (N := some 83) (v := ?_) (a' := ?_) am39 rfl rfl (by kernel_rfl) (fun _ _ _ h => h) (Or.inl ⟨by rfl, ?_⟩) ?_ ?_
  rotate_left
  ·intro w'
   go_simp
   with_reducible rfl
  rotate_left
  ·simp only [amsP]
   rfl
  refine pure_ (i := 3) (N := some 84) (v := ?_) (a' := ?_) am40 rfl rfl (by kernel_rfl) (fun _ _ _ h => h) (Or.inl ⟨by rfl, ?_⟩) ?_ ?_
  rotate_left
  ·intro w'
   go_simp
   with_reducible rfl
  rotate_left
  ·simp only [amsP]
   rfl
  refine pure_ (i := 4) (N := some 85) (v := ?_) (a' := ?_) am41 rfl rfl (by kernel_rfl) (fun _ _ _ h => h) (Or.inl ⟨by rfl, ?_⟩) ?_ ?_
  rotate_left
  ·intro w'
   go_simp
   with_reducible rfl
  rotate_left
  ·simp only [amsP]
   rfl
  refine take_ (i := 1) (N := some 82) (v := ?_) (a' := ?_) am42 rfl rfl (by kernel_rfl) (fun _ _ _ h => h) (Or.inl ⟨by rfl, ?_⟩) hHeld ?_ ?_
  rotate_left
  ·rintro w' ⟨s0, s1, s2⟩
   go_simp
   with_reducible rfl
  rotate_left
  ·simp only [amsP]
   rfl
  refine take_ (i := 5) (N := some 86) (v := ?_) (a' := ?_) am43 rfl rfl (by kernel_rfl) (fun _ _ _ h => h) (Or.inl ⟨by rfl, ?_⟩) hHeld ?_ ?_
  rotate_left
  ·rintro w' ⟨s0, s1, s2⟩
   go_simp
   with_reducible rfl
  rotate_left
  ·simp only [amsP]
   rfl
  refine pure_ (i := 6) (N := some 87) (v := ?_) (a' := ?_) am44 rfl rfl (by kernel_rfl) (fun _ _ _ h => h) (Or.inl ⟨by rfl, ?_⟩) ?_ ?_
  rotate_left
  ·intro w'
   go_simp
   with_reducible rfl
  rotate_left
  ·simp only [amsP]
   rfl
  refine pure_ (i := 7) (N := some 88) (v := ?_) (a' := ?_) am45 rfl rfl (by kernel_rfl) (fun _ _ _ h => h) (Or.inl ⟨by rfl, ?_⟩) ?_ ?_
  rotate_left
  ·intro w'
   go_simp
   with_reducible rfl
  rotate_left
  ·simp only [amsP]
   rfl
  refine one_ (i := 8) (N := some 89) am46 rfl rfl (by kernel_rfl) (by decide) (fun K hK => ?_)
  refine goes_ Try.func67 (by kernel_rfl) rfl #[.int .i64 arm, .int .i64 0, .int .i64 (wrap64 ((s.arms.length : Int) - 1))] (by rfl) rfl rfl (by simp only [List.map_toArray, List.map_cons, List.map_nil]; rfl) ?_
  with_reducible refine (spec_l1In.calls arm 0 (wrap64 ((s.arms.length : Int) - 1)) _ _ HW).mono ?_
  rintro e w5 ⟨rfl, hb_8⟩
  refine ⟨_, rfl, ?_⟩
  have hB_8 := belowS hHeld.2.2 hb_8.below
  refine hK.out _ _ ⟨(cell_b p2 hB_8), (cell_b c0 hB_8), hB_8⟩ (fun hHeld => ?_)
  clear hK K
  refine norm_ (a' := ?_) ?_ ?_
  rotate_left
  ·show Act.put _ (some 89) _ = _
   simp only [amsP]
   rfl
  refine pure_ (i := 9) (N := some 90) (v := ?_) (a' := ?_) am47 rfl rfl (by kernel_rfl) (fun _ _ _ h => h) (Or.inl ⟨by rfl, ?_⟩) ?_ ?_
  rotate_left
  ·intro w'
   go_simp
   with_reducible rfl
  rotate_left
  ·simp only [amsP]
   rfl
  refine pure_ (i := 10) (N := some 91) (v := ?_) (a' := ?_) am48 rfl rfl (by kernel_rfl) (fun _ _ _ h => h) (Or.inl ⟨by rfl, ?_⟩) ?_ ?_
  rotate_left
  ·intro w'
   go_simp
   with_reducible rfl
  rotate_left
  ·simp only [amsP]
   rfl
  refine pure_ (i := 11) (N := some 92) (v := undef) (a' := ?_) am49 rfl rfl (by kernel_rfl) (fun _ _ _ h => h) (Or.inr ⟨by rfl, rfl⟩) ?_ ?_
  rotate_left
  ·simp only [amsP]
   rfl
  refine pure_ (i := 12) (N := some 93) (v := undef) (a' := ?_) am50 rfl rfl (by kernel_rfl) (fun _ _ _ h => h) (Or.inr ⟨by rfl, rfl⟩) ?_ ?_
  rotate_left
  ·simp only [amsP]
   rfl
  refine pure_ (i := 13) (N := some 94) (v := undef) (a' := ?_) am51 rfl rfl (by kernel_rfl) (fun _ _ _ h => h) (Or.inr ⟨by rfl, rfl⟩) ?_ ?_
  rotate_left
  ·simp only [amsP]
   rfl
  refine pure_ (i := 14) (N := some 95) (v := undef) (a' := ?_) am52 rfl rfl (by kernel_rfl) (fun _ _ _ h => h) (Or.inr ⟨by rfl, rfl⟩) ?_ ?_
  rotate_left
  ·simp only [amsP]
   rfl
  refine pure_ (i := 15) (N := some 96) (v := undef) (a' := ?_) am53 rfl rfl (by kernel_rfl) (fun _ _ _ h => h) (Or.inr ⟨by rfl, rfl⟩) ?_ ?_
  rotate_left
  ·simp only [amsP]
   rfl
  refine pure_ (i := 16) (N := some 97) (v := undef) (a' := ?_) am54 rfl rfl (by kernel_rfl) (fun _ _ _ h => h) (Or.inr ⟨by rfl, rfl⟩) ?_ ?_
  rotate_left
  ·simp only [amsP]
   rfl
  refine pure_ (i := 17) (N := some 98) (v := undef) (a' := ?_) am55 rfl rfl (by kernel_rfl) (fun _ _ _ h => h) (Or.inr ⟨by rfl, rfl⟩) ?_ ?_
  rotate_left
  ·simp only [amsP]
   rfl
  refine pure_ (i := 18) (N := some 99) (v := undef) (a' := ?_) am56 rfl rfl (by kernel_rfl) (fun _ _ _ h => h) (Or.inr ⟨by rfl, rfl⟩) ?_ ?_
  rotate_left
  ·simp only [amsP]
   rfl
  refine pure_ (i := 19) (N := some 100) (v := undef) (a' := ?_) am57 rfl rfl (by kernel_rfl) (fun _ _ _ h => h) (Or.inr ⟨by rfl, rfl⟩) ?_ ?_
  rotate_left
  ·simp only [amsP]
   rfl
  refine pure_ (i := 20) (N := some 101) (v := undef) (a' := ?_) am58 rfl rfl (by kernel_rfl) (fun _ _ _ h => h) (Or.inr ⟨by rfl, rfl⟩) ?_ ?_
  rotate_left
  ·simp only [amsP]
   rfl
  refine pure_ (i := 21) (N := some 102) (v := undef) (a' := ?_) am59 rfl rfl (by kernel_rfl) (fun _ _ _ h => h) (Or.inr ⟨by rfl, rfl⟩) ?_ ?_
  rotate_left
  ·simp only [amsP]
   rfl
  refine pure_ (i := 22) (N := some 103) (v := undef) (a' := ?_) am60 rfl rfl (by kernel_rfl) (fun _ _ _ h => h) (Or.inr ⟨by rfl, rfl⟩) ?_ ?_
  rotate_left
  ·simp only [amsP]
   rfl
  refine pure_ (i := 23) (N := some 104) (v := undef) (a' := ?_) am61 rfl rfl (by kernel_rfl) (fun _ _ _ h => h) (Or.inr ⟨by rfl, rfl⟩) ?_ ?_
  rotate_left
  ·simp only [amsP]
   rfl
  refine pure_ (i := 24) (N := some 105) (v := ?_) (a' := ?_) am62 rfl rfl (by kernel_rfl) (fun _ _ _ h => h) (Or.inl ⟨by rfl, ?_⟩) ?_ ?_
  rotate_left
  ·intro w'
   go_simp
   with_reducible rfl
  rotate_left
  ·simp only [amsP]
   rfl
  refine done_ (by kernel_rfl) ?_
  have HST2 := Aside0.mk (HST.out.below hHeld.2.2 hbs (by omega))
  go_wp2
  obtain rfl : o = none := HO.out.symm.trans HP.out
  go_ret
  exact ⟨rfl, HST2.out.doneL, HST2.out.BL⟩
 rw [decide_eq_true hin] at HW
 obtain ⟨i, hi⟩ := Int.eq_ofNat_of_zero_le hin.1
 have hil : i < s.arms.length := by omega
 obtain ⟨ga, ca', hva, hgab, hgaok, hlca', hcm, hrow⟩ := rowA_of_R HST2.out.RA (by omega)
 obtain ⟨rfl, _, rfl⟩ := Value.slice.inj hva
 obtain ⟨x, hx⟩ : ∃ x, s.arms[i]? = some x := ⟨_, List.getElem?_eq_getElem hil⟩
 have hrdx : rd_T93 s.arms (i : Int) = x := by
  show s.arms.getD (i : Int).toNat _ = x
  rw [Int.toNat_natCast, List.getD_eq_getElem?_getD, hx]; rfl
 obtain ⟨⟨r0, r1, r2⟩, fr⟩ := rowA_at hrow i x hx
 have HROW := Aside0.mk (And.intro hgab (And.intro hgaok hx))
 have hi0 : (0 : Int) ≤ (i : Int) := Int.natCast_nonneg i
 have hi1 : (i : Int) < (s.arms.length : Int) := by omega
 have HI := Aside0.mk (And.intro hin (And.intro hi hil))
 rw [hi] at p2 HW
 clear hva hin hrow hgab hgaok hi hx hlca'
 by_cases hh : hasB2 x.f0 t = true
 rotate_left
 ·have HP := Aside0.mk (show addL s t arm = none by unfold addL; rw [if_pos HGD.out, if_neg HE.out, if_pos HI.out.1, HI.out.2.1, hrdx, if_neg hh])
  have HST := HST2
  clear HST2
  refine start_ (n := 25) (S := fun w' => w'.cell? ⟨W.heap.size, 0, none⟩ = some (.int .i64 t.f0) ∧ w'.cell? ⟨W.heap.size, 1, none⟩ = some (.int .i64 t.f1) ∧ w'.cell? ⟨W.heap.size, 2, none⟩ = some (.int .i64 (i : Int)) ∧ w'.cell? ⟨g, 0, none⟩ = some (.slice (some ⟨ga, 0, none⟩) s.arms.length ca) ∧ w'.cell? ⟨ga, i * 3, none⟩ = some (.int .i64 x.f0) ∧ Below w4.heap.size w4 w') (ds := []) am37 (by kernel_rfl) rfl rfl ⟨(cell_b t0 (belowD (Below.refl _ _))), (cell_b t1 (belowD (Below.refl _ _))), (cell_b p2 (belowD (Below.refl _ _))), (cell_b c0 (belowD (Below.refl _ _))), (cell_b r0 (belowD (Below.refl _ _))), (belowD (Below.refl _ _))⟩ (fun hHeld => ?_)
  refine pure_ (i := 0) (N := some 81) (v := ?_) (a' := ?_) am38 rfl rfl (by kernel_rfl) (fun _ _ _ h => h) (Or.inl ⟨by rfl, ?_⟩) ?_ ?_
  rotate_left
  ·intro w'
   go_simp
   with_reducible rfl
  rotate_left
  ·simp only [amsP]
   rfl
  refine pure_ (i := 2) (N := some 83) (v := ?_) (a' := ?_) am39 rfl rfl (by kernel_rfl) (fun _ _ _ h => h) (Or.inl ⟨by rfl, ?_⟩) ?_ ?_
  rotate_left
  ·intro w'
   go_simp
   with_reducible rfl
  rotate_left
  ·simp only [amsP]
   rfl
  refine pure_ (i := 3) (N := some 84) (v := ?_) (a' := ?_) am40 rfl rfl (by kernel_rfl) (fun _ _ _ h => h) (Or.inl ⟨by rfl, ?_⟩) ?_ ?_
  rotate_left
  ·intro w'
   go_simp
   with_reducible rfl
  rotate_left
  ·simp only [amsP]
   rfl
  refine pure_ (i := 4) (N := some 85) (v := ?_) (a' := ?_) am41 rfl rfl (by kernel_rfl) (fun _ _ _ h => h) (Or.inl ⟨by rfl, ?_⟩) ?_ ?_
  rotate_left
  ·intro w'
   go_simp
   with_reducible rfl
  rotate_left
  ·simp only [amsP]
   rfl
  refine take_ (i := 1) (N := some 82) (v := ?_) (a' := ?_) am42 rfl rfl (by kernel_rfl) (fun _ _ _ h => h) (Or.inl ⟨by rfl, ?_⟩) hHeld ?_ ?_
  rotate_left
  ·rintro w' ⟨s0, s1, s2, s3, s4, s5⟩
   go_simp
   with_reducible rfl
  rotate_left
  ·simp only [amsP]
   rfl
  refine take_ (i := 5) (N := some 86) (v := ?_) (a' := ?_) am43 rfl rfl (by kernel_rfl) (fun _ _ _ h => h) (Or.inl ⟨by rfl, ?_⟩) hHeld ?_ ?_
  rotate_left
  ·rintro w' ⟨s0, s1, s2, s3, s4, s5⟩
   go_simp
   with_reducible rfl
  rotate_left
  ·simp only [amsP]
   rfl
  refine pure_ (i := 6) (N := some 87) (v := ?_) (a' := ?_) am44 rfl rfl (by kernel_rfl) (fun _ _ _ h => h) (Or.inl ⟨by rfl, ?_⟩) ?_ ?_
  rotate_left
  ·intro w'
   go_simp
   with_reducible rfl
  rotate_left
  ·simp only [amsP]
   rfl
  refine pure_ (i := 7) (N := some 88) (v := ?_) (a' := ?_) am45 rfl rfl (by kernel_rfl) (fun _ _ _ h => h) (Or.inl ⟨by rfl, ?_⟩) ?_ ?_
  rotate_left
  ·intro w'
   go_simp
   with_reducible rfl
  rotate_left
  ·simp only [amsP]
   rfl
  refine one_ (i := 8) (N := some 89) am46 rfl rfl (by kernel_rfl) (by decide) (fun K hK => ?_)
  refine goes_ Try.func67 (by kernel_rfl) rfl #[.int .i64 (i : Int), .int .i64 0, .int .i64 (wrap64 ((s.arms.length : Int) - 1))] (by rfl) rfl rfl (by simp only [List.map_toArray, List.map_cons, List.map_nil]; rfl) ?_
  with_reducible refine (spec_l1In.calls (i : Int) 0 (wrap64 ((s.arms.length : Int) - 1)) _ _ HW).mono ?_
  rintro e w5 ⟨rfl, hb_8⟩
  refine ⟨_, rfl, ?_⟩
  have hB_8 := belowS hHeld.2.2.2.2.2 hb_8.below
  refine hK.out _ _ ⟨(cell_b t0 hB_8), (cell_b t1 hB_8), (cell_b p2 hB_8), (cell_b c0 hB_8), (cell_b r0 hB_8), hB_8⟩ (fun hHeld => ?_)
  clear hK K
  refine norm_ (a' := ?_) ?_ ?_
  rotate_left
  ·show Act.put _ (some 89) _ = _
   simp only [amsP]
   rfl
  refine pure_ (i := 9) (N := some 90) (v := ?_) (a' := ?_) am47 rfl rfl (by kernel_rfl) (fun _ _ _ h => h) (Or.inl ⟨by rfl, ?_⟩) ?_ ?_
  rotate_left
  ·intro w'
   go_simp
   with_reducible rfl
  rotate_left
  ·simp only [amsP]
   rfl
  refine pure_ (i := 10) (N := some 91) (v := ?_) (a' := ?_) am48 rfl rfl (by kernel_rfl) (fun _ _ _ h => h) (Or.inl ⟨by rfl, ?_⟩) ?_ ?_
  rotate_left
  ·intro w'
   go_simp
   with_reducible rfl
  rotate_left
  ·simp only [amsP]
   rfl
  refine pure_ (i := 11) (N := some 92) (v := ?_) (a' := ?_) am49 rfl rfl (by kernel_rfl) (fun _ _ _ h => h) (Or.inl ⟨by rfl, ?_⟩) ?_ ?_
  rotate_left
  ·intro w'
   go_simp
   with_reducible rfl
  rotate_left
  ·simp only [amsP]
   rfl
  refine pure_ (i := 13) (N := some 94) (v := ?_) (a' := ?_) am63 rfl rfl (by kernel_rfl) (fun _ _ _ h => h) (Or.inl ⟨by rfl, ?_⟩) ?_ ?_
  rotate_left
  ·intro w'
   go_simp
   with_reducible rfl
  rotate_left
  ·simp only [amsP]
   rfl
  refine pure_ (i := 14) (N := some 95) (v := ?_) (a' := ?_) am64 rfl rfl (by kernel_rfl) (fun _ _ _ h => h) (Or.inl ⟨by rfl, ?_⟩) ?_ ?_
  rotate_left
  ·intro w'
   go_simp
   with_reducible rfl
  rotate_left
  ·simp only [amsP]
   rfl
  refine pure_ (i := 15) (N := some 96) (v := ?_) (a' := ?_) am65 rfl rfl (by kernel_rfl) (fun _ _ _ h => h) (Or.inl ⟨by rfl, ?_⟩) ?_ ?_
  rotate_left
  ·intro w'
   go_simp
   with_reducible rfl
  rotate_left
  ·simp only [amsP]
   rfl
  refine pure_ (i := 17) (N := some 98) (v := ?_) (a' := ?_) am66 rfl rfl (by kernel_rfl) (fun _ _ _ h => h) (Or.inl ⟨by rfl, ?_⟩) ?_ ?_
  rotate_left
  ·intro w'
   go_simp
   with_reducible rfl
  rotate_left
  ·simp only [amsP]
   rfl
  refine take_ (i := 12) (N := some 93) (v := ?_) (a' := ?_) am67 rfl rfl (by kernel_rfl) (fun _ _ _ h => h) (Or.inl ⟨by rfl, ?_⟩) hHeld ?_ ?_
  rotate_left
  ·rintro w' ⟨s0, s1, s2, s3, s4, s5⟩
   go_simp
   with_reducible rfl
  rotate_left
  ·simp only [amsP]
   rfl
  refine take_ (i := 16) (N := some 97) (v := ?_) (a' := ?_) am55 rfl rfl (by kernel_rfl) (fun _ _ _ h => h) (Or.inl ⟨by rfl, ?_⟩) hHeld ?_ ?_
  rotate_left
  ·rintro w' ⟨s0, s1, s2, s3, s4, s5⟩
   go_simp
   with_reducible rfl
  rotate_left
  ·simp only [amsP]
   rfl
  refine take_ (i := 18) (N := some 99) (v := ?_) (a' := ?_) am56 rfl rfl (by kernel_rfl) (fun _ _ _ h => h) (Or.inl ⟨by rfl, ?_⟩) hHeld ?_ ?_
  rotate_left
  ·rintro w' ⟨s0, s1, s2, s3, s4, s5⟩
   go_simp
   with_reducible rfl
  rotate_left
  ·simp only [amsP]
   rfl
  refine pure_ (i := 19) (N := some 100) (v := ?_) (a' := ?_) am57 rfl rfl (by kernel_rfl) (fun _ _ _ h => h) (Or.inl ⟨by rfl, ?_⟩) ?_ ?_
  rotate_left
  ·intro w'
   go_simp
   with_reducible rfl
  rotate_left
  ·simp only [amsP]
   rfl
  refine pure_ (i := 20) (N := some 101) (v := ?_) (a' := ?_) am58 rfl rfl (by kernel_rfl) (fun _ _ _ h => h) (Or.inl ⟨by rfl, ?_⟩) ?_ ?_
  rotate_left
  ·intro w'
   go_simp
   with_reducible rfl
  rotate_left
  ·simp only [amsP]
   rfl
  refine take_ (i := 21) (N := some 102) (v := ?_) (a' := ?_) am59 rfl rfl (by kernel_rfl) (fun _ _ _ h => h) (Or.inl ⟨by rfl, ?_⟩) hHeld ?_ ?_
  rotate_left
  ·rintro w' ⟨s0, s1, s2, s3, s4, s5⟩
   go_simp
   with_reducible rfl
  rotate_left
  ·simp only [amsP]
   rfl
  refine one_ (i := 22) (N := some 103) am60 rfl rfl (by kernel_rfl) (by decide) (fun K hK => ?_)
  refine goes_ Try.func92 (by kernel_rfl) rfl #[.agg #[.int .i64 t.f0, .int .i64 t.f1], .int .i64 x.f0] (by rfl) rfl rfl (by simp only [List.map_toArray, List.map_cons, List.map_nil]; rfl) ?_
  with_reducible refine (spec_haOther.calls t.f0 t.f1 x.f0 (-1) _ (haOther_no hh)).mono ?_
  rintro e w6 ⟨rfl, hb_22⟩
  refine ⟨_, rfl, ?_⟩
  have hB_22 := belowS hHeld.2.2.2.2.2 hb_22
  refine hK.out _ _ ⟨(cell_b t0 hB_22), (cell_b t1 hB_22), (cell_b p2 hB_22), (cell_b c0 hB_22), (cell_b r0 hB_22), hB_22⟩ (fun hHeld => ?_)
  clear hK K
  refine norm_ (a' := ?_) ?_ ?_
  rotate_left
  ·show Act.put _ (some 103) _ = _
   simp only [amsP]
   rfl
  refine pure_ (i := 23) (N := some 104) (v := ?_) (a' := ?_) am61 rfl rfl (by kernel_rfl) (fun _ _ _ h => h) (Or.inl ⟨by rfl, ?_⟩) ?_ ?_
  rotate_left
  ·intro w'
   go_simp
   with_reducible rfl
  rotate_left
  ·simp only [amsP]
   rfl
  refine pure_ (i := 24) (N := some 105) (v := ?_) (a' := ?_) am62 rfl rfl (by kernel_rfl) (fun _ _ _ h => h) (Or.inl ⟨by rfl, ?_⟩) ?_ ?_
  rotate_left
  ·intro w'
   go_simp
   with_reducible rfl
  rotate_left
  ·simp only [amsP]
   rfl
  refine done_ (by kernel_rfl) ?_
  have HST2 := Aside0.mk (HST.out.below hHeld.2.2.2.2.2 hbs (by omega))
  go_wp2
  obtain rfl : o = none := HO.out.symm.trans HP.out
  go_ret
  exact ⟨rfl, HST2.out.doneL, HST2.out.BL⟩
 obtain ⟨hho, hhn⟩ := haOther_has hg hh
 have hhb : decide ((t.f0 + t.f1 - x.f0) < 0) = false := decide_eq_false hhn
 refine start_ (n := 25) (S := fun w' => w'.cell? ⟨W.heap.size, 0, none⟩ = some (.int .i64 t.f0) ∧ w'.cell? ⟨W.heap.size, 1, none⟩ = some (.int .i64 t.f1) ∧ w'.cell? ⟨W.heap.size, 2, none⟩ = some (.int .i64 (i : Int)) ∧ w'.cell? ⟨g, 0, none⟩ = some (.slice (some ⟨ga, 0, none⟩) s.arms.length ca) ∧ w'.cell? ⟨ga, i * 3, none⟩ = some (.int .i64 x.f0) ∧ Below w4.heap.size w4 w') (ds := []) am37 (by kernel_rfl) rfl rfl ⟨(cell_b t0 (belowD (Below.refl _ _))), (cell_b t1 (belowD (Below.refl _ _))), (cell_b p2 (belowD (Below.refl _ _))), (cell_b c0 (belowD (Below.refl _ _))), (cell_b r0 (belowD (Below.refl _ _))), (belowD (Below.refl _ _))⟩ (fun hHeld => ?_)
 refine pure_ (i := 0) (N := some 81) (v := ?_) (a' := ?_) am38 rfl rfl (by kernel_rfl) (fun _ _ _ h => h) (Or.inl ⟨by rfl, ?_⟩) ?_ ?_
 rotate_left
 ·intro w'
  go_simp
  with_reducible rfl
 rotate_left
 ·simp only [amsP]
  rfl
 refine pure_ (i := 2) (N := some 83) (v := ?_) (a' := ?_) am39 rfl rfl (by kernel_rfl) (fun _ _ _ h => h) (Or.inl ⟨by rfl, ?_⟩) ?_ ?_
 rotate_left
 ·intro w'
  go_simp
  with_reducible rfl
 rotate_left
 ·simp only [amsP]
  rfl
 refine pure_ (i := 3) (N := some 84) (v := ?_) (a' := ?_) am40 rfl rfl (by kernel_rfl) (fun _ _ _ h => h) (Or.inl ⟨by rfl, ?_⟩) ?_ ?_
 rotate_left
 ·intro w'
  go_simp
  with_reducible rfl
 rotate_left
 ·simp only [amsP]
  rfl
 refine pure_ (i := 4) (N := some 85) (v := ?_) (a' := ?_) am41 rfl rfl (by kernel_rfl) (fun _ _ _ h => h) (Or.inl ⟨by rfl, ?_⟩) ?_ ?_
 rotate_left
 ·intro w'
  go_simp
  with_reducible rfl
 rotate_left
 ·simp only [amsP]
  rfl
 refine take_ (i := 1) (N := some 82) (v := ?_) (a' := ?_) am42 rfl rfl (by kernel_rfl) (fun _ _ _ h => h) (Or.inl ⟨by rfl, ?_⟩) hHeld ?_ ?_
 rotate_left
 ·rintro w' ⟨s0, s1, s2, s3, s4, s5⟩
  go_simp
  with_reducible rfl
 rotate_left
 ·simp only [amsP]
  rfl
 refine take_ (i := 5) (N := some 86) (v := ?_) (a' := ?_) am43 rfl rfl (by kernel_rfl) (fun _ _ _ h => h) (Or.inl ⟨by rfl, ?_⟩) hHeld ?_ ?_
 rotate_left
 ·rintro w' ⟨s0, s1, s2, s3, s4, s5⟩
  go_simp
  with_reducible rfl
 rotate_left
 ·simp only [amsP]
  rfl
 refine pure_ (i := 6) (N := some 87) (v := ?_) (a' := ?_) am44 rfl rfl (by kernel_rfl) (fun _ _ _ h => h) (Or.inl ⟨by rfl, ?_⟩) ?_ ?_
 rotate_left
 ·intro w'
  go_simp
  with_reducible rfl
 rotate_left
 ·simp only [amsP]
  rfl
 refine pure_ (i := 7) (N := some 88) (v := ?_) (a' := ?_) am45 rfl rfl (by kernel_rfl) (fun _ _ _ h => h) (Or.inl ⟨by rfl, ?_⟩) ?_ ?_
 rotate_left
 ·intro w'
  go_simp
  with_reducible rfl
 rotate_left
 ·simp only [amsP]
  rfl
 refine one_ (i := 8) (N := some 89) am46 rfl rfl (by kernel_rfl) (by decide) (fun K hK => ?_)
 refine goes_ Try.func67 (by kernel_rfl) rfl #[.int .i64 (i : Int), .int .i64 0, .int .i64 (wrap64 ((s.arms.length : Int) - 1))] (by rfl) rfl rfl (by simp only [List.map_toArray, List.map_cons, List.map_nil]; rfl) ?_
 with_reducible refine (spec_l1In.calls (i : Int) 0 (wrap64 ((s.arms.length : Int) - 1)) _ _ HW).mono ?_
 rintro e w5 ⟨rfl, hb_8⟩
 refine ⟨_, rfl, ?_⟩
 have hB_8 := belowS hHeld.2.2.2.2.2 hb_8.below
 refine hK.out _ _ ⟨(cell_b t0 hB_8), (cell_b t1 hB_8), (cell_b p2 hB_8), (cell_b c0 hB_8), (cell_b r0 hB_8), hB_8⟩ (fun hHeld => ?_)
 clear hK K
 refine norm_ (a' := ?_) ?_ ?_
 rotate_left
 ·show Act.put _ (some 89) _ = _
  simp only [amsP]
  rfl
 refine pure_ (i := 9) (N := some 90) (v := ?_) (a' := ?_) am47 rfl rfl (by kernel_rfl) (fun _ _ _ h => h) (Or.inl ⟨by rfl, ?_⟩) ?_ ?_
 rotate_left
 ·intro w'
  go_simp
  with_reducible rfl
 rotate_left
 ·simp only [amsP]
  rfl
 refine pure_ (i := 10) (N := some 91) (v := ?_) (a' := ?_) am48 rfl rfl (by kernel_rfl) (fun _ _ _ h => h) (Or.inl ⟨by rfl, ?_⟩) ?_ ?_
 rotate_left
 ·intro w'
  go_simp
  with_reducible rfl
 rotate_left
 ·simp only [amsP]
  rfl
 refine pure_ (i := 11) (N := some 92) (v := ?_) (a' := ?_) am49 rfl rfl (by kernel_rfl) (fun _ _ _ h => h) (Or.inl ⟨by rfl, ?_⟩) ?_ ?_
 rotate_left
 ·intro w'
  go_simp
  with_reducible rfl
 rotate_left
 ·simp only [amsP]
  rfl
 refine pure_ (i := 13) (N := some 94) (v := ?_) (a' := ?_) am63 rfl rfl (by kernel_rfl) (fun _ _ _ h => h) (Or.inl ⟨by rfl, ?_⟩) ?_ ?_
 rotate_left
 ·intro w'
  go_simp
  with_reducible rfl
 rotate_left
 ·simp only [amsP]
  rfl
 refine pure_ (i := 14) (N := some 95) (v := ?_) (a' := ?_) am64 rfl rfl (by kernel_rfl) (fun _ _ _ h => h) (Or.inl ⟨by rfl, ?_⟩) ?_ ?_
 rotate_left
 ·intro w'
  go_simp
  with_reducible rfl
 rotate_left
 ·simp only [amsP]
  rfl
 refine pure_ (i := 15) (N := some 96) (v := ?_) (a' := ?_) am65 rfl rfl (by kernel_rfl) (fun _ _ _ h => h) (Or.inl ⟨by rfl, ?_⟩) ?_ ?_
 rotate_left
 ·intro w'
  go_simp
  with_reducible rfl
 rotate_left
 ·simp only [amsP]
  rfl
 refine pure_ (i := 17) (N := some 98) (v := ?_) (a' := ?_) am66 rfl rfl (by kernel_rfl) (fun _ _ _ h => h) (Or.inl ⟨by rfl, ?_⟩) ?_ ?_
 rotate_left
 ·intro w'
  go_simp
  with_reducible rfl
 rotate_left
 ·simp only [amsP]
  rfl
 refine take_ (i := 12) (N := some 93) (v := ?_) (a' := ?_) am67 rfl rfl (by kernel_rfl) (fun _ _ _ h => h) (Or.inl ⟨by rfl, ?_⟩) hHeld ?_ ?_
 rotate_left
 ·rintro w' ⟨s0, s1, s2, s3, s4, s5⟩
  go_simp
  with_reducible rfl
 rotate_left
 ·simp only [amsP]
  rfl
 refine take_ (i := 16) (N := some 97) (v := ?_) (a' := ?_) am55 rfl rfl (by kernel_rfl) (fun _ _ _ h => h) (Or.inl ⟨by rfl, ?_⟩) hHeld ?_ ?_
 rotate_left
 ·rintro w' ⟨s0, s1, s2, s3, s4, s5⟩
  go_simp
  with_reducible rfl
 rotate_left
 ·simp only [amsP]
  rfl
 refine take_ (i := 18) (N := some 99) (v := ?_) (a' := ?_) am56 rfl rfl (by kernel_rfl) (fun _ _ _ h => h) (Or.inl ⟨by rfl, ?_⟩) hHeld ?_ ?_
 rotate_left
 ·rintro w' ⟨s0, s1, s2, s3, s4, s5⟩
  go_simp
  with_reducible rfl
 rotate_left
 ·simp only [amsP]
  rfl
 refine pure_ (i := 19) (N := some 100) (v := ?_) (a' := ?_) am57 rfl rfl (by kernel_rfl) (fun _ _ _ h => h) (Or.inl ⟨by rfl, ?_⟩) ?_ ?_
 rotate_left
 ·intro w'
  go_simp
  with_reducible rfl
 rotate_left
 ·simp only [amsP]
  rfl
 refine pure_ (i := 20) (N := some 101) (v := ?_) (a' := ?_) am58 rfl rfl (by kernel_rfl) (fun _ _ _ h => h) (Or.inl ⟨by rfl, ?_⟩) ?_ ?_
 rotate_left
 ·intro w'
  go_simp
  with_reducible rfl
 rotate_left
 ·simp only [amsP]
  rfl
 refine take_ (i := 21) (N := some 102) (v := ?_) (a' := ?_) am59 rfl rfl (by kernel_rfl) (fun _ _ _ h => h) (Or.inl ⟨by rfl, ?_⟩) hHeld ?_ ?_
 rotate_left
 ·rintro w' ⟨s0, s1, s2, s3, s4, s5⟩
  go_simp
  with_reducible rfl
 rotate_left
 ·simp only [amsP]
  rfl
 refine one_ (i := 22) (N := some 103) am60 rfl rfl (by kernel_rfl) (by decide) (fun K hK => ?_)
 refine goes_ Try.func92 (by kernel_rfl) rfl #[.agg #[.int .i64 t.f0, .int .i64 t.f1], .int .i64 x.f0] (by rfl) rfl rfl (by simp only [List.map_toArray, List.map_cons, List.map_nil]; rfl) ?_
 with_reducible refine (spec_haOther.calls t.f0 t.f1 x.f0 (t.f0 + t.f1 - x.f0) _ hho).mono ?_
 rintro e w6 ⟨rfl, hb_22⟩
 refine ⟨_, rfl, ?_⟩
 have hB_22 := belowS hHeld.2.2.2.2.2 hb_22
 refine hK.out _ _ ⟨(cell_b t0 hB_22), (cell_b t1 hB_22), (cell_b p2 hB_22), (cell_b c0 hB_22), (cell_b r0 hB_22), hB_22⟩ (fun hHeld => ?_)
 clear hK K
 refine norm_ (a' := ?_) ?_ ?_
 rotate_left
 ·show Act.put _ (some 103) _ = _
  simp only [amsP]
  rfl
 refine pure_ (i := 23) (N := some 104) (v := ?_) (a' := ?_) am61 rfl rfl (by kernel_rfl) (fun _ _ _ h => h) (Or.inl ⟨by rfl, ?_⟩) ?_ ?_
 rotate_left
 ·intro w'
  go_simp
  with_reducible rfl
 rotate_left
 ·simp only [amsP]
  rfl
 refine pure_ (i := 24) (N := some 105) (v := ?_) (a' := ?_) am62 rfl rfl (by kernel_rfl) (fun _ _ _ h => h) (Or.inl ⟨by rfl, ?_⟩) ?_ ?_
 rotate_left
 ·intro w'
  go_simp
  with_reducible rfl
 rotate_left
 ·simp only [amsP]
  rfl
 refine done_ (by kernel_rfl) ?_
 have HST6 := Aside0.mk (HST2.out.below hHeld.2.2.2.2.2 hbs (by omega))
 clear t0 ft0 t1 ft1 p2 fp2 c0 f0 c1 f1 r0 r1 r2 fr hHeld HW hlenA
 have HP := Aside0.mk (show addL s t arm = some (nextL s t i x.f0) by unfold addL; rw [if_pos HGD.out, if_neg HE.out, if_pos HI.out.1, HI.out.2.1, hrdx, if_pos hh]; rfl)
 go_upto_region 16 with (fail)
 have HIA := Aside0.mk (And.intro hi0 hil)
 go_cut [124] from 106 to 124 (fun v124 wc => v124 = .bool (cA s i) ∧ Aside0 (St 87 W W1 g base (W.heap.size + 1) [.int .i64 s.sp, .int .i64 s.wt, .bool s.first, .bool s.l0, .bool s.l1] wc (.slice (some ⟨ga, 0, none⟩) s.arms.length ca) (.slice At s.tiles.length ct) (s.arms) (s.tiles)))
 case first =>
  have h3 : i = 0 ∨ i = 1 ∨ 2 ≤ i := by omega
  rcases h3 with rfl | rfl | h2
  ·cases hf : s.first
   ·skip
    obtain ⟨c4, f4⟩ := HST6.out.cell 4 (.bool false) (by simp [hf])
    refine start_ (n := 19) (S := fun w' => w'.cell? ⟨g, 4, none⟩ = some (.bool false) ∧ Below w6.heap.size w6 w') (ds := []) am68 (by kernel_rfl) rfl rfl ⟨(cell_b c4 (belowD (Below.refl _ _))), (belowD (Below.refl _ _))⟩ (fun hHeld => ?_)
    refine pure_ (i := 0) (N := some 106) (v := ?_) (a' := ?_) am69 rfl rfl (by kernel_rfl) (fun _ _ _ h => h) (Or.inl ⟨by rfl, ?_⟩) ?_ ?_
    rotate_left
    ·intro w'
     go_simp
     with_reducible rfl
    rotate_left
    ·simp only [amsP]
     rfl
    refine pure_ (i := 1) (N := some 107) (v := ?_) (a' := ?_) am70 rfl rfl (by kernel_rfl) (fun _ _ _ h => h) (Or.inl ⟨by rfl, ?_⟩) ?_ ?_
    rotate_left
    ·intro w'
     go_simp
     with_reducible rfl
    rotate_left
    ·simp only [amsP]
     rfl
    refine pure_ (i := 2) (N := some 108) (v := ?_) (a' := ?_) am71 rfl rfl (by kernel_rfl) (fun _ _ _ h => h) (Or.inl ⟨by rfl, ?_⟩) ?_ ?_
    rotate_left
    ·intro w'
     go_simp
     with_reducible rfl
    rotate_left
    ·simp only [amsP]
     rfl
    refine take_ (i := 3) (N := some 109) (v := ?_) (a' := ?_) am72 rfl rfl (by kernel_rfl) (fun _ _ _ h => h) (Or.inl ⟨by rfl, ?_⟩) hHeld ?_ ?_
    rotate_left
    ·rintro w' ⟨s0, s1⟩
     go_simp
     with_reducible rfl
    rotate_left
    ·simp only [amsP]
     rfl
    refine pure_ (i := 4) (N := some 110) (v := ?_) (a' := ?_) am73 rfl rfl (by kernel_rfl) (fun _ _ _ h => h) (Or.inl ⟨by rfl, ?_⟩) ?_ ?_
    rotate_left
    ·intro w'
     go_simp
     with_reducible rfl
    rotate_left
    ·simp only [amsP]
     rfl
    refine pure_ (i := 5) (N := some 111) (v := undef) (a' := ?_) am74 rfl rfl (by kernel_rfl) (fun _ _ _ h => h) (Or.inr ⟨by rfl, rfl⟩) ?_ ?_
    rotate_left
    ·simp only [amsP]
     rfl
    refine pure_ (i := 6) (N := some 112) (v := undef) (a' := ?_) am75 rfl rfl (by kernel_rfl) (fun _ _ _ h => h) (Or.inr ⟨by rfl, rfl⟩) ?_ ?_
    rotate_left
    ·simp only [amsP]
     rfl
    refine pure_ (i := 7) (N := some 113) (v := undef) (a' := ?_) am76 rfl rfl (by kernel_rfl) (fun _ _ _ h => h) (Or.inr ⟨by rfl, rfl⟩) ?_ ?_
    rotate_left
    ·simp only [amsP]
     rfl
    refine pure_ (i := 8) (N := some 114) (v := ?_) (a' := ?_) am77 rfl rfl (by kernel_rfl) (fun _ _ _ h => h) (Or.inl ⟨by rfl, ?_⟩) ?_ ?_
    rotate_left
    ·intro w'
     go_simp
     with_reducible rfl
    rotate_left
    ·simp only [amsP]
     rfl
    refine pure_ (i := 9) (N := some 115) (v := ?_) (a' := ?_) am78 rfl rfl (by kernel_rfl) (fun _ _ _ h => h) (Or.inl ⟨by rfl, ?_⟩) ?_ ?_
    rotate_left
    ·intro w'
     go_simp
     with_reducible rfl
    rotate_left
    ·simp only [amsP]
     rfl
    refine pure_ (i := 10) (N := some 116) (v := undef) (a' := ?_) am79 rfl rfl (by kernel_rfl) (fun _ _ _ h => h) (Or.inr ⟨by rfl, rfl⟩) ?_ ?_
    rotate_left
    ·simp only [amsP]
     rfl
    refine pure_ (i := 11) (N := some 117) (v := undef) (a' := ?_) am80 rfl rfl (by kernel_rfl) (fun _ _ _ h => h) (Or.inr ⟨by rfl, rfl⟩) ?_ ?_
    rotate_left
    ·simp only [amsP]
     rfl
    refine pure_ (i := 12) (N := some 118) (v := undef) (a' := ?_) am81 rfl rfl (by kernel_rfl) (fun _ _ _ h => h) (Or.inr ⟨by rfl, rfl⟩) ?_ ?_
    rotate_left
    ·simp only [amsP]
     rfl
    refine pure_ (i := 13) (N := some 119) (v := undef) (a' := ?_) am82 rfl rfl (by kernel_rfl) (fun _ _ _ h => h) (Or.inr ⟨by rfl, rfl⟩) ?_ ?_
    rotate_left
    ·simp only [amsP]
     rfl
    refine pure_ (i := 14) (N := some 120) (v := undef) (a' := ?_) am83 rfl rfl (by kernel_rfl) (fun _ _ _ h => h) (Or.inr ⟨by rfl, rfl⟩) ?_ ?_
    rotate_left
    ·simp only [amsP]
     rfl
    refine pure_ (i := 15) (N := some 121) (v := undef) (a' := ?_) am84 rfl rfl (by kernel_rfl) (fun _ _ _ h => h) (Or.inr ⟨by rfl, rfl⟩) ?_ ?_
    rotate_left
    ·simp only [amsP]
     rfl
    refine pure_ (i := 16) (N := some 122) (v := undef) (a' := ?_) am85 rfl rfl (by kernel_rfl) (fun _ _ _ h => h) (Or.inr ⟨by rfl, rfl⟩) ?_ ?_
    rotate_left
    ·simp only [amsP]
     rfl
    refine pure_ (i := 17) (N := some 123) (v := undef) (a' := ?_) am86 rfl rfl (by kernel_rfl) (fun _ _ _ h => h) (Or.inr ⟨by rfl, rfl⟩) ?_ ?_
    rotate_left
    ·simp only [amsP]
     rfl
    refine pure_ (i := 18) (N := some 124) (v := ?_) (a' := ?_) am87 rfl rfl (by kernel_rfl) (fun _ _ _ h => h) (Or.inl ⟨by rfl, ?_⟩) ?_ ?_
    rotate_left
    ·intro w'
     go_simp
     with_reducible rfl
    rotate_left
    ·simp only [amsP]
     rfl
    refine done_ (by kernel_rfl) ?_
    go_wp2
    go_meet
    case rel => exact ⟨by simp [cA, hf], ⟨HST6.out.below hHeld.2 hbs (by omega)⟩⟩
   ·cases hl : s.l0
    ·skip
     obtain ⟨p2, fp2⟩ := HST6.out.box HPT.out (by omega) (by omega) 2 (.int .i64 0) (by rw [show arm = 0 from HI.out.2.1]; rfl)
     obtain ⟨c4, f4⟩ := HST6.out.cell 4 (.bool true) (by simp [hf])
     obtain ⟨c5, f5⟩ := HST6.out.cell 5 (.bool false) (by simp [hl])
     refine start_ (n := 19) (S := fun w' => w'.cell? ⟨W.heap.size, 2, none⟩ = some (.int .i64 0) ∧ w'.cell? ⟨g, 4, none⟩ = some (.bool true) ∧ w'.cell? ⟨g, 5, none⟩ = some (.bool false) ∧ Below w6.heap.size w6 w') (ds := []) am68 (by kernel_rfl) rfl rfl ⟨(cell_b p2 (belowD (Below.refl _ _))), (cell_b c4 (belowD (Below.refl _ _))), (cell_b c5 (belowD (Below.refl _ _))), (belowD (Below.refl _ _))⟩ (fun hHeld => ?_)
     refine pure_ (i := 0) (N := some 106) (v := ?_) (a' := ?_) am69 rfl rfl (by kernel_rfl) (fun _ _ _ h => h) (Or.inl ⟨by rfl, ?_⟩) ?_ ?_
     rotate_left
     ·intro w'
      go_simp
      with_reducible rfl
     rotate_left
     ·simp only [amsP]
      rfl
     refine pure_ (i := 1) (N := some 107) (v := ?_) (a' := ?_) am70 rfl rfl (by kernel_rfl) (fun _ _ _ h => h) (Or.inl ⟨by rfl, ?_⟩) ?_ ?_
     rotate_left
     ·intro w'
      go_simp
      with_reducible rfl
     rotate_left
     ·simp only [amsP]
      rfl
     refine pure_ (i := 2) (N := some 108) (v := ?_) (a' := ?_) am71 rfl rfl (by kernel_rfl) (fun _ _ _ h => h) (Or.inl ⟨by rfl, ?_⟩) ?_ ?_
     rotate_left
     ·intro w'
      go_simp
      with_reducible rfl
     rotate_left
     ·simp only [amsP]
      rfl
     refine take_ (i := 3) (N := some 109) (v := ?_) (a' := ?_) am72 rfl rfl (by kernel_rfl) (fun _ _ _ h => h) (Or.inl ⟨by rfl, ?_⟩) hHeld ?_ ?_
     rotate_left
     ·rintro w' ⟨s0, s1, s2, s3⟩
      go_simp
      with_reducible rfl
     rotate_left
     ·simp only [amsP]
      rfl
     refine pure_ (i := 4) (N := some 110) (v := ?_) (a' := ?_) am73 rfl rfl (by kernel_rfl) (fun _ _ _ h => h) (Or.inl ⟨by rfl, ?_⟩) ?_ ?_
     rotate_left
     ·intro w'
      go_simp
      with_reducible rfl
     rotate_left
     ·simp only [amsP]
      rfl
     refine pure_ (i := 5) (N := some 111) (v := ?_) (a' := ?_) am74 rfl rfl (by kernel_rfl) (fun _ _ _ h => h) (Or.inl ⟨by rfl, ?_⟩) ?_ ?_
     rotate_left
     ·intro w'
      go_simp
      with_reducible rfl
     rotate_left
     ·simp only [amsP]
      rfl
     refine take_ (i := 6) (N := some 112) (v := ?_) (a' := ?_) am75 rfl rfl (by kernel_rfl) (fun _ _ _ h => h) (Or.inl ⟨by rfl, ?_⟩) hHeld ?_ ?_
     rotate_left
     ·rintro w' ⟨s0, s1, s2, s3⟩
      go_simp
      with_reducible rfl
     rotate_left
     ·simp only [amsP]
      rfl
     refine pure_ (i := 7) (N := some 113) (v := ?_) (a' := ?_) am76 rfl rfl (by kernel_rfl) (fun _ _ _ h => h) (Or.inl ⟨by rfl, ?_⟩) ?_ ?_
     rotate_left
     ·intro w'
      go_simp
      with_reducible rfl
     rotate_left
     ·simp only [amsP]
      rfl
     refine pure_ (i := 8) (N := some 114) (v := ?_) (a' := ?_) am77 rfl rfl (by kernel_rfl) (fun _ _ _ h => h) (Or.inl ⟨by rfl, ?_⟩) ?_ ?_
     rotate_left
     ·intro w'
      go_simp
      with_reducible rfl
     rotate_left
     ·simp only [amsP]
      rfl
     refine pure_ (i := 9) (N := some 115) (v := ?_) (a' := ?_) am78 rfl rfl (by kernel_rfl) (fun _ _ _ h => h) (Or.inl ⟨by rfl, ?_⟩) ?_ ?_
     rotate_left
     ·intro w'
      go_simp
      with_reducible rfl
     rotate_left
     ·simp only [amsP]
      rfl
     refine pure_ (i := 10) (N := some 116) (v := ?_) (a' := ?_) am79 rfl rfl (by kernel_rfl) (fun _ _ _ h => h) (Or.inl ⟨by rfl, ?_⟩) ?_ ?_
     rotate_left
     ·intro w'
      go_simp
      with_reducible rfl
     rotate_left
     ·simp only [amsP]
      rfl
     refine pure_ (i := 11) (N := some 117) (v := ?_) (a' := ?_) am80 rfl rfl (by kernel_rfl) (fun _ _ _ h => h) (Or.inl ⟨by rfl, ?_⟩) ?_ ?_
     rotate_left
     ·intro w'
      go_simp
      with_reducible rfl
     rotate_left
     ·simp only [amsP]
      rfl
     refine pure_ (i := 13) (N := some 119) (v := ?_) (a' := ?_) am88 rfl rfl (by kernel_rfl) (fun _ _ _ h => h) (Or.inl ⟨by rfl, ?_⟩) ?_ ?_
     rotate_left
     ·intro w'
      go_simp
      with_reducible rfl
     rotate_left
     ·simp only [amsP]
      rfl
     refine pure_ (i := 14) (N := some 120) (v := ?_) (a' := ?_) am89 rfl rfl (by kernel_rfl) (fun _ _ _ h => h) (Or.inl ⟨by rfl, ?_⟩) ?_ ?_
     rotate_left
     ·intro w'
      go_simp
      with_reducible rfl
     rotate_left
     ·simp only [amsP]
      rfl
     refine take_ (i := 12) (N := some 118) (v := ?_) (a' := ?_) am83 rfl rfl (by kernel_rfl) (fun _ _ _ h => h) (Or.inl ⟨by rfl, ?_⟩) hHeld ?_ ?_
     rotate_left
     ·rintro w' ⟨s0, s1, s2, s3⟩
      go_simp
      with_reducible rfl
     rotate_left
     ·simp only [amsP]
      rfl
     refine pure_ (i := 15) (N := some 121) (v := ?_) (a' := ?_) am84 rfl rfl (by kernel_rfl) (fun _ _ _ h => h) (Or.inl ⟨by rfl, ?_⟩) ?_ ?_
     rotate_left
     ·intro w'
      go_simp
      with_reducible rfl
     rotate_left
     ·simp only [amsP]
      rfl
     refine take_ (i := 16) (N := some 122) (v := ?_) (a' := ?_) am85 rfl rfl (by kernel_rfl) (fun _ _ _ h => h) (Or.inl ⟨by rfl, ?_⟩) hHeld ?_ ?_
     rotate_left
     ·rintro w' ⟨s0, s1, s2, s3⟩
      go_simp
      with_reducible rfl
     rotate_left
     ·simp only [amsP]
      rfl
     refine pure_ (i := 17) (N := some 123) (v := ?_) (a' := ?_) am86 rfl rfl (by kernel_rfl) (fun _ _ _ h => h) (Or.inl ⟨by rfl, ?_⟩) ?_ ?_
     rotate_left
     ·intro w'
      go_simp
      with_reducible rfl
     rotate_left
     ·simp only [amsP]
      rfl
     refine pure_ (i := 18) (N := some 124) (v := ?_) (a' := ?_) am87 rfl rfl (by kernel_rfl) (fun _ _ _ h => h) (Or.inl ⟨by rfl, ?_⟩) ?_ ?_
     rotate_left
     ·intro w'
      go_simp
      with_reducible rfl
     rotate_left
     ·simp only [amsP]
      rfl
     refine done_ (by kernel_rfl) ?_
     go_wp2
     go_meet
     case rel => exact ⟨by simp [cA, hf, hl], ⟨HST6.out.below hHeld.2.2.2 hbs (by omega)⟩⟩
    ·skip
     obtain ⟨p2, fp2⟩ := HST6.out.box HPT.out (by omega) (by omega) 2 (.int .i64 0) (by rw [show arm = 0 from HI.out.2.1]; rfl)
     obtain ⟨c4, f4⟩ := HST6.out.cell 4 (.bool true) (by simp [hf])
     obtain ⟨c5, f5⟩ := HST6.out.cell 5 (.bool true) (by simp [hl])
     refine start_ (n := 19) (S := fun w' => w'.cell? ⟨W.heap.size, 2, none⟩ = some (.int .i64 0) ∧ w'.cell? ⟨g, 4, none⟩ = some (.bool true) ∧ w'.cell? ⟨g, 5, none⟩ = some (.bool true) ∧ Below w6.heap.size w6 w') (ds := []) am68 (by kernel_rfl) rfl rfl ⟨(cell_b p2 (belowD (Below.refl _ _))), (cell_b c4 (belowD (Below.refl _ _))), (cell_b c5 (belowD (Below.refl _ _))), (belowD (Below.refl _ _))⟩ (fun hHeld => ?_)
     refine pure_ (i := 0) (N := some 106) (v := ?_) (a' := ?_) am69 rfl rfl (by kernel_rfl) (fun _ _ _ h => h) (Or.inl ⟨by rfl, ?_⟩) ?_ ?_
     rotate_left
     ·intro w'
      go_simp
      with_reducible rfl
     rotate_left
     ·simp only [amsP]
      rfl
     refine pure_ (i := 1) (N := some 107) (v := ?_) (a' := ?_) am70 rfl rfl (by kernel_rfl) (fun _ _ _ h => h) (Or.inl ⟨by rfl, ?_⟩) ?_ ?_
     rotate_left
     ·intro w'
      go_simp
      with_reducible rfl
     rotate_left
     ·simp only [amsP]
      rfl
     refine pure_ (i := 2) (N := some 108) (v := ?_) (a' := ?_) am71 rfl rfl (by kernel_rfl) (fun _ _ _ h => h) (Or.inl ⟨by rfl, ?_⟩) ?_ ?_
     rotate_left
     ·intro w'
      go_simp
      with_reducible rfl
     rotate_left
     ·simp only [amsP]
      rfl
     refine take_ (i := 3) (N := some 109) (v := ?_) (a' := ?_) am72 rfl rfl (by kernel_rfl) (fun _ _ _ h => h) (Or.inl ⟨by rfl, ?_⟩) hHeld ?_ ?_
     rotate_left
     ·rintro w' ⟨s0, s1, s2, s3⟩
      go_simp
      with_reducible rfl
     rotate_left
     ·simp only [amsP]
      rfl
     refine pure_ (i := 4) (N := some 110) (v := ?_) (a' := ?_) am73 rfl rfl (by kernel_rfl) (fun _ _ _ h => h) (Or.inl ⟨by rfl, ?_⟩) ?_ ?_
     rotate_left
     ·intro w'
      go_simp
      with_reducible rfl
     rotate_left
     ·simp only [amsP]
      rfl
     refine pure_ (i := 5) (N := some 111) (v := ?_) (a' := ?_) am74 rfl rfl (by kernel_rfl) (fun _ _ _ h => h) (Or.inl ⟨by rfl, ?_⟩) ?_ ?_
     rotate_left
     ·intro w'
      go_simp
      with_reducible rfl
     rotate_left
     ·simp only [amsP]
      rfl
     refine take_ (i := 6) (N := some 112) (v := ?_) (a' := ?_) am75 rfl rfl (by kernel_rfl) (fun _ _ _ h => h) (Or.inl ⟨by rfl, ?_⟩) hHeld ?_ ?_
     rotate_left
     ·rintro w' ⟨s0, s1, s2, s3⟩
      go_simp
      with_reducible rfl
     rotate_left
     ·simp only [amsP]
      rfl
     refine pure_ (i := 7) (N := some 113) (v := ?_) (a' := ?_) am76 rfl rfl (by kernel_rfl) (fun _ _ _ h => h) (Or.inl ⟨by rfl, ?_⟩) ?_ ?_
     rotate_left
     ·intro w'
      go_simp
      with_reducible rfl
     rotate_left
     ·simp only [amsP]
      rfl
     refine pure_ (i := 8) (N := some 114) (v := ?_) (a' := ?_) am77 rfl rfl (by kernel_rfl) (fun _ _ _ h => h) (Or.inl ⟨by rfl, ?_⟩) ?_ ?_
     rotate_left
     ·intro w'
      go_simp
      with_reducible rfl
     rotate_left
     ·simp only [amsP]
      rfl
     refine pure_ (i := 9) (N := some 115) (v := ?_) (a' := ?_) am78 rfl rfl (by kernel_rfl) (fun _ _ _ h => h) (Or.inl ⟨by rfl, ?_⟩) ?_ ?_
     rotate_left
     ·intro w'
      go_simp
      with_reducible rfl
     rotate_left
     ·simp only [amsP]
      rfl
     refine pure_ (i := 10) (N := some 116) (v := ?_) (a' := ?_) am79 rfl rfl (by kernel_rfl) (fun _ _ _ h => h) (Or.inl ⟨by rfl, ?_⟩) ?_ ?_
     rotate_left
     ·intro w'
      go_simp
      with_reducible rfl
     rotate_left
     ·simp only [amsP]
      rfl
     refine pure_ (i := 11) (N := some 117) (v := ?_) (a' := ?_) am80 rfl rfl (by kernel_rfl) (fun _ _ _ h => h) (Or.inl ⟨by rfl, ?_⟩) ?_ ?_
     rotate_left
     ·intro w'
      go_simp
      with_reducible rfl
     rotate_left
     ·simp only [amsP]
      rfl
     refine pure_ (i := 13) (N := some 119) (v := ?_) (a' := ?_) am88 rfl rfl (by kernel_rfl) (fun _ _ _ h => h) (Or.inl ⟨by rfl, ?_⟩) ?_ ?_
     rotate_left
     ·intro w'
      go_simp
      with_reducible rfl
     rotate_left
     ·simp only [amsP]
      rfl
     refine pure_ (i := 14) (N := some 120) (v := ?_) (a' := ?_) am89 rfl rfl (by kernel_rfl) (fun _ _ _ h => h) (Or.inl ⟨by rfl, ?_⟩) ?_ ?_
     rotate_left
     ·intro w'
      go_simp
      with_reducible rfl
     rotate_left
     ·simp only [amsP]
      rfl
     refine take_ (i := 12) (N := some 118) (v := ?_) (a' := ?_) am83 rfl rfl (by kernel_rfl) (fun _ _ _ h => h) (Or.inl ⟨by rfl, ?_⟩) hHeld ?_ ?_
     rotate_left
     ·rintro w' ⟨s0, s1, s2, s3⟩
      go_simp
      with_reducible rfl
     rotate_left
     ·simp only [amsP]
      rfl
     refine pure_ (i := 15) (N := some 121) (v := ?_) (a' := ?_) am84 rfl rfl (by kernel_rfl) (fun _ _ _ h => h) (Or.inl ⟨by rfl, ?_⟩) ?_ ?_
     rotate_left
     ·intro w'
      go_simp
      with_reducible rfl
     rotate_left
     ·simp only [amsP]
      rfl
     refine take_ (i := 16) (N := some 122) (v := ?_) (a' := ?_) am85 rfl rfl (by kernel_rfl) (fun _ _ _ h => h) (Or.inl ⟨by rfl, ?_⟩) hHeld ?_ ?_
     rotate_left
     ·rintro w' ⟨s0, s1, s2, s3⟩
      go_simp
      with_reducible rfl
     rotate_left
     ·simp only [amsP]
      rfl
     refine pure_ (i := 17) (N := some 123) (v := ?_) (a' := ?_) am86 rfl rfl (by kernel_rfl) (fun _ _ _ h => h) (Or.inl ⟨by rfl, ?_⟩) ?_ ?_
     rotate_left
     ·intro w'
      go_simp
      with_reducible rfl
     rotate_left
     ·simp only [amsP]
      rfl
     refine pure_ (i := 18) (N := some 124) (v := ?_) (a' := ?_) am87 rfl rfl (by kernel_rfl) (fun _ _ _ h => h) (Or.inl ⟨by rfl, ?_⟩) ?_ ?_
     rotate_left
     ·intro w'
      go_simp
      with_reducible rfl
     rotate_left
     ·simp only [amsP]
      rfl
     refine done_ (by kernel_rfl) ?_
     go_wp2
     go_meet
     case rel => exact ⟨by simp [cA, hf, hl], ⟨HST6.out.below hHeld.2.2.2 hbs (by omega)⟩⟩
  ·cases hf : s.first
   ·skip
    obtain ⟨c4, f4⟩ := HST6.out.cell 4 (.bool false) (by simp [hf])
    refine start_ (n := 19) (S := fun w' => w'.cell? ⟨g, 4, none⟩ = some (.bool false) ∧ Below w6.heap.size w6 w') (ds := []) am68 (by kernel_rfl) rfl rfl ⟨(cell_b c4 (belowD (Below.refl _ _))), (belowD (Below.refl _ _))⟩ (fun hHeld => ?_)
    refine pure_ (i := 0) (N := some 106) (v := ?_) (a' := ?_) am69 rfl rfl (by kernel_rfl) (fun _ _ _ h => h) (Or.inl ⟨by rfl, ?_⟩) ?_ ?_
    rotate_left
    ·intro w'
     go_simp
     with_reducible rfl
    rotate_left
    ·simp only [amsP]
     rfl
    refine pure_ (i := 1) (N := some 107) (v := ?_) (a' := ?_) am70 rfl rfl (by kernel_rfl) (fun _ _ _ h => h) (Or.inl ⟨by rfl, ?_⟩) ?_ ?_
    rotate_left
    ·intro w'
     go_simp
     with_reducible rfl
    rotate_left
    ·simp only [amsP]
     rfl
    refine pure_ (i := 2) (N := some 108) (v := ?_) (a' := ?_) am71 rfl rfl (by kernel_rfl) (fun _ _ _ h => h) (Or.inl ⟨by rfl, ?_⟩) ?_ ?_
    rotate_left
    ·intro w'
     go_simp
     with_reducible rfl
    rotate_left
    ·simp only [amsP]
     rfl
    refine take_ (i := 3) (N := some 109) (v := ?_) (a' := ?_) am72 rfl rfl (by kernel_rfl) (fun _ _ _ h => h) (Or.inl ⟨by rfl, ?_⟩) hHeld ?_ ?_
    rotate_left
    ·rintro w' ⟨s0, s1⟩
     go_simp
     with_reducible rfl
    rotate_left
    ·simp only [amsP]
     rfl
    refine pure_ (i := 4) (N := some 110) (v := ?_) (a' := ?_) am73 rfl rfl (by kernel_rfl) (fun _ _ _ h => h) (Or.inl ⟨by rfl, ?_⟩) ?_ ?_
    rotate_left
    ·intro w'
     go_simp
     with_reducible rfl
    rotate_left
    ·simp only [amsP]
     rfl
    refine pure_ (i := 5) (N := some 111) (v := undef) (a' := ?_) am74 rfl rfl (by kernel_rfl) (fun _ _ _ h => h) (Or.inr ⟨by rfl, rfl⟩) ?_ ?_
    rotate_left
    ·simp only [amsP]
     rfl
    refine pure_ (i := 6) (N := some 112) (v := undef) (a' := ?_) am75 rfl rfl (by kernel_rfl) (fun _ _ _ h => h) (Or.inr ⟨by rfl, rfl⟩) ?_ ?_
    rotate_left
    ·simp only [amsP]
     rfl
    refine pure_ (i := 7) (N := some 113) (v := undef) (a' := ?_) am76 rfl rfl (by kernel_rfl) (fun _ _ _ h => h) (Or.inr ⟨by rfl, rfl⟩) ?_ ?_
    rotate_left
    ·simp only [amsP]
     rfl
    refine pure_ (i := 8) (N := some 114) (v := ?_) (a' := ?_) am77 rfl rfl (by kernel_rfl) (fun _ _ _ h => h) (Or.inl ⟨by rfl, ?_⟩) ?_ ?_
    rotate_left
    ·intro w'
     go_simp
     with_reducible rfl
    rotate_left
    ·simp only [amsP]
     rfl
    refine pure_ (i := 9) (N := some 115) (v := ?_) (a' := ?_) am78 rfl rfl (by kernel_rfl) (fun _ _ _ h => h) (Or.inl ⟨by rfl, ?_⟩) ?_ ?_
    rotate_left
    ·intro w'
     go_simp
     with_reducible rfl
    rotate_left
    ·simp only [amsP]
     rfl
    refine pure_ (i := 10) (N := some 116) (v := undef) (a' := ?_) am79 rfl rfl (by kernel_rfl) (fun _ _ _ h => h) (Or.inr ⟨by rfl, rfl⟩) ?_ ?_
    rotate_left
    ·simp only [amsP]
     rfl
    refine pure_ (i := 11) (N := some 117) (v := undef) (a' := ?_) am80 rfl rfl (by kernel_rfl) (fun _ _ _ h => h) (Or.inr ⟨by rfl, rfl⟩) ?_ ?_
    rotate_left
    ·simp only [amsP]
     rfl
    refine pure_ (i := 12) (N := some 118) (v := undef) (a' := ?_) am81 rfl rfl (by kernel_rfl) (fun _ _ _ h => h) (Or.inr ⟨by rfl, rfl⟩) ?_ ?_
    rotate_left
    ·simp only [amsP]
     rfl
    refine pure_ (i := 13) (N := some 119) (v := undef) (a' := ?_) am82 rfl rfl (by kernel_rfl) (fun _ _ _ h => h) (Or.inr ⟨by rfl, rfl⟩) ?_ ?_
    rotate_left
    ·simp only [amsP]
     rfl
    refine pure_ (i := 14) (N := some 120) (v := undef) (a' := ?_) am83 rfl rfl (by kernel_rfl) (fun _ _ _ h => h) (Or.inr ⟨by rfl, rfl⟩) ?_ ?_
    rotate_left
    ·simp only [amsP]
     rfl
    refine pure_ (i := 15) (N := some 121) (v := undef) (a' := ?_) am84 rfl rfl (by kernel_rfl) (fun _ _ _ h => h) (Or.inr ⟨by rfl, rfl⟩) ?_ ?_
    rotate_left
    ·simp only [amsP]
     rfl
    refine pure_ (i := 16) (N := some 122) (v := undef) (a' := ?_) am85 rfl rfl (by kernel_rfl) (fun _ _ _ h => h) (Or.inr ⟨by rfl, rfl⟩) ?_ ?_
    rotate_left
    ·simp only [amsP]
     rfl
    refine pure_ (i := 17) (N := some 123) (v := undef) (a' := ?_) am86 rfl rfl (by kernel_rfl) (fun _ _ _ h => h) (Or.inr ⟨by rfl, rfl⟩) ?_ ?_
    rotate_left
    ·simp only [amsP]
     rfl
    refine pure_ (i := 18) (N := some 124) (v := ?_) (a' := ?_) am87 rfl rfl (by kernel_rfl) (fun _ _ _ h => h) (Or.inl ⟨by rfl, ?_⟩) ?_ ?_
    rotate_left
    ·intro w'
     go_simp
     with_reducible rfl
    rotate_left
    ·simp only [amsP]
     rfl
    refine done_ (by kernel_rfl) ?_
    go_wp2
    go_meet
    case rel => exact ⟨by simp [cA, hf], ⟨HST6.out.below hHeld.2 hbs (by omega)⟩⟩
   ·cases hl : s.l1
    ·skip
     obtain ⟨p2, fp2⟩ := HST6.out.box HPT.out (by omega) (by omega) 2 (.int .i64 1) (by rw [show arm = 1 from HI.out.2.1]; rfl)
     obtain ⟨c4, f4⟩ := HST6.out.cell 4 (.bool true) (by simp [hf])
     obtain ⟨c6, f6⟩ := HST6.out.cell 6 (.bool false) (by simp [hl])
     refine start_ (n := 19) (S := fun w' => w'.cell? ⟨W.heap.size, 2, none⟩ = some (.int .i64 1) ∧ w'.cell? ⟨g, 4, none⟩ = some (.bool true) ∧ w'.cell? ⟨g, 6, none⟩ = some (.bool false) ∧ Below w6.heap.size w6 w') (ds := []) am68 (by kernel_rfl) rfl rfl ⟨(cell_b p2 (belowD (Below.refl _ _))), (cell_b c4 (belowD (Below.refl _ _))), (cell_b c6 (belowD (Below.refl _ _))), (belowD (Below.refl _ _))⟩ (fun hHeld => ?_)
     refine pure_ (i := 0) (N := some 106) (v := ?_) (a' := ?_) am69 rfl rfl (by kernel_rfl) (fun _ _ _ h => h) (Or.inl ⟨by rfl, ?_⟩) ?_ ?_
     rotate_left
     ·intro w'
      go_simp
      with_reducible rfl
     rotate_left
     ·simp only [amsP]
      rfl
     refine pure_ (i := 1) (N := some 107) (v := ?_) (a' := ?_) am70 rfl rfl (by kernel_rfl) (fun _ _ _ h => h) (Or.inl ⟨by rfl, ?_⟩) ?_ ?_
     rotate_left
     ·intro w'
      go_simp
      with_reducible rfl
     rotate_left
     ·simp only [amsP]
      rfl
     refine pure_ (i := 2) (N := some 108) (v := ?_) (a' := ?_) am71 rfl rfl (by kernel_rfl) (fun _ _ _ h => h) (Or.inl ⟨by rfl, ?_⟩) ?_ ?_
     rotate_left
     ·intro w'
      go_simp
      with_reducible rfl
     rotate_left
     ·simp only [amsP]
      rfl
     refine take_ (i := 3) (N := some 109) (v := ?_) (a' := ?_) am72 rfl rfl (by kernel_rfl) (fun _ _ _ h => h) (Or.inl ⟨by rfl, ?_⟩) hHeld ?_ ?_
     rotate_left
     ·rintro w' ⟨s0, s1, s2, s3⟩
      go_simp
      with_reducible rfl
     rotate_left
     ·simp only [amsP]
      rfl
     refine pure_ (i := 4) (N := some 110) (v := ?_) (a' := ?_) am73 rfl rfl (by kernel_rfl) (fun _ _ _ h => h) (Or.inl ⟨by rfl, ?_⟩) ?_ ?_
     rotate_left
     ·intro w'
      go_simp
      with_reducible rfl
     rotate_left
     ·simp only [amsP]
      rfl
     refine pure_ (i := 5) (N := some 111) (v := ?_) (a' := ?_) am74 rfl rfl (by kernel_rfl) (fun _ _ _ h => h) (Or.inl ⟨by rfl, ?_⟩) ?_ ?_
     rotate_left
     ·intro w'
      go_simp
      with_reducible rfl
     rotate_left
     ·simp only [amsP]
      rfl
     refine take_ (i := 6) (N := some 112) (v := ?_) (a' := ?_) am75 rfl rfl (by kernel_rfl) (fun _ _ _ h => h) (Or.inl ⟨by rfl, ?_⟩) hHeld ?_ ?_
     rotate_left
     ·rintro w' ⟨s0, s1, s2, s3⟩
      go_simp
      with_reducible rfl
     rotate_left
     ·simp only [amsP]
      rfl
     refine pure_ (i := 7) (N := some 113) (v := ?_) (a' := ?_) am76 rfl rfl (by kernel_rfl) (fun _ _ _ h => h) (Or.inl ⟨by rfl, ?_⟩) ?_ ?_
     rotate_left
     ·intro w'
      go_simp
      with_reducible rfl
     rotate_left
     ·simp only [amsP]
      rfl
     refine pure_ (i := 8) (N := some 114) (v := ?_) (a' := ?_) am77 rfl rfl (by kernel_rfl) (fun _ _ _ h => h) (Or.inl ⟨by rfl, ?_⟩) ?_ ?_
     rotate_left
     ·intro w'
      go_simp
      with_reducible rfl
     rotate_left
     ·simp only [amsP]
      rfl
     refine pure_ (i := 9) (N := some 115) (v := ?_) (a' := ?_) am78 rfl rfl (by kernel_rfl) (fun _ _ _ h => h) (Or.inl ⟨by rfl, ?_⟩) ?_ ?_
     rotate_left
     ·intro w'
      go_simp
      with_reducible rfl
     rotate_left
     ·simp only [amsP]
      rfl
     refine pure_ (i := 10) (N := some 116) (v := ?_) (a' := ?_) am79 rfl rfl (by kernel_rfl) (fun _ _ _ h => h) (Or.inl ⟨by rfl, ?_⟩) ?_ ?_
     rotate_left
     ·intro w'
      go_simp
      with_reducible rfl
     rotate_left
     ·simp only [amsP]
      rfl
     refine pure_ (i := 11) (N := some 117) (v := ?_) (a' := ?_) am80 rfl rfl (by kernel_rfl) (fun _ _ _ h => h) (Or.inl ⟨by rfl, ?_⟩) ?_ ?_
     rotate_left
     ·intro w'
      go_simp
      with_reducible rfl
     rotate_left
     ·simp only [amsP]
      rfl
     refine pure_ (i := 13) (N := some 119) (v := ?_) (a' := ?_) am88 rfl rfl (by kernel_rfl) (fun _ _ _ h => h) (Or.inl ⟨by rfl, ?_⟩) ?_ ?_
     rotate_left
     ·intro w'
      go_simp
      with_reducible rfl
     rotate_left
     ·simp only [amsP]
      rfl
     refine pure_ (i := 14) (N := some 120) (v := ?_) (a' := ?_) am89 rfl rfl (by kernel_rfl) (fun _ _ _ h => h) (Or.inl ⟨by rfl, ?_⟩) ?_ ?_
     rotate_left
     ·intro w'
      go_simp
      with_reducible rfl
     rotate_left
     ·simp only [amsP]
      rfl
     refine take_ (i := 12) (N := some 118) (v := ?_) (a' := ?_) am83 rfl rfl (by kernel_rfl) (fun _ _ _ h => h) (Or.inl ⟨by rfl, ?_⟩) hHeld ?_ ?_
     rotate_left
     ·rintro w' ⟨s0, s1, s2, s3⟩
      go_simp
      with_reducible rfl
     rotate_left
     ·simp only [amsP]
      rfl
     refine pure_ (i := 15) (N := some 121) (v := ?_) (a' := ?_) am84 rfl rfl (by kernel_rfl) (fun _ _ _ h => h) (Or.inl ⟨by rfl, ?_⟩) ?_ ?_
     rotate_left
     ·intro w'
      go_simp
      with_reducible rfl
     rotate_left
     ·simp only [amsP]
      rfl
     refine take_ (i := 16) (N := some 122) (v := ?_) (a' := ?_) am85 rfl rfl (by kernel_rfl) (fun _ _ _ h => h) (Or.inl ⟨by rfl, ?_⟩) hHeld ?_ ?_
     rotate_left
     ·rintro w' ⟨s0, s1, s2, s3⟩
      go_simp
      with_reducible rfl
     rotate_left
     ·simp only [amsP]
      rfl
     refine pure_ (i := 17) (N := some 123) (v := ?_) (a' := ?_) am86 rfl rfl (by kernel_rfl) (fun _ _ _ h => h) (Or.inl ⟨by rfl, ?_⟩) ?_ ?_
     rotate_left
     ·intro w'
      go_simp
      with_reducible rfl
     rotate_left
     ·simp only [amsP]
      rfl
     refine pure_ (i := 18) (N := some 124) (v := ?_) (a' := ?_) am87 rfl rfl (by kernel_rfl) (fun _ _ _ h => h) (Or.inl ⟨by rfl, ?_⟩) ?_ ?_
     rotate_left
     ·intro w'
      go_simp
      with_reducible rfl
     rotate_left
     ·simp only [amsP]
      rfl
     refine done_ (by kernel_rfl) ?_
     go_wp2
     go_meet
     case rel => exact ⟨by simp [cA, hf, hl], ⟨HST6.out.below hHeld.2.2.2 hbs (by omega)⟩⟩
    ·skip
     obtain ⟨p2, fp2⟩ := HST6.out.box HPT.out (by omega) (by omega) 2 (.int .i64 1) (by rw [show arm = 1 from HI.out.2.1]; rfl)
     obtain ⟨c4, f4⟩ := HST6.out.cell 4 (.bool true) (by simp [hf])
     obtain ⟨c6, f6⟩ := HST6.out.cell 6 (.bool true) (by simp [hl])
     refine start_ (n := 19) (S := fun w' => w'.cell? ⟨W.heap.size, 2, none⟩ = some (.int .i64 1) ∧ w'.cell? ⟨g, 4, none⟩ = some (.bool true) ∧ w'.cell? ⟨g, 6, none⟩ = some (.bool true) ∧ Below w6.heap.size w6 w') (ds := []) am68 (by kernel_rfl) rfl rfl ⟨(cell_b p2 (belowD (Below.refl _ _))), (cell_b c4 (belowD (Below.refl _ _))), (cell_b c6 (belowD (Below.refl _ _))), (belowD (Below.refl _ _))⟩ (fun hHeld => ?_)
     refine pure_ (i := 0) (N := some 106) (v := ?_) (a' := ?_) am69 rfl rfl (by kernel_rfl) (fun _ _ _ h => h) (Or.inl ⟨by rfl, ?_⟩) ?_ ?_
     rotate_left
     ·intro w'
      go_simp
      with_reducible rfl
     rotate_left
     ·simp only [amsP]
      rfl
     refine pure_ (i := 1) (N := some 107) (v := ?_) (a' := ?_) am70 rfl rfl (by kernel_rfl) (fun _ _ _ h => h) (Or.inl ⟨by rfl, ?_⟩) ?_ ?_
     rotate_left
     ·intro w'
      go_simp
      with_reducible rfl
     rotate_left
     ·simp only [amsP]
      rfl
     refine pure_ (i := 2) (N := some 108) (v := ?_) (a' := ?_) am71 rfl rfl (by kernel_rfl) (fun _ _ _ h => h) (Or.inl ⟨by rfl, ?_⟩) ?_ ?_
     rotate_left
     ·intro w'
      go_simp
      with_reducible rfl
     rotate_left
     ·simp only [amsP]
      rfl
     refine take_ (i := 3) (N := some 109) (v := ?_) (a' := ?_) am72 rfl rfl (by kernel_rfl) (fun _ _ _ h => h) (Or.inl ⟨by rfl, ?_⟩) hHeld ?_ ?_
     rotate_left
     ·rintro w' ⟨s0, s1, s2, s3⟩
      go_simp
      with_reducible rfl
     rotate_left
     ·simp only [amsP]
      rfl
     refine pure_ (i := 4) (N := some 110) (v := ?_) (a' := ?_) am73 rfl rfl (by kernel_rfl) (fun _ _ _ h => h) (Or.inl ⟨by rfl, ?_⟩) ?_ ?_
     rotate_left
     ·intro w'
      go_simp
      with_reducible rfl
     rotate_left
     ·simp only [amsP]
      rfl
     refine pure_ (i := 5) (N := some 111) (v := ?_) (a' := ?_) am74 rfl rfl (by kernel_rfl) (fun _ _ _ h => h) (Or.inl ⟨by rfl, ?_⟩) ?_ ?_
     rotate_left
     ·intro w'
      go_simp
      with_reducible rfl
     rotate_left
     ·simp only [amsP]
      rfl
     refine take_ (i := 6) (N := some 112) (v := ?_) (a' := ?_) am75 rfl rfl (by kernel_rfl) (fun _ _ _ h => h) (Or.inl ⟨by rfl, ?_⟩) hHeld ?_ ?_
     rotate_left
     ·rintro w' ⟨s0, s1, s2, s3⟩
      go_simp
      with_reducible rfl
     rotate_left
     ·simp only [amsP]
      rfl
     refine pure_ (i := 7) (N := some 113) (v := ?_) (a' := ?_) am76 rfl rfl (by kernel_rfl) (fun _ _ _ h => h) (Or.inl ⟨by rfl, ?_⟩) ?_ ?_
     rotate_left
     ·intro w'
      go_simp
      with_reducible rfl
     rotate_left
     ·simp only [amsP]
      rfl
     refine pure_ (i := 8) (N := some 114) (v := ?_) (a' := ?_) am77 rfl rfl (by kernel_rfl) (fun _ _ _ h => h) (Or.inl ⟨by rfl, ?_⟩) ?_ ?_
     rotate_left
     ·intro w'
      go_simp
      with_reducible rfl
     rotate_left
     ·simp only [amsP]
      rfl
     refine pure_ (i := 9) (N := some 115) (v := ?_) (a' := ?_) am78 rfl rfl (by kernel_rfl) (fun _ _ _ h => h) (Or.inl ⟨by rfl, ?_⟩) ?_ ?_
     rotate_left
     ·intro w'
      go_simp
      with_reducible rfl
     rotate_left
     ·simp only [amsP]
      rfl
     refine pure_ (i := 10) (N := some 116) (v := ?_) (a' := ?_) am79 rfl rfl (by kernel_rfl) (fun _ _ _ h => h) (Or.inl ⟨by rfl, ?_⟩) ?_ ?_
     rotate_left
     ·intro w'
      go_simp
      with_reducible rfl
     rotate_left
     ·simp only [amsP]
      rfl
     refine pure_ (i := 11) (N := some 117) (v := ?_) (a' := ?_) am80 rfl rfl (by kernel_rfl) (fun _ _ _ h => h) (Or.inl ⟨by rfl, ?_⟩) ?_ ?_
     rotate_left
     ·intro w'
      go_simp
      with_reducible rfl
     rotate_left
     ·simp only [amsP]
      rfl
     refine pure_ (i := 13) (N := some 119) (v := ?_) (a' := ?_) am88 rfl rfl (by kernel_rfl) (fun _ _ _ h => h) (Or.inl ⟨by rfl, ?_⟩) ?_ ?_
     rotate_left
     ·intro w'
      go_simp
      with_reducible rfl
     rotate_left
     ·simp only [amsP]
      rfl
     refine pure_ (i := 14) (N := some 120) (v := ?_) (a' := ?_) am89 rfl rfl (by kernel_rfl) (fun _ _ _ h => h) (Or.inl ⟨by rfl, ?_⟩) ?_ ?_
     rotate_left
     ·intro w'
      go_simp
      with_reducible rfl
     rotate_left
     ·simp only [amsP]
      rfl
     refine take_ (i := 12) (N := some 118) (v := ?_) (a' := ?_) am83 rfl rfl (by kernel_rfl) (fun _ _ _ h => h) (Or.inl ⟨by rfl, ?_⟩) hHeld ?_ ?_
     rotate_left
     ·rintro w' ⟨s0, s1, s2, s3⟩
      go_simp
      with_reducible rfl
     rotate_left
     ·simp only [amsP]
      rfl
     refine pure_ (i := 15) (N := some 121) (v := ?_) (a' := ?_) am84 rfl rfl (by kernel_rfl) (fun _ _ _ h => h) (Or.inl ⟨by rfl, ?_⟩) ?_ ?_
     rotate_left
     ·intro w'
      go_simp
      with_reducible rfl
     rotate_left
     ·simp only [amsP]
      rfl
     refine take_ (i := 16) (N := some 122) (v := ?_) (a' := ?_) am85 rfl rfl (by kernel_rfl) (fun _ _ _ h => h) (Or.inl ⟨by rfl, ?_⟩) hHeld ?_ ?_
     rotate_left
     ·rintro w' ⟨s0, s1, s2, s3⟩
      go_simp
      with_reducible rfl
     rotate_left
     ·simp only [amsP]
      rfl
     refine pure_ (i := 17) (N := some 123) (v := ?_) (a' := ?_) am86 rfl rfl (by kernel_rfl) (fun _ _ _ h => h) (Or.inl ⟨by rfl, ?_⟩) ?_ ?_
     rotate_left
     ·intro w'
      go_simp
      with_reducible rfl
     rotate_left
     ·simp only [amsP]
      rfl
     refine pure_ (i := 18) (N := some 124) (v := ?_) (a' := ?_) am87 rfl rfl (by kernel_rfl) (fun _ _ _ h => h) (Or.inl ⟨by rfl, ?_⟩) ?_ ?_
     rotate_left
     ·intro w'
      go_simp
      with_reducible rfl
     rotate_left
     ·simp only [amsP]
      rfl
     refine done_ (by kernel_rfl) ?_
     go_wp2
     go_meet
     case rel => exact ⟨by simp [cA, hf, hl], ⟨HST6.out.below hHeld.2.2.2 hbs (by omega)⟩⟩
  ·have h2b : decide ((i : Int) < 2) = false := decide_eq_false (by omega)
   have hn0 : ¬ i = 0 := by omega
   have hn1 : ¬ i = 1 := by omega
   cases hf : s.first
   ·skip
    obtain ⟨c4, f4⟩ := HST6.out.cell 4 (.bool false) (by simp [hf])
    refine start_ (n := 19) (S := fun w' => w'.cell? ⟨g, 4, none⟩ = some (.bool false) ∧ Below w6.heap.size w6 w') (ds := []) am68 (by kernel_rfl) rfl rfl ⟨(cell_b c4 (belowD (Below.refl _ _))), (belowD (Below.refl _ _))⟩ (fun hHeld => ?_)
    refine pure_ (i := 0) (N := some 106) (v := ?_) (a' := ?_) am69 rfl rfl (by kernel_rfl) (fun _ _ _ h => h) (Or.inl ⟨by rfl, ?_⟩) ?_ ?_
    rotate_left
    ·intro w'
     go_simp
     with_reducible rfl
    rotate_left
    ·simp only [amsP]
     rfl
    refine pure_ (i := 1) (N := some 107) (v := ?_) (a' := ?_) am70 rfl rfl (by kernel_rfl) (fun _ _ _ h => h) (Or.inl ⟨by rfl, ?_⟩) ?_ ?_
    rotate_left
    ·intro w'
     go_simp
     with_reducible rfl
    rotate_left
    ·simp only [amsP]
     rfl
    refine pure_ (i := 2) (N := some 108) (v := ?_) (a' := ?_) am71 rfl rfl (by kernel_rfl) (fun _ _ _ h => h) (Or.inl ⟨by rfl, ?_⟩) ?_ ?_
    rotate_left
    ·intro w'
     go_simp
     with_reducible rfl
    rotate_left
    ·simp only [amsP]
     rfl
    refine take_ (i := 3) (N := some 109) (v := ?_) (a' := ?_) am72 rfl rfl (by kernel_rfl) (fun _ _ _ h => h) (Or.inl ⟨by rfl, ?_⟩) hHeld ?_ ?_
    rotate_left
    ·rintro w' ⟨s0, s1⟩
     go_simp
     with_reducible rfl
    rotate_left
    ·simp only [amsP]
     rfl
    refine pure_ (i := 4) (N := some 110) (v := ?_) (a' := ?_) am73 rfl rfl (by kernel_rfl) (fun _ _ _ h => h) (Or.inl ⟨by rfl, ?_⟩) ?_ ?_
    rotate_left
    ·intro w'
     go_simp
     with_reducible rfl
    rotate_left
    ·simp only [amsP]
     rfl
    refine pure_ (i := 5) (N := some 111) (v := undef) (a' := ?_) am74 rfl rfl (by kernel_rfl) (fun _ _ _ h => h) (Or.inr ⟨by rfl, rfl⟩) ?_ ?_
    rotate_left
    ·simp only [amsP]
     rfl
    refine pure_ (i := 6) (N := some 112) (v := undef) (a' := ?_) am75 rfl rfl (by kernel_rfl) (fun _ _ _ h => h) (Or.inr ⟨by rfl, rfl⟩) ?_ ?_
    rotate_left
    ·simp only [amsP]
     rfl
    refine pure_ (i := 7) (N := some 113) (v := undef) (a' := ?_) am76 rfl rfl (by kernel_rfl) (fun _ _ _ h => h) (Or.inr ⟨by rfl, rfl⟩) ?_ ?_
    rotate_left
    ·simp only [amsP]
     rfl
    refine pure_ (i := 8) (N := some 114) (v := ?_) (a' := ?_) am77 rfl rfl (by kernel_rfl) (fun _ _ _ h => h) (Or.inl ⟨by rfl, ?_⟩) ?_ ?_
    rotate_left
    ·intro w'
     go_simp
     with_reducible rfl
    rotate_left
    ·simp only [amsP]
     rfl
    refine pure_ (i := 9) (N := some 115) (v := ?_) (a' := ?_) am78 rfl rfl (by kernel_rfl) (fun _ _ _ h => h) (Or.inl ⟨by rfl, ?_⟩) ?_ ?_
    rotate_left
    ·intro w'
     go_simp
     with_reducible rfl
    rotate_left
    ·simp only [amsP]
     rfl
    refine pure_ (i := 10) (N := some 116) (v := undef) (a' := ?_) am79 rfl rfl (by kernel_rfl) (fun _ _ _ h => h) (Or.inr ⟨by rfl, rfl⟩) ?_ ?_
    rotate_left
    ·simp only [amsP]
     rfl
    refine pure_ (i := 11) (N := some 117) (v := undef) (a' := ?_) am80 rfl rfl (by kernel_rfl) (fun _ _ _ h => h) (Or.inr ⟨by rfl, rfl⟩) ?_ ?_
    rotate_left
    ·simp only [amsP]
     rfl
    refine pure_ (i := 12) (N := some 118) (v := undef) (a' := ?_) am81 rfl rfl (by kernel_rfl) (fun _ _ _ h => h) (Or.inr ⟨by rfl, rfl⟩) ?_ ?_
    rotate_left
    ·simp only [amsP]
     rfl
    refine pure_ (i := 13) (N := some 119) (v := undef) (a' := ?_) am82 rfl rfl (by kernel_rfl) (fun _ _ _ h => h) (Or.inr ⟨by rfl, rfl⟩) ?_ ?_
    rotate_left
    ·simp only [amsP]
     rfl
    refine pure_ (i := 14) (N := some 120) (v := undef) (a' := ?_) am83 rfl rfl (by kernel_rfl) (fun _ _ _ h => h) (Or.inr ⟨by rfl, rfl⟩) ?_ ?_
    rotate_left
    ·simp only [amsP]
     rfl
    refine pure_ (i := 15) (N := some 121) (v := undef) (a' := ?_) am84 rfl rfl (by kernel_rfl) (fun _ _ _ h => h) (Or.inr ⟨by rfl, rfl⟩) ?_ ?_
    rotate_left
    ·simp only [amsP]
     rfl
    refine pure_ (i := 16) (N := some 122) (v := undef) (a' := ?_) am85 rfl rfl (by kernel_rfl) (fun _ _ _ h => h) (Or.inr ⟨by rfl, rfl⟩) ?_ ?_
    rotate_left
    ·simp only [amsP]
     rfl
    refine pure_ (i := 17) (N := some 123) (v := undef) (a' := ?_) am86 rfl rfl (by kernel_rfl) (fun _ _ _ h => h) (Or.inr ⟨by rfl, rfl⟩) ?_ ?_
    rotate_left
    ·simp only [amsP]
     rfl
    refine pure_ (i := 18) (N := some 124) (v := ?_) (a' := ?_) am87 rfl rfl (by kernel_rfl) (fun _ _ _ h => h) (Or.inl ⟨by rfl, ?_⟩) ?_ ?_
    rotate_left
    ·intro w'
     go_simp
     with_reducible rfl
    rotate_left
    ·simp only [amsP]
     rfl
    refine done_ (by kernel_rfl) ?_
    go_wp2
    go_meet
    case rel => exact ⟨by simp [cA, hf], ⟨HST6.out.below hHeld.2 hbs (by omega)⟩⟩
   ·skip
    obtain ⟨p2, fp2⟩ := HST6.out.box HPT.out (by omega) (by omega) 2 (.int .i64 (i : Int)) (by rw [show arm = (i : Int) from HI.out.2.1]; rfl)
    obtain ⟨c4, f4⟩ := HST6.out.cell 4 (.bool true) (by simp [hf])
    refine start_ (n := 19) (S := fun w' => w'.cell? ⟨W.heap.size, 2, none⟩ = some (.int .i64 (i : Int)) ∧ w'.cell? ⟨g, 4, none⟩ = some (.bool true) ∧ Below w6.heap.size w6 w') (ds := []) am68 (by kernel_rfl) rfl rfl ⟨(cell_b p2 (belowD (Below.refl _ _))), (cell_b c4 (belowD (Below.refl _ _))), (belowD (Below.refl _ _))⟩ (fun hHeld => ?_)
    refine pure_ (i := 0) (N := some 106) (v := ?_) (a' := ?_) am69 rfl rfl (by kernel_rfl) (fun _ _ _ h => h) (Or.inl ⟨by rfl, ?_⟩) ?_ ?_
    rotate_left
    ·intro w'
     go_simp
     with_reducible rfl
    rotate_left
    ·simp only [amsP]
     rfl
    refine pure_ (i := 1) (N := some 107) (v := ?_) (a' := ?_) am70 rfl rfl (by kernel_rfl) (fun _ _ _ h => h) (Or.inl ⟨by rfl, ?_⟩) ?_ ?_
    rotate_left
    ·intro w'
     go_simp
     with_reducible rfl
    rotate_left
    ·simp only [amsP]
     rfl
    refine pure_ (i := 2) (N := some 108) (v := ?_) (a' := ?_) am71 rfl rfl (by kernel_rfl) (fun _ _ _ h => h) (Or.inl ⟨by rfl, ?_⟩) ?_ ?_
    rotate_left
    ·intro w'
     go_simp
     with_reducible rfl
    rotate_left
    ·simp only [amsP]
     rfl
    refine take_ (i := 3) (N := some 109) (v := ?_) (a' := ?_) am72 rfl rfl (by kernel_rfl) (fun _ _ _ h => h) (Or.inl ⟨by rfl, ?_⟩) hHeld ?_ ?_
    rotate_left
    ·rintro w' ⟨s0, s1, s2⟩
     go_simp
     with_reducible rfl
    rotate_left
    ·simp only [amsP]
     rfl
    refine pure_ (i := 4) (N := some 110) (v := ?_) (a' := ?_) am73 rfl rfl (by kernel_rfl) (fun _ _ _ h => h) (Or.inl ⟨by rfl, ?_⟩) ?_ ?_
    rotate_left
    ·intro w'
     go_simp
     with_reducible rfl
    rotate_left
    ·simp only [amsP]
     rfl
    refine pure_ (i := 5) (N := some 111) (v := ?_) (a' := ?_) am74 rfl rfl (by kernel_rfl) (fun _ _ _ h => h) (Or.inl ⟨by rfl, ?_⟩) ?_ ?_
    rotate_left
    ·intro w'
     go_simp
     with_reducible rfl
    rotate_left
    ·simp only [amsP]
     rfl
    refine take_ (i := 6) (N := some 112) (v := ?_) (a' := ?_) am75 rfl rfl (by kernel_rfl) (fun _ _ _ h => h) (Or.inl ⟨by rfl, ?_⟩) hHeld ?_ ?_
    rotate_left
    ·rintro w' ⟨s0, s1, s2⟩
     go_simp
     with_reducible rfl
    rotate_left
    ·simp only [amsP]
     rfl
    refine pure_ (i := 7) (N := some 113) (v := ?_) (a' := ?_) am76 rfl rfl (by kernel_rfl) (fun _ _ _ h => h) (Or.inl ⟨by rfl, ?_⟩) ?_ ?_
    rotate_left
    ·intro w'
     go_simp
     with_reducible rfl
    rotate_left
    ·simp only [amsP]
     rfl
    refine pure_ (i := 8) (N := some 114) (v := ?_) (a' := ?_) am77 rfl rfl (by kernel_rfl) (fun _ _ _ h => h) (Or.inl ⟨by rfl, ?_⟩) ?_ ?_
    rotate_left
    ·intro w'
     go_simp
     with_reducible rfl
    rotate_left
    ·simp only [amsP]
     rfl
    refine pure_ (i := 9) (N := some 115) (v := ?_) (a' := ?_) am78 rfl rfl (by kernel_rfl) (fun _ _ _ h => h) (Or.inl ⟨by rfl, ?_⟩) ?_ ?_
    rotate_left
    ·intro w'
     go_simp
     with_reducible rfl
    rotate_left
    ·simp only [amsP]
     rfl
    refine pure_ (i := 10) (N := some 116) (v := undef) (a' := ?_) am79 rfl rfl (by kernel_rfl) (fun _ _ _ h => h) (Or.inr ⟨by rfl, rfl⟩) ?_ ?_
    rotate_left
    ·simp only [amsP]
     rfl
    refine pure_ (i := 11) (N := some 117) (v := undef) (a' := ?_) am80 rfl rfl (by kernel_rfl) (fun _ _ _ h => h) (Or.inr ⟨by rfl, rfl⟩) ?_ ?_
    rotate_left
    ·simp only [amsP]
     rfl
    refine pure_ (i := 12) (N := some 118) (v := undef) (a' := ?_) am81 rfl rfl (by kernel_rfl) (fun _ _ _ h => h) (Or.inr ⟨by rfl, rfl⟩) ?_ ?_
    rotate_left
    ·simp only [amsP]
     rfl
    refine pure_ (i := 13) (N := some 119) (v := undef) (a' := ?_) am82 rfl rfl (by kernel_rfl) (fun _ _ _ h => h) (Or.inr ⟨by rfl, rfl⟩) ?_ ?_
    rotate_left
    ·simp only [amsP]
     rfl
    refine pure_ (i := 14) (N := some 120) (v := undef) (a' := ?_) am83 rfl rfl (by kernel_rfl) (fun _ _ _ h => h) (Or.inr ⟨by rfl, rfl⟩) ?_ ?_
    rotate_left
    ·simp only [amsP]
     rfl
    refine pure_ (i := 15) (N := some 121) (v := undef) (a' := ?_) am84 rfl rfl (by kernel_rfl) (fun _ _ _ h => h) (Or.inr ⟨by rfl, rfl⟩) ?_ ?_
    rotate_left
    ·simp only [amsP]
     rfl
    refine pure_ (i := 16) (N := some 122) (v := undef) (a' := ?_) am85 rfl rfl (by kernel_rfl) (fun _ _ _ h => h) (Or.inr ⟨by rfl, rfl⟩) ?_ ?_
    rotate_left
    ·simp only [amsP]
     rfl
    refine pure_ (i := 17) (N := some 123) (v := undef) (a' := ?_) am86 rfl rfl (by kernel_rfl) (fun _ _ _ h => h) (Or.inr ⟨by rfl, rfl⟩) ?_ ?_
    rotate_left
    ·simp only [amsP]
     rfl
    refine pure_ (i := 18) (N := some 124) (v := ?_) (a' := ?_) am87 rfl rfl (by kernel_rfl) (fun _ _ _ h => h) (Or.inl ⟨by rfl, ?_⟩) ?_ ?_
    rotate_left
    ·intro w'
     go_simp
     with_reducible rfl
    rotate_left
    ·simp only [amsP]
     rfl
    refine done_ (by kernel_rfl) ?_
    go_wp2
    go_meet
    case rel => exact ⟨by simp [cA, hf, hn0, hn1], ⟨HST6.out.below hHeld.2.2 hbs (by omega)⟩⟩
 case rest =>
  obtain ⟨rfl, HS1⟩ := hcut
  clear HST6
  go_upto_if 124 with (fail)
  go_cut [6] from 106 to 142 (fun s6 wc => s6 = .bool (sdA s i) ∧ Aside0 (St 87 W W1 g base (W.heap.size + 1) [.int .i64 s.sp, .int .i64 s.wt, .bool s.first, .bool (nl0 s i), .bool (nl1 s i)] wc (.slice (some ⟨ga, 0, none⟩) s.arms.length ca) (.slice At s.tiles.length ct) (s.arms) (s.tiles)))
  case first =>
   cases hcA : cA s i
   ·have e0 : nl0 s i = s.l0 := by simp [nl0, hcA]
    have e1 : nl1 s i = s.l1 := by simp [nl1, hcA]
    go_wp2
    go_meet
    case rel => exact ⟨by simp [sdA, hcA], by rw [e0, e1]; exact HS1⟩
   ·have hq : (i = 0 ∧ s.l0 = false) ∨ (i = 1 ∧ s.l1 = false) := by
     have := hcA
     simp only [cA, Bool.and_eq_true, Bool.or_eq_true, decide_eq_true_eq, Bool.not_eq_true'] at this
     exact this.2
    rcases hq with ⟨rfl, hl⟩ | ⟨rfl, hl⟩
    ·have e0 : nl0 s 0 = true := by simp [nl0, hcA, hl]
     have e1 : nl1 s 0 = s.l1 := by simp [nl1, hcA, hl]
     have e2 : sdA s 0 = s.l1 := by simp [sdA, nl0, nl1, hcA, hl]
     obtain ⟨p2, fp2⟩ := HS1.out.box HPT.out (by omega) (by omega) 2 (.int .i64 0) (by rw [show arm = 0 from HI.out.2.1]; rfl)
     go_wp2
     refine start_ (n := 7) (S := fun w' => w'.cell? ⟨W.heap.size, 2, none⟩ = some (.int .i64 0) ∧ Below wc.heap.size wc w') (ds := [6]) am90 (by kernel_rfl) rfl rfl ⟨(cell_b p2 (belowD (Below.refl _ _))), (belowD (Below.refl _ _))⟩ (fun hHeld => ?_)
     generalize wc.drew = wd at hHeld ⊢
     have HSTd := Aside0.mk (HS1.out.below hHeld.2 hbs (by omega))
     obtain ⟨cw, fw⟩ := HSTd.out.cell 5 (.bool s.l0) rfl
     refine pure_ (i := 0) (N := some 125) (v := ?_) (a' := ?_) am91 rfl rfl (by kernel_rfl) (fun _ _ _ h => h) (Or.inl ⟨by rfl, ?_⟩) ?_ ?_
     rotate_left
     ·intro w'
      go_simp
      with_reducible rfl
     rotate_left
     ·simp only [amsP]
      rfl
     refine pure_ (i := 1) (N := some 126) (v := ?_) (a' := ?_) am92 rfl rfl (by kernel_rfl) (fun _ _ _ h => h) (Or.inl ⟨by rfl, ?_⟩) ?_ ?_
     rotate_left
     ·intro w'
      go_simp
      with_reducible rfl
     rotate_left
     ·simp only [amsP]
      rfl
     refine pure_ (i := 3) (N := some 128) (v := ?_) (a' := ?_) am93 rfl rfl (by kernel_rfl) (fun _ _ _ h => h) (Or.inl ⟨by rfl, ?_⟩) ?_ ?_
     rotate_left
     ·intro w'
      go_simp
      with_reducible rfl
     rotate_left
     ·simp only [amsP]
      rfl
     refine pure_ (i := 4) (N := some 129) (v := ?_) (a' := ?_) am94 rfl rfl (by kernel_rfl) (fun _ _ _ h => h) (Or.inl ⟨by rfl, ?_⟩) ?_ ?_
     rotate_left
     ·intro w'
      go_simp
      with_reducible rfl
     rotate_left
     ·simp only [amsP]
      rfl
     refine take_ (i := 2) (N := some 127) (v := ?_) (a' := ?_) am95 rfl rfl (by kernel_rfl) (fun _ _ _ h => h) (Or.inl ⟨by rfl, ?_⟩) hHeld ?_ ?_
     rotate_left
     ·rintro w' ⟨s0, s1⟩
      go_simp
      with_reducible rfl
     rotate_left
     ·simp only [amsP]
      rfl
     refine pure_ (i := 5) (N := some 130) (v := ?_) (a' := ?_) am96 rfl rfl (by kernel_rfl) (fun _ _ _ h => h) (Or.inl ⟨by rfl, ?_⟩) ?_ ?_
     rotate_left
     ·intro w'
      go_simp
      with_reducible rfl
     rotate_left
     ·simp only [amsP]
      rfl
     refine last_ (i := 6) (N := none) am97 rfl rfl (by kernel_rfl) (by decide) (fun K hK => ?_)
     refine skip_ (w1 := ?_) (by rfl) rfl ?_ ?_
     rotate_left
     ·go_simp
      rfl
     refine hK.out _ _ ?_
     clear hK K
     refine done_ (by kernel_rfl) ?_
     have hS13 := HSTd.out.set_rest hgl hbase 3 (.bool true)
     simp only [List.set_cons_zero, List.set_cons_succ] at hS13
     generalize wd.setCell ⟨g, 5, none⟩ (.bool true) = w13 at hS13 ⊢
     have HS13 := Aside0.mk hS13
     clear hS13 p2 fp2 cw fw hHeld
     obtain ⟨c5, f5⟩ := HS13.out.cell 5 (.bool true) (rfl)
     obtain ⟨c6, f6⟩ := HS13.out.cell 6 (.bool s.l1) (rfl)
     go_wp2
     go_meet
     case rel => exact ⟨by rw [e2], by rw [e0, e1]; exact HS13⟩
    ·have e0 : nl0 s 1 = s.l0 := by simp [nl0, hcA, hl]
     have e1 : nl1 s 1 = true := by simp [nl1, hcA, hl]
     have e2 : sdA s 1 = s.l0 := by simp [sdA, nl0, nl1, hcA, hl]
     obtain ⟨p2, fp2⟩ := HS1.out.box HPT.out (by omega) (by omega) 2 (.int .i64 1) (by rw [show arm = 1 from HI.out.2.1]; rfl)
     go_wp2
     refine start_ (n := 7) (S := fun w' => w'.cell? ⟨W.heap.size, 2, none⟩ = some (.int .i64 1) ∧ Below wc.heap.size wc w') (ds := [6]) am90 (by kernel_rfl) rfl rfl ⟨(cell_b p2 (belowD (Below.refl _ _))), (belowD (Below.refl _ _))⟩ (fun hHeld => ?_)
     generalize wc.drew = wd at hHeld ⊢
     have HSTd := Aside0.mk (HS1.out.below hHeld.2 hbs (by omega))
     obtain ⟨cw, fw⟩ := HSTd.out.cell 6 (.bool s.l1) rfl
     refine pure_ (i := 0) (N := some 125) (v := ?_) (a' := ?_) am91 rfl rfl (by kernel_rfl) (fun _ _ _ h => h) (Or.inl ⟨by rfl, ?_⟩) ?_ ?_
     rotate_left
     ·intro w'
      go_simp
      with_reducible rfl
     rotate_left
     ·simp only [amsP]
      rfl
     refine pure_ (i := 1) (N := some 126) (v := ?_) (a' := ?_) am92 rfl rfl (by kernel_rfl) (fun _ _ _ h => h) (Or.inl ⟨by rfl, ?_⟩) ?_ ?_
     rotate_left
     ·intro w'
      go_simp
      with_reducible rfl
     rotate_left
     ·simp only [amsP]
      rfl
     refine pure_ (i := 3) (N := some 128) (v := ?_) (a' := ?_) am93 rfl rfl (by kernel_rfl) (fun _ _ _ h => h) (Or.inl ⟨by rfl, ?_⟩) ?_ ?_
     rotate_left
     ·intro w'
      go_simp
      with_reducible rfl
     rotate_left
     ·simp only [amsP]
      rfl
     refine pure_ (i := 4) (N := some 129) (v := ?_) (a' := ?_) am94 rfl rfl (by kernel_rfl) (fun _ _ _ h => h) (Or.inl ⟨by rfl, ?_⟩) ?_ ?_
     rotate_left
     ·intro w'
      go_simp
      with_reducible rfl
     rotate_left
     ·simp only [amsP]
      rfl
     refine take_ (i := 2) (N := some 127) (v := ?_) (a' := ?_) am95 rfl rfl (by kernel_rfl) (fun _ _ _ h => h) (Or.inl ⟨by rfl, ?_⟩) hHeld ?_ ?_
     rotate_left
     ·rintro w' ⟨s0, s1⟩
      go_simp
      with_reducible rfl
     rotate_left
     ·simp only [amsP]
      rfl
     refine pure_ (i := 5) (N := some 130) (v := ?_) (a' := ?_) am96 rfl rfl (by kernel_rfl) (fun _ _ _ h => h) (Or.inl ⟨by rfl, ?_⟩) ?_ ?_
     rotate_left
     ·intro w'
      go_simp
      with_reducible rfl
     rotate_left
     ·simp only [amsP]
      rfl
     refine last_ (i := 6) (N := none) am97 rfl rfl (by kernel_rfl) (by decide) (fun K hK => ?_)
     refine skip_ (w1 := ?_) (by rfl) rfl ?_ ?_
     rotate_left
     ·go_simp
      rfl
     refine hK.out _ _ ?_
     clear hK K
     refine done_ (by kernel_rfl) ?_
     have hS13 := HSTd.out.set_rest hgl hbase 4 (.bool true)
     simp only [List.set_cons_zero, List.set_cons_succ] at hS13
     generalize wd.setCell ⟨g, 6, none⟩ (.bool true) = w13 at hS13 ⊢
     have HS13 := Aside0.mk hS13
     clear hS13 p2 fp2 cw fw hHeld
     cases hl2 : s.l0
     ·skip
      obtain ⟨c5, f5⟩ := HS13.out.cell 5 (.bool false) (by simp [hl2])
      obtain ⟨c6, f6⟩ := HS13.out.cell 6 (.bool true) (rfl)
      go_wp2
      go_meet
      case rel => exact ⟨by rw [e2, hl2], by rw [e0, e1]; exact HS13⟩
     ·skip
      obtain ⟨c5, f5⟩ := HS13.out.cell 5 (.bool true) (by simp [hl2])
      obtain ⟨c6, f6⟩ := HS13.out.cell 6 (.bool true) (rfl)
      go_wp2
      go_meet
      case rel => exact ⟨by rw [e2, hl2], by rw [e0, e1]; exact HS13⟩
  case rest =>
   obtain ⟨rfl, HS2⟩ := hcut
   clear HS1
   go_upto_region 19 with (fail)
   obtain ⟨p2, fp2⟩ := HS2.out.box HPT.out (by omega) (by omega) 2 (.int .i64 (i : Int)) (by rw [show arm = (i : Int) from HI.out.2.1]; rfl)
   obtain ⟨c3, f3⟩ := HS2.out.cell 3 (.int .i64 s.wt) rfl
   refine start_ (n := 7) (S := fun w' => w'.cell? ⟨W.heap.size, 2, none⟩ = some (.int .i64 (i : Int)) ∧ w'.cell? ⟨g, 3, none⟩ = some (.int .i64 s.wt) ∧ Below wc.heap.size wc w') (ds := []) am90 (by kernel_rfl) rfl rfl ⟨(cell_b p2 (belowD (Below.refl _ _))), (cell_b c3 (belowD (Below.refl _ _))), (belowD (Below.refl _ _))⟩ (fun hHeld => ?_)
   refine pure_ (i := 0) (N := some 143) (v := ?_) (a' := ?_) am91 rfl rfl (by kernel_rfl) (fun _ _ _ h => h) (Or.inl ⟨by rfl, ?_⟩) ?_ ?_
   rotate_left
   ·intro w'
    go_simp
    with_reducible rfl
   rotate_left
   ·simp only [amsP]
    rfl
   refine pure_ (i := 1) (N := some 144) (v := ?_) (a' := ?_) am92 rfl rfl (by kernel_rfl) (fun _ _ _ h => h) (Or.inl ⟨by rfl, ?_⟩) ?_ ?_
   rotate_left
   ·intro w'
    go_simp
    with_reducible rfl
   rotate_left
   ·simp only [amsP]
    rfl
   refine pure_ (i := 2) (N := some 145) (v := ?_) (a' := ?_) am98 rfl rfl (by kernel_rfl) (fun _ _ _ h => h) (Or.inl ⟨by rfl, ?_⟩) ?_ ?_
   rotate_left
   ·intro w'
    go_simp
    with_reducible rfl
   rotate_left
   ·simp only [amsP]
    rfl
   refine pure_ (i := 4) (N := some 147) (v := ?_) (a' := ?_) am99 rfl rfl (by kernel_rfl) (fun _ _ _ h => h) (Or.inl ⟨by rfl, ?_⟩) ?_ ?_
   rotate_left
   ·intro w'
    go_simp
    with_reducible rfl
   rotate_left
   ·simp only [amsP]
    rfl
   refine take_ (i := 3) (N := some 146) (v := ?_) (a' := ?_) am95 rfl rfl (by kernel_rfl) (fun _ _ _ h => h) (Or.inl ⟨by rfl, ?_⟩) hHeld ?_ ?_
   rotate_left
   ·rintro w' ⟨s0, s1, s2⟩
    go_simp
    with_reducible rfl
   rotate_left
   ·simp only [amsP]
    rfl
   refine take_ (i := 5) (N := some 148) (v := ?_) (a' := ?_) am96 rfl rfl (by kernel_rfl) (fun _ _ _ h => h) (Or.inl ⟨by rfl, ?_⟩) hHeld ?_ ?_
   rotate_left
   ·rintro w' ⟨s0, s1, s2⟩
    go_simp
    with_reducible rfl
   rotate_left
   ·simp only [amsP]
    rfl
   refine pure_ (i := 6) (N := some 149) (v := ?_) (a' := ?_) am97 rfl rfl (by kernel_rfl) (fun _ _ _ h => h) (Or.inl ⟨by rfl, ?_⟩) ?_ ?_
   rotate_left
   ·intro w'
    go_simp
    with_reducible rfl
   rotate_left
   ·simp only [amsP]
    rfl
   refine done_ (by kernel_rfl) ?_
   have HS3 := Aside0.mk (HS2.out.below hHeld.2.2 hbs (by omega))
   clear p2 fp2 c3 f3 HS2 hHeld
   generalize wc.drew = w20 at HS3 ⊢
   go_upto_if 149 with (fail)
   go_cut [6] from 106 to 152 (fun s6 wc => s6 = .bool (decide (s.wt = (i : Int)) || sdA s i) ∧ Aside0 (St 87 W W1 g base (W.heap.size + 1) [.int .i64 s.sp, .int .i64 (if decide (s.wt = (i : Int)) = true then -1 else s.wt), .bool s.first, .bool (nl0 s i), .bool (nl1 s i)] wc (.slice (some ⟨ga, 0, none⟩) s.arms.length ca) (.slice At s.tiles.length ct) (s.arms) (s.tiles)))
   case first =>
    by_cases hw : s.wt = (i : Int)
    ·have hwb : (s.wt == (i : Int)) = true := by rw [beq_iff_eq]; exact hw
     obtain ⟨c3, f3⟩ := HS3.out.cell 3 (.int .i64 s.wt) rfl
     have hS := HS3.out.set_rest hgl hbase 1 (.int .i64 (-1))
     simp only [List.set_cons_zero, List.set_cons_succ] at hS
     have HS := Aside0.mk hS
     clear hS
     go_wp2
     go_meet
     case rel => exact ⟨by rw [decide_eq_true hw]; rfl, by rw [if_pos (decide_eq_true hw)]; exact HS⟩
    ·have hwb : (s.wt == (i : Int)) = false := by rw [beq_eq_false_iff_ne]; exact hw
     go_wp2
     go_meet
     case rel => exact ⟨by rw [decide_eq_false hw]; rfl, by rw [if_neg (by rw [decide_eq_false hw]; decide)]; exact HS3⟩
   case rest =>
    obtain ⟨rfl, HS4⟩ := hcut
    clear HS3
    go_upto_region 22 with (fail)
    obtain ⟨t0, ft0⟩ := HS4.out.box HPT.out (by omega) (by omega) 0 (.int .i64 t.f0) rfl
    obtain ⟨t1, ft1⟩ := HS4.out.box HPT.out (by omega) (by omega) 1 (.int .i64 t.f1) rfl
    obtain ⟨c0, f0⟩ := HS4.out.cell 0 (.slice (some ⟨ga, 0, none⟩) s.arms.length ca) rfl
    obtain ⟨p2, fp2⟩ := HS4.out.box HPT.out (by omega) (by omega) 2 (.int .i64 (i : Int)) (by rw [show arm = (i : Int) from HI.out.2.1]; rfl)
    obtain ⟨⟨r0, r1, r2⟩, fr⟩ := HS4.out.row i x HROW.out.2.2
    refine start_ (n := 22) (S := fun w' => w'.cell? ⟨W.heap.size, 0, none⟩ = some (.int .i64 t.f0) ∧ w'.cell? ⟨W.heap.size, 1, none⟩ = some (.int .i64 t.f1) ∧ w'.cell? ⟨W.heap.size, 2, none⟩ = some (.int .i64 (i : Int)) ∧ w'.cell? ⟨g, 0, none⟩ = some (.slice (some ⟨ga, 0, none⟩) s.arms.length ca) ∧ w'.cell? ⟨ga, i * 3, none⟩ = some (.int .i64 x.f0) ∧ w'.cell? ⟨ga, i * 3 + 1, none⟩ = some (.bool x.f1) ∧ w'.cell? ⟨ga, i * 3 + 2, none⟩ = some (.bool x.f2) ∧ Below wc.heap.size wc w') (ds := [21]) am0 (by kernel_rfl) rfl rfl ⟨(cell_b t0 (belowD (Below.refl _ _))), (cell_b t1 (belowD (Below.refl _ _))), (cell_b p2 (belowD (Below.refl _ _))), (cell_b c0 (belowD (Below.refl _ _))), (cell_b r0 (belowD (Below.refl _ _))), (cell_b r1 (belowD (Below.refl _ _))), (cell_b r2 (belowD (Below.refl _ _))), (belowD (Below.refl _ _))⟩ (fun hHeld => ?_)
    refine pure_ (i := 0) (N := some 153) (v := ?_) (a' := ?_) am1 rfl rfl (by kernel_rfl) (fun _ _ _ h => h) (Or.inl ⟨by rfl, ?_⟩) ?_ ?_
    rotate_left
    ·intro w'
     go_simp
     with_reducible rfl
    rotate_left
    ·simp only [amsP]
     rfl
    refine pure_ (i := 1) (N := some 154) (v := ?_) (a' := ?_) am2 rfl rfl (by kernel_rfl) (fun _ _ _ h => h) (Or.inl ⟨by rfl, ?_⟩) ?_ ?_
    rotate_left
    ·intro w'
     go_simp
     with_reducible rfl
    rotate_left
    ·simp only [amsP]
     rfl
    refine pure_ (i := 2) (N := some 155) (v := ?_) (a' := ?_) am3 rfl rfl (by kernel_rfl) (fun _ _ _ h => h) (Or.inl ⟨by rfl, ?_⟩) ?_ ?_
    rotate_left
    ·intro w'
     go_simp
     with_reducible rfl
    rotate_left
    ·simp only [amsP]
     rfl
    refine pure_ (i := 4) (N := some 157) (v := ?_) (a' := ?_) am100 rfl rfl (by kernel_rfl) (fun _ _ _ h => h) (Or.inl ⟨by rfl, ?_⟩) ?_ ?_
    rotate_left
    ·intro w'
     go_simp
     with_reducible rfl
    rotate_left
    ·simp only [amsP]
     rfl
    refine pure_ (i := 6) (N := some 159) (v := ?_) (a' := ?_) am101 rfl rfl (by kernel_rfl) (fun _ _ _ h => h) (Or.inl ⟨by rfl, ?_⟩) ?_ ?_
    rotate_left
    ·intro w'
     go_simp
     with_reducible rfl
    rotate_left
    ·simp only [amsP]
     rfl
    refine pure_ (i := 8) (N := some 161) (v := ?_) (a' := ?_) am102 rfl rfl (by kernel_rfl) (fun _ _ _ h => h) (Or.inl ⟨by rfl, ?_⟩) ?_ ?_
    rotate_left
    ·intro w'
     go_simp
     with_reducible rfl
    rotate_left
    ·simp only [amsP]
     rfl
    refine pure_ (i := 9) (N := some 162) (v := ?_) (a' := ?_) am103 rfl rfl (by kernel_rfl) (fun _ _ _ h => h) (Or.inl ⟨by rfl, ?_⟩) ?_ ?_
    rotate_left
    ·intro w'
     go_simp
     with_reducible rfl
    rotate_left
    ·simp only [amsP]
     rfl
    refine pure_ (i := 10) (N := some 163) (v := ?_) (a' := ?_) am104 rfl rfl (by kernel_rfl) (fun _ _ _ h => h) (Or.inl ⟨by rfl, ?_⟩) ?_ ?_
    rotate_left
    ·intro w'
     go_simp
     with_reducible rfl
    rotate_left
    ·simp only [amsP]
     rfl
    refine pure_ (i := 12) (N := some 165) (v := ?_) (a' := ?_) am105 rfl rfl (by kernel_rfl) (fun _ _ _ h => h) (Or.inl ⟨by rfl, ?_⟩) ?_ ?_
    rotate_left
    ·intro w'
     go_simp
     with_reducible rfl
    rotate_left
    ·simp only [amsP]
     rfl
    refine pure_ (i := 18) (N := some 171) (v := ?_) (a' := ?_) am106 rfl rfl (by kernel_rfl) (fun _ _ _ h => h) (Or.inl ⟨by rfl, ?_⟩) ?_ ?_
    rotate_left
    ·intro w'
     go_simp
     with_reducible rfl
    rotate_left
    ·simp only [amsP]
     rfl
    refine take_ (i := 3) (N := some 156) (v := ?_) (a' := ?_) am107 rfl rfl (by kernel_rfl) (fun _ _ _ h => h) (Or.inl ⟨by rfl, ?_⟩) hHeld ?_ ?_
    rotate_left
    ·rintro w' ⟨s0, s1, s2, s3, s4, s5, s6, s7⟩
     go_simp
     with_reducible rfl
    rotate_left
    ·simp only [amsP]
     rfl
    refine take_ (i := 5) (N := some 158) (v := ?_) (a' := ?_) am108 rfl rfl (by kernel_rfl) (fun _ _ _ h => h) (Or.inl ⟨by rfl, ?_⟩) hHeld ?_ ?_
    rotate_left
    ·rintro w' ⟨s0, s1, s2, s3, s4, s5, s6, s7⟩
     go_simp
     with_reducible rfl
    rotate_left
    ·simp only [amsP]
     rfl
    refine take_ (i := 7) (N := some 160) (v := ?_) (a' := ?_) am109 rfl rfl (by kernel_rfl) (fun _ _ _ h => h) (Or.inl ⟨by rfl, ?_⟩) hHeld ?_ ?_
    rotate_left
    ·rintro w' ⟨s0, s1, s2, s3, s4, s5, s6, s7⟩
     go_simp
     with_reducible rfl
    rotate_left
    ·simp only [amsP]
     rfl
    refine take_ (i := 11) (N := some 164) (v := ?_) (a' := ?_) am110 rfl rfl (by kernel_rfl) (fun _ _ _ h => h) (Or.inl ⟨by rfl, ?_⟩) hHeld ?_ ?_
    rotate_left
    ·rintro w' ⟨s0, s1, s2, s3, s4, s5, s6, s7⟩
     go_simp
     with_reducible rfl
    rotate_left
    ·simp only [amsP]
     rfl
    refine take_ (i := 13) (N := some 166) (v := ?_) (a' := ?_) am111 rfl rfl (by kernel_rfl) (fun _ _ _ h => h) (Or.inl ⟨by rfl, ?_⟩) hHeld ?_ ?_
    rotate_left
    ·rintro w' ⟨s0, s1, s2, s3, s4, s5, s6, s7⟩
     go_simp
     with_reducible rfl
    rotate_left
    ·simp only [amsP]
     rfl
    refine pure_ (i := 14) (N := some 167) (v := ?_) (a' := ?_) am112 rfl rfl (by kernel_rfl) (fun _ _ _ h => h) (Or.inl ⟨by rfl, ?_⟩) ?_ ?_
    rotate_left
    ·intro w'
     go_simp
     with_reducible rfl
    rotate_left
    ·simp only [amsP]
     rfl
    refine pure_ (i := 15) (N := some 168) (v := ?_) (a' := ?_) am113 rfl rfl (by kernel_rfl) (fun _ _ _ h => h) (Or.inl ⟨by rfl, ?_⟩) ?_ ?_
    rotate_left
    ·intro w'
     go_simp
     with_reducible rfl
    rotate_left
    ·simp only [amsP]
     rfl
    refine take_ (i := 16) (N := some 169) (v := ?_) (a' := ?_) am114 rfl rfl (by kernel_rfl) (fun _ _ _ h => h) (Or.inl ⟨by rfl, ?_⟩) hHeld ?_ ?_
    rotate_left
    ·rintro w' ⟨s0, s1, s2, s3, s4, s5, s6, s7⟩
     go_simp
     with_reducible rfl
    rotate_left
    ·simp only [amsP]
     rfl
    refine one_ (i := 17) (N := some 170) am19 rfl rfl (by kernel_rfl) (by decide) (fun K hK => ?_)
    refine goes_ Try.func92 (by kernel_rfl) rfl #[.agg #[.int .i64 t.f0, .int .i64 t.f1], .int .i64 x.f0] (by rfl) rfl rfl (by simp only [List.map_toArray, List.map_cons, List.map_nil]; rfl) ?_
    with_reducible refine (spec_haOther.calls t.f0 t.f1 x.f0 (t.f0 + t.f1 - x.f0) _ hho).mono ?_
    rintro e w9 ⟨rfl, hb_17⟩
    refine ⟨_, rfl, ?_⟩
    have hB_17 := belowS hHeld.2.2.2.2.2.2.2 hb_17
    refine hK.out _ _ ⟨(cell_b t0 hB_17), (cell_b t1 hB_17), (cell_b p2 hB_17), (cell_b c0 hB_17), (cell_b r0 hB_17), (cell_b r1 hB_17), (cell_b r2 hB_17), hB_17⟩ (fun hHeld => ?_)
    clear hK K
    refine norm_ (a' := ?_) ?_ ?_
    rotate_left
    ·show Act.put _ (some 170) _ = _
     simp only [amsP]
     rfl
    refine pure_ (i := 19) (N := some 172) (v := ?_) (a' := ?_) am20 rfl rfl (by kernel_rfl) (fun _ _ _ h => h) (Or.inl ⟨by rfl, ?_⟩) ?_ ?_
    rotate_left
    ·intro w'
     go_simp
     with_reducible rfl
    rotate_left
    ·simp only [amsP]
     rfl
    refine pure_ (i := 20) (N := some 173) (v := ?_) (a' := ?_) am21 rfl rfl (by kernel_rfl) (fun _ _ _ h => h) (Or.inl ⟨by rfl, ?_⟩) ?_ ?_
    rotate_left
    ·intro w'
     go_simp
     with_reducible rfl
    rotate_left
    ·simp only [amsP]
     rfl
    refine last_ (i := 21) (N := none) am22 rfl rfl (by kernel_rfl) (by decide) (fun K hK => ?_)
    obtain ⟨_, _, _, _, r0', r1', r2', _⟩ := hHeld
    obtain ⟨_, fr'⟩ := (HS4.out.below hB_17 hbs (by omega)).row i x HROW.out.2.2
    refine skip_ (w1 := ?_) (by rfl) rfl ?_ ?_
    rotate_left
    ·go_simp
     rfl
    refine hK.out _ _ ?_
    clear hK K
    refine done_ (by kernel_rfl) ?_
    clear hHeld t0 ft0 t1 ft1 p2 fp2 c0 f0 fr r0 r1 r2 r0' r1' r2' fr'
    have hS11 := (HS4.out.below hB_17 hbs (by omega)).arm_set i ⟨t.f0 + t.f1 - x.f0, t.f0 == t.f1, false⟩ hil
    simp only [setA] at hS11
    generalize ((w9.setCell ⟨ga, i * 3, none⟩ (.int .i64 (t.f0 + t.f1 - x.f0))).setCell ⟨ga, i * 3 + 1, none⟩ (.bool (t.f0 == t.f1))).setCell ⟨ga, i * 3 + 2, none⟩ (.bool false) = w11 at hS11 ⊢
    have HS11 := Aside0.mk hS11
    clear hS11
    go_upto_region 23 with (fail)
    obtain ⟨t0, ft0⟩ := HS11.out.box HPT.out (by omega) (by omega) 0 (.int .i64 t.f0) rfl
    obtain ⟨t1, ft1⟩ := HS11.out.box HPT.out (by omega) (by omega) 1 (.int .i64 t.f1) rfl
    obtain ⟨c1, f1⟩ := HS11.out.cell 1 (.slice At s.tiles.length ct) rfl
    refine start_ (n := 12) (S := fun w' => w'.cell? ⟨W.heap.size, 0, none⟩ = some (.int .i64 t.f0) ∧ w'.cell? ⟨W.heap.size, 1, none⟩ = some (.int .i64 t.f1) ∧ w'.cell? ⟨g, 1, none⟩ = some (.slice At s.tiles.length ct) ∧ Below w11.heap.size w11 w') (ds := [8, 11]) am24 (by kernel_rfl) rfl rfl ⟨(cell_b t0 (belowD (Below.refl _ _))), (cell_b t1 (belowD (Below.refl _ _))), (cell_b c1 (belowD (Below.refl _ _))), (belowD (Below.refl _ _))⟩ (fun hHeld => ?_)
    generalize w11.drew = wd at hHeld ⊢
    have HSTd := Aside0.mk (HS11.out.below hHeld.2.2.2 hbs (by omega))
    refine pure_ (i := 0) (N := some 174) (v := ?_) (a' := ?_) am25 rfl rfl (by kernel_rfl) (fun _ _ _ h => h) (Or.inl ⟨by rfl, ?_⟩) ?_ ?_
    rotate_left
    ·intro w'
     go_simp
     with_reducible rfl
    rotate_left
    ·simp only [amsP]
     rfl
    refine pure_ (i := 1) (N := some 175) (v := ?_) (a' := ?_) am26 rfl rfl (by kernel_rfl) (fun _ _ _ h => h) (Or.inl ⟨by rfl, ?_⟩) ?_ ?_
    rotate_left
    ·intro w'
     go_simp
     with_reducible rfl
    rotate_left
    ·simp only [amsP]
     rfl
    refine pure_ (i := 2) (N := some 176) (v := ?_) (a' := ?_) am27 rfl rfl (by kernel_rfl) (fun _ _ _ h => h) (Or.inl ⟨by rfl, ?_⟩) ?_ ?_
    rotate_left
    ·intro w'
     go_simp
     with_reducible rfl
    rotate_left
    ·simp only [amsP]
     rfl
    refine pure_ (i := 3) (N := some 177) (v := ?_) (a' := ?_) am28 rfl rfl (by kernel_rfl) (fun _ _ _ h => h) (Or.inl ⟨by rfl, ?_⟩) ?_ ?_
    rotate_left
    ·intro w'
     go_simp
     with_reducible rfl
    rotate_left
    ·simp only [amsP]
     rfl
    refine pure_ (i := 5) (N := some 179) (v := ?_) (a' := ?_) am29 rfl rfl (by kernel_rfl) (fun _ _ _ h => h) (Or.inl ⟨by rfl, ?_⟩) ?_ ?_
    rotate_left
    ·intro w'
     go_simp
     with_reducible rfl
    rotate_left
    ·simp only [amsP]
     rfl
    refine take_ (i := 4) (N := some 178) (v := ?_) (a' := ?_) am30 rfl rfl (by kernel_rfl) (fun _ _ _ h => h) (Or.inl ⟨by rfl, ?_⟩) hHeld ?_ ?_
    rotate_left
    ·rintro w' ⟨s0, s1, s2, s3⟩
     go_simp
     with_reducible rfl
    rotate_left
    ·simp only [amsP]
     rfl
    refine take_ (i := 6) (N := some 180) (v := ?_) (a' := ?_) am31 rfl rfl (by kernel_rfl) (fun _ _ _ h => h) (Or.inl ⟨by rfl, ?_⟩) hHeld ?_ ?_
    rotate_left
    ·rintro w' ⟨s0, s1, s2, s3⟩
     go_simp
     with_reducible rfl
    rotate_left
    ·simp only [amsP]
     rfl
    refine one_ (i := 7) (N := some 181) am32 rfl rfl (by kernel_rfl) (by decide) (fun K hK => ?_)
    refine value_ (w1 := ?_) (v := ?_) (by rfl) rfl ?_ ?_
    rotate_left 2
    ·go_simp
     constructor
     ·rfl
     ·rfl
    refine hK.out _ _ ⟨(cell_b t0 (belowA hHeld.2.2.2 _)), (cell_b t1 (belowA hHeld.2.2.2 _)), (cell_b c1 (belowA hHeld.2.2.2 _)), (belowA hHeld.2.2.2 _)⟩ (fun hHeld => ?_)
    clear hK K
    refine norm_ (a' := ?_) ?_ ?_
    rotate_left
    ·show Act.put _ (some 181) _ = _
     simp only [amsP]
     rfl
    refine last_ (i := 8) (N := some 182) am33 rfl rfl (by kernel_rfl) (by decide) (fun K hK => ?_)
    refine Kd.R_append_step k59 (w0 := W) base (by rfl) (.tmp 178) (.tmp 181) 33 59 (.agg #[(.int .i64 0), (.int .i64 0)]) 16 rfl Try.underlying33 info59 rfl (by decide) (by omega) (.slice At s.tiles.length ct) (s.tiles) t [.int .i64 t.f0, .int .i64 t.f1] (fun k => k ≠ g ∧ (k < W.heap.size ∨ W.heap.size + 1 ≤ k)) (fun _ => False) rfl rfl ?aP (fun _ hk => hk.elim) ?aF ?aO ?aB ?aS ?aL ?_
    (case aP => exact k59_mkM _ _ _ t)
    (case aB => exact HSTd.out.BL)
    (case aF => intro k hk; have h1 := HSTd.out.SZ; exact ⟨by omega, .inr (by omega)⟩)
    (case aO => exact HSTd.out.RT)
    (case aS => have h1 := HSTd.out.SZ; omega)
    (case aL => have := hlen.2; omega)
    intro v7 w7 ho7 hb7 hg7 _
    obtain ⟨A7, c7, hv7, _, _⟩ := Kd.R_reads ho7
    generalize (s.tiles ++ [t]).length = n7 at hv7
    subst hv7
    refine hK.out _ _ ?_
    clear hK K
    refine norm_ (a' := ?_) ?_ ?_
    rotate_left
    ·show Act.put _ (some 182) _ = _
     simp only [amsP]
     rfl
    refine pure_ (i := 9) (N := some 183) (v := ?_) (a' := ?_) am34 rfl rfl (by kernel_rfl) (fun _ _ _ h => h) (Or.inl ⟨by rfl, ?_⟩) ?_ ?_
    rotate_left
    ·intro w'
     go_simp
     with_reducible rfl
    rotate_left
    ·simp only [amsP]
     rfl
    refine pure_ (i := 10) (N := some 184) (v := ?_) (a' := ?_) am35 rfl rfl (by kernel_rfl) (fun _ _ _ h => h) (Or.inl ⟨by rfl, ?_⟩) ?_ ?_
    rotate_left
    ·intro w'
     go_simp
     with_reducible rfl
    rotate_left
    ·simp only [amsP]
     rfl
    refine last_ (i := 11) (N := none) am36 rfl rfl (by kernel_rfl) (by decide) (fun K hK => ?_)
    have hG7 := (hg7.block g (Array.getElem?_eq_some_iff.1 HSTd.out.G).1 (Kd.R_away HSTd.out.RT (fun k hk => hk.1))).trans HSTd.out.G
    obtain ⟨c1', f1'⟩ := heap_cell hG7 1 (.slice At s.tiles.length ct) rfl
    refine skip_ (w1 := ?_) (by rfl) rfl ?_ ?_
    rotate_left
    ·go_simp
     rfl
    refine hK.out _ _ ?_
    clear hK K
    refine done_ (by kernel_rfl) ?_
    have hS12 := HSTd.out.tiles_grown hgl hbase hb7 hg7 ho7
    generalize w7.setCell ⟨g, 1, none⟩ (.slice A7 n7 c7) = w12 at hS12 ⊢
    have HS12 := Aside0.mk hS12
    clear hS12 hG7 c1' f1' ho7 hb7 hg7 t0 ft0 t1 ft1 c1 f1
    go_upto_if 185 with (fail)
    go_cut [6] from 106 to 201 (fun s6 wc => ∃ va : Value, s6 = .bool (decide (s.wt = (i : Int)) || sdA s i) ∧ Aside0 (St 87 W W1 g base (W.heap.size + 1) [.int .i64 s.sp, .int .i64 (if decide (s.wt = (i : Int)) = true then -1 else s.wt), .bool s.first, .bool (nl0 s i), .bool (nl1 s i)] wc (va) (.slice A7 n7 c7) (if (decide (s.wt = (i : Int)) || sdA s i) = true then s.arms.set i ⟨t.f0 + t.f1 - x.f0, t.f0 == t.f1, false⟩ ++ [(⟨s.sp, false, true⟩ : S93), (⟨s.sp, false, true⟩ : S93)] else s.arms.set i ⟨t.f0 + t.f1 - x.f0, t.f0 == t.f1, false⟩) (s.tiles ++ [t])))
    case first =>
     cases hsd : (decide (s.wt = (i : Int)) || sdA s i)
     ·have hneg : ¬ ((decide (s.wt = (i : Int)) || sdA s i) = true) := by rw [hsd]; decide
      go_wp2
      go_meet
      case rel => exact ⟨_, by first | rfl | rw [hsd], by rw [if_neg hneg]; exact HS12⟩
     ·skip
      obtain ⟨c2, f2⟩ := HS12.out.cell 2 (.int .i64 s.sp) rfl
      obtain ⟨c0, f0⟩ := HS12.out.cell 0 (.slice (some ⟨ga, 0, none⟩) s.arms.length ca) rfl
      go_upto_region 26 with (fail)
      have hS14 := HS12.out.below ((Below.refl w12.heap.size w12).alloc (Nat.le_refl _) (.cells #[.int .i64 s.sp, .bool false, .bool true] 93)) hbs (by omega)
      have hQ : (w12.alloc (.cells #[.int .i64 s.sp, .bool false, .bool true] 93)).heap[w12.heap.size]? = some (.cells #[.int .i64 s.sp, .bool false, .bool true] 93 (0, 0)) := heap_alloc_new _ _
      have hqz := HS12.out.SZ
      have hqs : (w12.alloc (.cells #[.int .i64 s.sp, .bool false, .bool true] 93)).heap.size = w12.heap.size + 1 := by simp
      generalize w12.alloc (.cells #[.int .i64 s.sp, .bool false, .bool true] 93) = w14 at hS14 hQ hqs ⊢
      generalize w12.heap.size = nq at hQ hqz hqs ⊢
      have HS14 := Aside0.mk hS14
      clear hS14 c2 f2 c0 f0
      obtain ⟨q0, fq0⟩ := heap_cell hQ 0 (.int .i64 s.sp) rfl
      obtain ⟨q1, fq1⟩ := heap_cell hQ 1 (.bool false) rfl
      obtain ⟨q2, fq2⟩ := heap_cell hQ 2 (.bool true) rfl
      obtain ⟨c0, f0⟩ := HS14.out.cell 0 (.slice (some ⟨ga, 0, none⟩) s.arms.length ca) rfl
      refine start_ (n := 12) (S := fun w' => w'.cell? ⟨g, 0, none⟩ = some (.slice (some ⟨ga, 0, none⟩) s.arms.length ca) ∧ w'.cell? ⟨nq, 0, none⟩ = some (.int .i64 s.sp) ∧ w'.cell? ⟨nq, 1, none⟩ = some (.bool false) ∧ w'.cell? ⟨nq, 2, none⟩ = some (.bool true) ∧ Below w14.heap.size w14 w') (ds := [8, 11]) am24 (by kernel_rfl) rfl rfl ⟨(cell_b c0 (belowD (Below.refl _ _))), (cell_b q0 (belowD (Below.refl _ _))), (cell_b q1 (belowD (Below.refl _ _))), (cell_b q2 (belowD (Below.refl _ _))), (belowD (Below.refl _ _))⟩ (fun hHeld => ?_)
      generalize w14.drew = wd at hHeld ⊢
      have HSTd := Aside0.mk (HS14.out.below hHeld.2.2.2.2 hbs (by omega))
      have HSTa := Aside0.mk (HSTd.out.below (belowA (Below.refl _ _) (.cells #[.int .i64 s.sp, .bool false, .bool true, .int .i64 s.sp, .bool false, .bool true] 93)) hbs (by omega))
      refine pure_ (i := 0) (N := some 191) (v := ?_) (a' := ?_) am25 rfl rfl (by kernel_rfl) (fun _ _ _ h => h) (Or.inl ⟨by rfl, ?_⟩) ?_ ?_
      rotate_left
      ·intro w'
       go_simp
       with_reducible rfl
      rotate_left
      ·simp only [amsP]
       rfl
      refine pure_ (i := 1) (N := some 192) (v := ?_) (a' := ?_) am26 rfl rfl (by kernel_rfl) (fun _ _ _ h => h) (Or.inl ⟨by rfl, ?_⟩) ?_ ?_
      rotate_left
      ·intro w'
       go_simp
       with_reducible rfl
      rotate_left
      ·simp only [amsP]
       rfl
      refine pure_ (i := 2) (N := some 193) (v := ?_) (a' := ?_) am27 rfl rfl (by kernel_rfl) (fun _ _ _ h => h) (Or.inl ⟨by rfl, ?_⟩) ?_ ?_
      rotate_left
      ·intro w'
       go_simp
       with_reducible rfl
      rotate_left
      ·simp only [amsP]
       rfl
      refine pure_ (i := 3) (N := some 194) (v := ?_) (a' := ?_) am28 rfl rfl (by kernel_rfl) (fun _ _ _ h => h) (Or.inl ⟨by rfl, ?_⟩) ?_ ?_
      rotate_left
      ·intro w'
       go_simp
       with_reducible rfl
      rotate_left
      ·simp only [amsP]
       rfl
      refine take_ (i := 4) (N := some 195) (v := ?_) (a' := ?_) am115 rfl rfl (by kernel_rfl) (fun _ _ _ h => h) (Or.inl ⟨by rfl, ?_⟩) hHeld ?_ ?_
      rotate_left
      ·rintro w' ⟨s0, s1, s2, s3, s4⟩
       go_simp
       with_reducible rfl
      rotate_left
      ·simp only [amsP]
       rfl
      refine take_ (i := 5) (N := some 196) (v := ?_) (a' := ?_) am30 rfl rfl (by kernel_rfl) (fun _ _ _ h => h) (Or.inl ⟨by rfl, ?_⟩) hHeld ?_ ?_
      rotate_left
      ·rintro w' ⟨s0, s1, s2, s3, s4⟩
       go_simp
       with_reducible rfl
      rotate_left
      ·simp only [amsP]
       rfl
      refine take_ (i := 6) (N := some 197) (v := ?_) (a' := ?_) am31 rfl rfl (by kernel_rfl) (fun _ _ _ h => h) (Or.inl ⟨by rfl, ?_⟩) hHeld ?_ ?_
      rotate_left
      ·rintro w' ⟨s0, s1, s2, s3, s4⟩
       go_simp
       with_reducible rfl
      rotate_left
      ·simp only [amsP]
       rfl
      refine one_ (i := 7) (N := some 198) am32 rfl rfl (by kernel_rfl) (by decide) (fun K hK => ?_)
      refine value_ (w1 := ?_) (v := ?_) (by rfl) rfl ?_ ?_
      rotate_left 2
      ·go_simp
       constructor
       ·rfl
       ·rfl
      refine hK.out _ _ ⟨(cell_b c0 (belowA hHeld.2.2.2.2 _)), (cell_b q0 (belowA hHeld.2.2.2.2 _)), (cell_b q1 (belowA hHeld.2.2.2.2 _)), (cell_b q2 (belowA hHeld.2.2.2.2 _)), (belowA hHeld.2.2.2.2 _)⟩ (fun hHeld => ?_)
      clear hK K
      refine norm_ (a' := ?_) ?_ ?_
      rotate_left
      ·show Act.put _ (some 198) _ = _
       simp only [amsP]
       rfl
      refine last_ (i := 8) (N := some 199) am33 rfl rfl (by kernel_rfl) (by decide) (fun K hK => ?_)
      refine Kd.R_append_rows_step k93 (w0 := W) (Rr := fun x cs => cs = [.int .i64 x.f0, .bool x.f1, .bool x.f2]) base (by rfl) (.tmp 195) (.tmp 198) 66 93 (.agg #[(.int .i64 0), .bool false, .bool false]) 16 rfl Try.underlying66 infoArm rfl (by decide) (by omega) (.slice (some ⟨ga, 0, none⟩) s.arms.length ca) (s.arms.set i ⟨t.f0 + t.f1 - x.f0, t.f0 == t.f1, false⟩) [(⟨s.sp, false, true⟩ : S93), (⟨s.sp, false, true⟩ : S93)] (some ⟨wd.heap.size, 0, none⟩) 2 2 (fun k => k ≠ g ∧ (k < W.heap.size ∨ W.heap.size + 1 ≤ k)) (fun _ => False) rfl rfl ?aO ?aR ?aK (fun _ hk => hk.elim) ?aF ?aB ?aS ?aL ?_
      (case aO => exact HSTa.out.RA)
      (case aR => exact reads_arms (heap_alloc_new _ _))
      (case aK => intro x cs hx; rw [hx]; exact k93_mkM _ _ _ x)
      (case aB => exact HSTa.out.BL)
      (case aF => intro k hk; have h1 := HSTa.out.SZ; exact ⟨by omega, .inr (by omega)⟩)
      (case aS => have h1 := HSTa.out.SZ; omega)
      (case aL => have := hlen.1; rw [List.length_set]; omega)
      intro v17 w17 ho17 hb17 hg17 _
      obtain ⟨A17, c17, hv17, _, _⟩ := Kd.R_reads ho17
      generalize (s.arms.set i ⟨t.f0 + t.f1 - x.f0, t.f0 == t.f1, false⟩ ++ [(⟨s.sp, false, true⟩ : S93), (⟨s.sp, false, true⟩ : S93)]).length = n17 at hv17
      subst hv17
      refine hK.out _ _ ?_
      clear hK K
      refine norm_ (a' := ?_) ?_ ?_
      rotate_left
      ·show Act.put _ (some 199) _ = _
       simp only [amsP]
       rfl
      refine pure_ (i := 9) (N := some 200) (v := ?_) (a' := ?_) am34 rfl rfl (by kernel_rfl) (fun _ _ _ h => h) (Or.inl ⟨by rfl, ?_⟩) ?_ ?_
      rotate_left
      ·intro w'
       go_simp
       with_reducible rfl
      rotate_left
      ·simp only [amsP]
       rfl
      refine pure_ (i := 10) (N := some 201) (v := ?_) (a' := ?_) am35 rfl rfl (by kernel_rfl) (fun _ _ _ h => h) (Or.inl ⟨by rfl, ?_⟩) ?_ ?_
      rotate_left
      ·intro w'
       go_simp
       with_reducible rfl
      rotate_left
      ·simp only [amsP]
       rfl
      refine last_ (i := 11) (N := none) am36 rfl rfl (by kernel_rfl) (by decide) (fun K hK => ?_)
      have hG17 := (hg17.block g (Array.getElem?_eq_some_iff.1 HSTa.out.G).1 (Kd.R_away HSTa.out.RA (fun k hk => hk.1))).trans HSTa.out.G
      obtain ⟨c0', f0'⟩ := heap_cell hG17 0 (.slice (some ⟨ga, 0, none⟩) s.arms.length ca) rfl
      refine skip_ (w1 := ?_) (by rfl) rfl ?_ ?_
      rotate_left
      ·go_simp
       rfl
      refine hK.out _ _ ?_
      clear hK K
      refine done_ (by kernel_rfl) ?_
      have hS18 := HSTa.out.arms_grown hgl hbase hb17 hg17 ho17
      generalize w17.setCell ⟨g, 0, none⟩ (.slice A17 n17 c17) = w18 at hS18 ⊢
      have HS18 := Aside0.mk hS18
      clear hS18 hG17 c0' f0' ho17 hb17 hg17
      go_wp2
      go_meet
      case rel => exact ⟨_, by first | rfl | rw [hsd], by first | (rw [if_pos hsd]; exact HS18) | (rw [if_pos rfl]; exact HS18)⟩
    case rest =>
     obtain ⟨va, rfl, HS13⟩ := hcut
     clear HS12
     obtain ⟨t0, ft0⟩ := HS13.out.box HPT.out (by omega) (by omega) 0 (.int .i64 t.f0) rfl
     obtain ⟨p2, fp2⟩ := HS13.out.box HPT.out (by omega) (by omega) 2 (.int .i64 (i : Int)) (by rw [show arm = (i : Int) from HI.out.2.1]; rfl)
     obtain ⟨c2, f2⟩ := HS13.out.cell 2 (.int .i64 s.sp) rfl
     obtain ⟨c3, f3⟩ := HS13.out.cell 3 (.int .i64 (if decide (s.wt = (i : Int)) = true then -1 else s.wt)) rfl
     by_cases hd : (t.f0 == t.f1) = true
     rotate_left
     ·have hdf : (t.f0 == t.f1) = false := by simpa using hd
      go_wp2
      obtain rfl : o = _ := HO.out.symm.trans HP.out
      go_ret
      have e : nextL s t i x.f0 = ⟨if (decide (s.wt = (i : Int)) || sdA s i) = true then s.arms.set i ⟨t.f0 + t.f1 - x.f0, t.f0 == t.f1, false⟩ ++ [(⟨s.sp, false, true⟩ : S93), (⟨s.sp, false, true⟩ : S93)] else s.arms.set i ⟨t.f0 + t.f1 - x.f0, t.f0 == t.f1, false⟩, s.tiles ++ [t], s.sp, if decide (s.wt = (i : Int)) = true then -1 else s.wt, s.first, nl0 s i, nl1 s i⟩ := by first | (simp only [nextL, hdf, Bool.false_and, if_neg (show ¬ (false = true) by decide)]; done) | (simp only [nextL, hdf, Bool.false_and, if_neg (show ¬ (false = true) by decide)]; rfl) | simp [nextL, hdf, Bool.false_and, if_neg (show ¬ (false = true) by decide)]
      have hF := HS13.out
      exact ⟨rfl, by rw [Option.getD_some, e]; exact St.doneL (s := ⟨_, _, _, _, _, _, _⟩) hF, hF.BL⟩
     by_cases hs : s.sp < 0
     rotate_left
     ·have hsb : decide (s.sp < 0) = false := decide_eq_false hs
      go_wp2
      obtain rfl : o = _ := HO.out.symm.trans HP.out
      go_ret
      have e : nextL s t i x.f0 = ⟨if (decide (s.wt = (i : Int)) || sdA s i) = true then s.arms.set i ⟨t.f0 + t.f1 - x.f0, t.f0 == t.f1, false⟩ ++ [(⟨s.sp, false, true⟩ : S93), (⟨s.sp, false, true⟩ : S93)] else s.arms.set i ⟨t.f0 + t.f1 - x.f0, t.f0 == t.f1, false⟩, s.tiles ++ [t], s.sp, if decide (s.wt = (i : Int)) = true then -1 else s.wt, s.first, nl0 s i, nl1 s i⟩ := by first | (simp only [nextL, hd, hsb, Bool.and_false, if_neg (show ¬ (false = true) by decide)]; done) | (simp only [nextL, hd, hsb, Bool.and_false, if_neg (show ¬ (false = true) by decide)]; rfl) | simp [nextL, hd, hsb, Bool.and_false, if_neg (show ¬ (false = true) by decide)]
      have hF := HS13.out
      exact ⟨rfl, by rw [Option.getD_some, e]; exact St.doneL (s := ⟨_, _, _, _, _, _, _⟩) hF, hF.BL⟩
     have hsb : decide (s.sp < 0) = true := decide_eq_true hs
     have c3' : ∀ u, (wc.setCell ⟨g, 2, none⟩ u).cell? ⟨g, 3, none⟩ = some (.int .i64 (if decide (s.wt = (i : Int)) = true then -1 else s.wt)) := fun u => ((HS13.out.set_rest hgl hbase 0 u).cell 3 (.int .i64 (if decide (s.wt = (i : Int)) = true then -1 else s.wt)) rfl).1
     have f3' : ∀ u, (wc.setCell ⟨g, 2, none⟩ u).frozen? ⟨g, 3, none⟩ = false := fun u => ((HS13.out.set_rest hgl hbase 0 u).cell 3 (.int .i64 (if decide (s.wt = (i : Int)) = true then -1 else s.wt)) rfl).2
     have p2' : ∀ u, (wc.setCell ⟨g, 2, none⟩ u).cell? ⟨W.heap.size, 2, none⟩ = some (.int .i64 (i : Int)) := fun u => ((HS13.out.set_rest hgl hbase 0 u).box HPT.out (by omega) (by omega) 2 (.int .i64 (i : Int)) (by rw [show arm = (i : Int) from HI.out.2.1]; rfl)).1
     go_wp2
     obtain rfl : o = _ := HO.out.symm.trans HP.out
     go_ret
     have e : nextL s t i x.f0 = ⟨if (decide (s.wt = (i : Int)) || sdA s i) = true then s.arms.set i ⟨t.f0 + t.f1 - x.f0, t.f0 == t.f1, false⟩ ++ [(⟨s.sp, false, true⟩ : S93), (⟨s.sp, false, true⟩ : S93)] else s.arms.set i ⟨t.f0 + t.f1 - x.f0, t.f0 == t.f1, false⟩, s.tiles ++ [t], t.f0, (i : Int), s.first, nl0 s i, nl1 s i⟩ := by first | (simp only [nextL, hd, hsb, Bool.true_and, if_pos rfl]; done) | (simp only [nextL, hd, hsb, Bool.true_and, if_pos rfl]; rfl) | simp [nextL, hd, hsb, Bool.true_and, if_pos rfl]
     have hF := (HS13.out.set_rest hgl hbase 0 (.int .i64 t.f0)).set_rest hgl hbase 1 (.int .i64 (i : Int))
     exact ⟨rfl, by rw [Option.getD_some, e]; exact St.doneL (s := ⟨_, _, _, _, _, _, _⟩) hF, hF.BL⟩

end Go.Proofs.Ytepccigcdbimaaa.P
