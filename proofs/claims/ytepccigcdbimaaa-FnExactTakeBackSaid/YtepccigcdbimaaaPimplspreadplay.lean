-- Printed by a program of this session (wip/myprint.py, which drives the kit's print): what one function of the program does, and the proof that its call does so.
import Derived.BigQuiet
import Derived.BigRegion
import Derived.ChangeKeysEq
import Derived.Deep.RegionHeld3
import Derived.Deep.RegionWith
import Derived.Lib.SliceRun
import Derived.RegionTactic
import Derived.WalkSpells
import Derived.Test.YtepccigcdbimaaaP0
import Derived.Test.YtepccigcdbimaaaPIa
import Derived.Test.YtepccigcdbimaaaPIb
namespace Go.Proofs.Ytepccigcdbimaaa.P
open Go.RowKit Go.Proofs.YtepccigcdbimaaaW.PrintWords Go.Proofs.YtepccigcdbimaaaW.PrintLast Go.Proofs.YtepccigcdbimaaaW.PrintMore
attribute [local go_sem] max2_int min2_int max_two min_two max_three min_three max_four min_four   -- for this text's walks alone
set_option linter.unusedVariables false
set_option linter.unusedSimpArgs false

/-! ### impl_spread_play: function 91: written by hand -/
theorem pmsP : (∀ (a : Act) (d : Tmp) (v : Value), a.put (some d) v = { a with tmps := a.tmps.setIfInBounds d v }) ∧ (∀ (a : Act) (v : Value), a.put none v = a) ∧ (∀ (l : List Value) (i : Nat) (x : Value), l.toArray.setIfInBounds i x = (l.set i x).toArray) ∧ (∀ (x y : Value) (l : List Value), (x :: l).set 0 y = y :: l) ∧ (∀ (x y : Value) (l : List Value) (n : Nat), (x :: l).set (n + 1) y = x :: l.set n y) ∧ (∀ n : Int, IntKind.i64.wrap n = Go.RowKit.wrap64 n) ∧ (∀ n : Int, IntKind.i32.wrap n = Go.RowKit.wrap32 n) :=
  ⟨fun _ _ _ => rfl, fun _ _ => rfl, fun _ _ _ => List.setIfInBounds_toArray .., fun _ _ _ => rfl, fun _ _ _ _ => rfl, i64_w, i32_w⟩
abbrev pm0 : Array Bool := #[false, false, false, false, false, false, false, false, false, false, false, false, false, false, false, false, false, false, false]
abbrev pm1 : Array Bool := #[true, false, false, false, false, false, false, false, false, false, false, false, false, false, false, false, false, false, false]
abbrev pm2 : Array Bool := #[true, true, false, false, false, false, false, false, false, false, false, false, false, false, false, false, false, false, false]
abbrev pm3 : Array Bool := #[true, true, true, false, false, false, false, false, false, false, false, false, false, false, false, false, false, false, false]
abbrev pm4 : Array Bool := #[true, true, true, true, false, false, false, false, false, false, false, false, false, false, false, false, false, false, false]
abbrev pm5 : Array Bool := #[true, true, true, true, true, false, false, false, false, false, false, false, false, false, false, false, false, false, false]
abbrev pm6 : Array Bool := #[true, true, true, true, true, true, false, false, false, false, false, false, false, false, false, false, false, false, false]
abbrev pm7 : Array Bool := #[true, true, true, true, true, true, true, false, false, false, false, false, false, false, false, false, false, false, false]
abbrev pm8 : Array Bool := #[true, true, true, true, true, true, true, true, false, false, false, false, false, false, false, false, false, false, false]
abbrev pm9 : Array Bool := #[true, true, true, true, true, true, true, true, true, false, false, false, false, false, false, false, false, false, false]
abbrev pm10 : Array Bool := #[true, true, true, true, true, true, true, true, true, true, false, false, false, false, false, false, false, false, false]
abbrev pm11 : Array Bool := #[true, true, true, true, true, true, true, true, true, true, true, false, false, false, false, false, false, false, false]
abbrev pm12 : Array Bool := #[true, true, true, true, true, true, true, true, true, true, true, true, false, false, false, false, false, false, false]
abbrev pm13 : Array Bool := #[true, true, true, true, true, true, true, true, true, true, true, true, true, false, false, false, false, false, false]
abbrev pm14 : Array Bool := #[true, true, true, true, true, true, true, true, true, true, true, true, true, true, false, false, false, false, false]
abbrev pm15 : Array Bool := #[true, true, true, true, true, true, true, true, true, true, true, true, true, true, true, false, false, false, false]
abbrev pm16 : Array Bool := #[true, true, true, true, true, true, true, true, true, true, true, true, true, true, true, true, false, false, false]
abbrev pm17 : Array Bool := #[true, true, true, true, true, true, true, true, true, true, true, true, true, true, true, true, true, false, false]
abbrev pm18 : Array Bool := #[true, true, true, true, true, true, true, true, true, true, true, true, true, true, true, true, true, true, false]
abbrev pm19 : Array Bool := #[true, true, true, true, true, true, true, true, true, true, true, true, true, true, true, true, true, true, true]
abbrev pm20 : Array Bool := #[false, false, false, false, false, false, false, false, false, false, false, false, false, false, false]
abbrev pm21 : Array Bool := #[true, false, false, false, false, false, false, false, false, false, false, false, false, false, false]
abbrev pm22 : Array Bool := #[true, true, false, false, false, false, false, false, false, false, false, false, false, false, false]
abbrev pm23 : Array Bool := #[true, true, false, false, false, false, true, false, false, false, false, false, false, false, false]
abbrev pm24 : Array Bool := #[true, true, true, false, false, false, true, false, false, false, false, false, false, false, false]
abbrev pm25 : Array Bool := #[true, true, true, true, false, false, true, false, false, false, false, false, false, false, false]
abbrev pm26 : Array Bool := #[true, true, true, true, false, false, true, true, false, false, false, false, false, false, false]
abbrev pm27 : Array Bool := #[true, true, true, true, false, false, true, true, true, false, false, false, false, false, false]
abbrev pm28 : Array Bool := #[true, true, true, true, true, false, true, true, true, false, false, false, false, false, false]
abbrev pm29 : Array Bool := #[true, true, true, true, true, true, true, true, true, false, false, false, false, false, false]
abbrev pm30 : Array Bool := #[true, true, true, true, true, true, true, true, true, true, false, false, false, false, false]
abbrev pm31 : Array Bool := #[true, true, true, true, true, true, true, true, true, true, true, false, false, false, false]
abbrev pm32 : Array Bool := #[true, true, true, true, true, true, true, true, true, true, true, true, false, false, false]
abbrev pm33 : Array Bool := #[true, true, true, true, true, true, true, true, true, true, true, true, true, false, false]
abbrev pm34 : Array Bool := #[true, true, true, true, true, true, true, true, true, true, true, true, true, true, false]
abbrev pm35 : Array Bool := #[true, true, true, true, true, true, true, true, true, true, true, true, true, true, true]
abbrev pm36 : Array Bool := #[false, false, false, false, false, false, false, false, false, false, false, false, false, false, false, false, false, false, false, false, false, false, false, false]
abbrev pm37 : Array Bool := #[true, false, false, false, false, false, false, false, false, false, false, false, false, false, false, false, false, false, false, false, false, false, false, false]
abbrev pm38 : Array Bool := #[true, false, true, false, false, false, false, false, false, false, false, false, false, false, false, false, false, false, false, false, false, false, false, false]
abbrev pm39 : Array Bool := #[true, false, true, true, false, false, false, false, false, false, false, false, false, false, false, false, false, false, false, false, false, false, false, false]
abbrev pm40 : Array Bool := #[true, false, true, true, true, false, false, false, false, false, false, false, false, false, false, false, false, false, false, false, false, false, false, false]
abbrev pm41 : Array Bool := #[true, true, true, true, true, false, false, false, false, false, false, false, false, false, false, false, false, false, false, false, false, false, false, false]
abbrev pm42 : Array Bool := #[true, true, true, true, true, true, false, false, false, false, false, false, false, false, false, false, false, false, false, false, false, false, false, false]
abbrev pm43 : Array Bool := #[true, true, true, true, true, true, true, false, false, false, false, false, false, false, false, false, false, false, false, false, false, false, false, false]
abbrev pm44 : Array Bool := #[true, true, true, true, true, true, true, true, false, false, false, false, false, false, false, false, false, false, false, false, false, false, false, false]
abbrev pm45 : Array Bool := #[true, true, true, true, true, true, true, true, true, false, false, false, false, false, false, false, false, false, false, false, false, false, false, false]
abbrev pm46 : Array Bool := #[true, true, true, true, true, true, true, true, true, true, false, false, false, false, false, false, false, false, false, false, false, false, false, false]
abbrev pm47 : Array Bool := #[true, true, true, true, true, true, true, true, true, true, true, false, false, false, false, false, false, false, false, false, false, false, false, false]
abbrev pm48 : Array Bool := #[true, true, true, true, true, true, true, true, true, true, true, true, false, false, false, false, false, false, false, false, false, false, false, false]
abbrev pm49 : Array Bool := #[true, true, true, true, true, true, true, true, true, true, true, true, true, false, false, false, false, false, false, false, false, false, false, false]
abbrev pm50 : Array Bool := #[true, true, true, true, true, true, true, true, true, true, true, true, true, true, false, false, false, false, false, false, false, false, false, false]
abbrev pm51 : Array Bool := #[true, true, true, true, true, true, true, true, true, true, true, true, true, true, true, false, false, false, false, false, false, false, false, false]
abbrev pm52 : Array Bool := #[true, true, true, true, true, true, true, true, true, true, true, true, true, true, true, true, false, false, false, false, false, false, false, false]
abbrev pm53 : Array Bool := #[true, true, true, true, true, true, true, true, true, true, true, true, true, true, true, true, true, false, false, false, false, false, false, false]
abbrev pm54 : Array Bool := #[true, true, true, true, true, true, true, true, true, true, true, true, true, true, true, true, true, true, false, false, false, false, false, false]
abbrev pm55 : Array Bool := #[true, true, true, true, true, true, true, true, true, true, true, true, true, true, true, true, true, true, true, false, false, false, false, false]
abbrev pm56 : Array Bool := #[true, true, true, true, true, true, true, true, true, true, true, true, true, true, true, true, true, true, true, true, false, false, false, false]
abbrev pm57 : Array Bool := #[true, true, true, true, true, true, true, true, true, true, true, true, true, true, true, true, true, true, true, true, true, false, false, false]
abbrev pm58 : Array Bool := #[true, true, true, true, true, true, true, true, true, true, true, true, true, true, true, true, true, true, true, true, true, true, false, false]
abbrev pm59 : Array Bool := #[true, true, true, true, true, true, true, true, true, true, true, true, true, true, true, true, true, true, true, true, true, true, true, false]
abbrev pm60 : Array Bool := #[true, true, true, true, true, true, true, true, true, true, true, true, true, true, true, true, true, true, true, true, true, true, true, true]
abbrev pm61 : Array Bool := #[true, true, true, true, true, true, true, true, true, true, true, false, true, false, false, false, false, false, false, false, false, false, false, false]
abbrev pm62 : Array Bool := #[true, true, true, true, true, true, true, true, true, true, true, false, true, true, false, false, false, false, false, false, false, false, false, false]
abbrev pm63 : Array Bool := #[true, true, true, true, true, true, true, true, true, true, true, false, true, true, true, false, false, false, false, false, false, false, false, false]
abbrev pm64 : Array Bool := #[true, true, true, true, true, true, true, true, true, true, true, false, true, true, true, false, true, false, false, false, false, false, false, false]
abbrev pm65 : Array Bool := #[true, true, true, true, true, true, true, true, true, true, true, true, true, true, true, false, true, false, false, false, false, false, false, false]
abbrev pm66 : Array Bool := #[false, false, false, false, false, false, false, false, false, false, false]
abbrev pm67 : Array Bool := #[true, false, false, false, false, false, false, false, false, false, false]
abbrev pm68 : Array Bool := #[true, true, false, false, false, false, false, false, false, false, false]
abbrev pm69 : Array Bool := #[true, true, true, false, false, false, false, false, false, false, false]
abbrev pm70 : Array Bool := #[true, true, true, true, false, false, false, false, false, false, false]
abbrev pm71 : Array Bool := #[true, true, true, true, true, false, false, false, false, false, false]
abbrev pm72 : Array Bool := #[true, true, true, true, true, true, false, false, false, false, false]
abbrev pm73 : Array Bool := #[true, true, true, true, true, true, true, false, false, false, false]
abbrev pm74 : Array Bool := #[true, true, true, true, true, true, true, true, false, false, false]
abbrev pm75 : Array Bool := #[true, true, true, true, true, true, true, true, true, false, false]
abbrev pm76 : Array Bool := #[true, true, true, true, true, true, true, true, true, true, false]
abbrev pm77 : Array Bool := #[true, true, true, true, true, true, true, true, true, true, true]
abbrev pm78 : Array Bool := #[false, false, false, false, false, false, false, false, false, false, false, false, false, false, false, false, false, false, false, false, false, false]
abbrev pm79 : Array Bool := #[true, false, false, false, false, false, false, false, false, false, false, false, false, false, false, false, false, false, false, false, false, false]
abbrev pm80 : Array Bool := #[true, true, false, false, false, false, false, false, false, false, false, false, false, false, false, false, false, false, false, false, false, false]
abbrev pm81 : Array Bool := #[true, true, true, false, false, false, false, false, false, false, false, false, false, false, false, false, false, false, false, false, false, false]
abbrev pm82 : Array Bool := #[true, true, true, false, true, false, false, false, false, false, false, false, false, false, false, false, false, false, false, false, false, false]
abbrev pm83 : Array Bool := #[true, true, true, false, true, false, false, true, false, false, false, false, false, false, false, false, false, false, false, false, false, false]
abbrev pm84 : Array Bool := #[true, true, true, false, true, false, false, true, true, false, false, false, false, false, false, false, false, false, false, false, false, false]
abbrev pm85 : Array Bool := #[true, true, true, false, true, false, false, true, true, true, false, false, false, false, false, false, false, false, false, false, false, false]
abbrev pm86 : Array Bool := #[true, true, true, false, true, false, false, true, true, true, false, true, false, false, false, false, false, false, false, false, false, false]
abbrev pm87 : Array Bool := #[true, true, true, true, true, false, false, true, true, true, false, true, false, false, false, false, false, false, false, false, false, false]
abbrev pm88 : Array Bool := #[true, true, true, true, true, true, false, true, true, true, false, true, false, false, false, false, false, false, false, false, false, false]
abbrev pm89 : Array Bool := #[true, true, true, true, true, true, true, true, true, true, false, true, false, false, false, false, false, false, false, false, false, false]
abbrev pm90 : Array Bool := #[true, true, true, true, true, true, true, true, true, true, true, true, false, false, false, false, false, false, false, false, false, false]
abbrev pm91 : Array Bool := #[true, true, true, true, true, true, true, true, true, true, true, true, true, false, false, false, false, false, false, false, false, false]
abbrev pm92 : Array Bool := #[true, true, true, true, true, true, true, true, true, true, true, true, true, true, false, false, false, false, false, false, false, false]
abbrev pm93 : Array Bool := #[true, true, true, true, true, true, true, true, true, true, true, true, true, true, true, false, false, false, false, false, false, false]
abbrev pm94 : Array Bool := #[true, true, true, true, true, true, true, true, true, true, true, true, true, true, true, true, false, false, false, false, false, false]
abbrev pm95 : Array Bool := #[true, true, true, true, true, true, true, true, true, true, true, true, true, true, true, true, false, true, false, false, false, false]
abbrev pm96 : Array Bool := #[true, true, true, true, true, true, true, true, true, true, true, true, true, true, true, true, true, true, false, false, false, false]
abbrev pm97 : Array Bool := #[true, true, true, true, true, true, true, true, true, true, true, true, true, true, true, true, true, true, true, false, false, false]
abbrev pm98 : Array Bool := #[true, true, true, true, true, true, true, true, true, true, true, true, true, true, true, true, true, true, true, true, false, false]
abbrev pm99 : Array Bool := #[true, true, true, true, true, true, true, true, true, true, true, true, true, true, true, true, true, true, true, true, true, false]
abbrev pm100 : Array Bool := #[true, true, true, true, true, true, true, true, true, true, true, true, true, true, true, true, true, true, true, true, true, true]
abbrev pm101 : Array Bool := #[false, false, false, false, false, false, false, false, false, false, false, false]
abbrev pm102 : Array Bool := #[true, false, false, false, false, false, false, false, false, false, false, false]
abbrev pm103 : Array Bool := #[true, true, false, false, false, false, false, false, false, false, false, false]
abbrev pm104 : Array Bool := #[true, true, true, false, false, false, false, false, false, false, false, false]
abbrev pm105 : Array Bool := #[true, true, true, true, false, false, false, false, false, false, false, false]
abbrev pm106 : Array Bool := #[true, true, true, true, true, false, false, false, false, false, false, false]
abbrev pm107 : Array Bool := #[true, true, true, true, true, true, false, false, false, false, false, false]
abbrev pm108 : Array Bool := #[true, true, true, true, true, true, false, true, false, false, false, false]
abbrev pm109 : Array Bool := #[true, true, true, true, true, true, false, true, true, false, false, false]
abbrev pm110 : Array Bool := #[true, true, true, true, true, true, true, true, true, false, false, false]
abbrev pm111 : Array Bool := #[true, true, true, true, true, true, true, true, true, true, false, false]
abbrev pm112 : Array Bool := #[true, true, true, true, true, true, true, true, true, true, true, false]
abbrev pm113 : Array Bool := #[true, true, true, true, true, true, true, true, true, true, true, true]
abbrev pm114 : Array Bool := #[false, false, false, false, false, false, false]
abbrev pm115 : Array Bool := #[true, false, false, false, false, false, false]
abbrev pm116 : Array Bool := #[true, true, false, false, false, false, false]
abbrev pm117 : Array Bool := #[true, true, false, true, false, false, false]
abbrev pm118 : Array Bool := #[true, true, false, true, true, false, false]
abbrev pm119 : Array Bool := #[true, true, true, true, true, false, false]
abbrev pm120 : Array Bool := #[true, true, true, true, true, true, false]
abbrev pm121 : Array Bool := #[true, true, true, true, true, true, true]
abbrev pm122 : Array Bool := #[false, false, false, false, false, false, false, false, false, false, false, false, false, false, false, false, false, false, false, false]
abbrev pm123 : Array Bool := #[true, false, false, false, false, false, false, false, false, false, false, false, false, false, false, false, false, false, false, false]
abbrev pm124 : Array Bool := #[true, true, false, false, false, false, false, false, false, false, false, false, false, false, false, false, false, false, false, false]
abbrev pm125 : Array Bool := #[true, true, true, false, false, false, false, false, false, false, false, false, false, false, false, false, false, false, false, false]
abbrev pm126 : Array Bool := #[true, true, true, true, false, false, false, false, false, false, false, false, false, false, false, false, false, false, false, false]
abbrev pm127 : Array Bool := #[true, true, true, true, false, true, false, false, false, false, false, false, false, false, false, false, false, false, false, false]
abbrev pm128 : Array Bool := #[true, true, true, true, false, true, true, false, false, false, false, false, false, false, false, false, false, false, false, false]
abbrev pm129 : Array Bool := #[true, true, true, true, false, true, true, true, false, false, false, false, false, false, false, false, false, false, false, false]
abbrev pm130 : Array Bool := #[true, true, true, true, false, true, true, true, false, false, true, false, false, false, false, false, false, false, false, false]
abbrev pm131 : Array Bool := #[true, true, true, true, false, true, true, true, false, false, true, true, false, false, false, false, false, false, false, false]
abbrev pm132 : Array Bool := #[true, true, true, true, false, true, true, true, false, false, true, true, true, false, false, false, false, false, false, false]
abbrev pm133 : Array Bool := #[true, true, true, true, true, true, true, true, false, false, true, true, true, false, false, false, false, false, false, false]
abbrev pm134 : Array Bool := #[true, true, true, true, true, true, true, true, true, false, true, true, true, false, false, false, false, false, false, false]
abbrev pm135 : Array Bool := #[true, true, true, true, true, true, true, true, true, true, true, true, true, false, false, false, false, false, false, false]
abbrev pm136 : Array Bool := #[true, true, true, true, true, true, true, true, true, true, true, true, true, true, false, false, false, false, false, false]
abbrev pm137 : Array Bool := #[true, true, true, true, true, true, true, true, true, true, true, true, true, true, true, false, false, false, false, false]
abbrev pm138 : Array Bool := #[true, true, true, true, true, true, true, true, true, true, true, true, true, true, true, true, false, false, false, false]
abbrev pm139 : Array Bool := #[true, true, true, true, true, true, true, true, true, true, true, true, true, true, true, true, true, false, false, false]
abbrev pm140 : Array Bool := #[true, true, true, true, true, true, true, true, true, true, true, true, true, true, true, true, true, true, false, false]
abbrev pm141 : Array Bool := #[true, true, true, true, true, true, true, true, true, true, true, true, true, true, true, true, true, true, true, false]
abbrev pm142 : Array Bool := #[true, true, true, true, true, true, true, true, true, true, true, true, true, true, true, true, true, true, true, true]
abbrev pm143 : Array Bool := #[true, true, true, true, true, true, true, false, false, false, false, false]
abbrev pm144 : Array Bool := #[true, true, true, true, true, true, true, true, false, false, false, false]
/-- What plays have made. -/
structure SprS where
  arms : List S93
  tiles : List S59
  sp : Int
  w0 : Bool
  w1 : Bool
def dblB (t : S59) : Bool := t.f0 == t.f1
def hasB2 (n : Int) (x : S59) : Bool := decide (x.f0 = n) || decide (x.f1 = n)
/-- What the first tile makes. -/
def firstS (s : SprS) (t : S59) : SprS :=
  ⟨[⟨t.f0, dblB t, false⟩, ⟨t.f1, dblB t, false⟩], [t], if dblB t = true then t.f0 else s.sp, if dblB t = true then true else s.w0, if dblB t = true then true else s.w1⟩
/-- What a tile at the arm a makes, whose end is e. -/
def nextS (s : SprS) (t : S59) (a : Nat) (e : Int) : SprS :=
  let wa := (decide (a = 0) && s.w0) || (decide (a = 1) && s.w1)
  let w0' := s.w0 && !decide (a = 0)
  let w1' := s.w1 && !decide (a = 1)
  let arms1 := s.arms.set a ⟨t.f0 + t.f1 - e, dblB t, false⟩
  let arms2 := if (wa && !w0' && !w1') = true then arms1 ++ [⟨s.sp, false, true⟩, ⟨s.sp, false, true⟩] else arms1
  let sd := dblB t && decide (s.sp < 0)
  ⟨arms2, s.tiles ++ [t], if sd = true then t.f0 else s.sp, w0' || (sd && decide (a = 0)), w1' || (sd && decide (a = 1))⟩
def playS (s : SprS) (t : S59) (arm : Int) : Option SprS :=
  if goodT t = true ∧ t ∉ s.tiles ∧ s.tiles.length ≠ 28 then
    (if s.tiles = [] then (if arm = 0 then some (firstS s t) else none)
    else if 0 ≤ arm ∧ arm < s.arms.length then (if hasB2 (rd_T93 s.arms arm).f0 t = true then some (nextS s t arm.toNat (rd_T93 s.arms arm).f0) else none) else none)
  else none
/-- A state in memory. -/
def SprAt (W : World) (g base : Nat) (s : SprS) : Prop :=
  ∃ va vt, W.heap[g]? = some (.cells #[va, vt, .int .i64 s.sp, .bool s.w0, .bool s.w1] 82 (0, 0)) ∧ Kd.R k93 93 W base (fun _ => True) va s.arms ∧ Kd.R k59 59 W base (fun _ => True) vt s.tiles
theorem SprAt.below {W W' : World} {g base : Nat} {s : SprS} (h : SprAt W g base s) (hb : Below W.heap.size W W') : SprAt W' g base s := by
  obtain ⟨va, vt, h1, h2, h3⟩ := h
  exact ⟨va, vt, (hb.block g (Array.getElem?_eq_some_iff.1 h1).1).trans h1, Kd.R_below h2 hb, Kd.R_below h3 hb⟩
theorem heap_cell {W : World} {g : Nat} {cs : Array Value} {T : TypeId} (h : W.heap[g]? = some (.cells cs T (0, 0))) (j : Nat) (v : Value) (hv : cs[j]? = some v) : W.cell? ⟨g, j, none⟩ = some v ∧ W.frozen? ⟨g, j, none⟩ = false := by
  refine ⟨?_, by simp [World.frozen?, h]⟩
  simp only [World.cell?, h]; simpa using hv
theorem isTile_good (t : S59) : impl_IsTile.f t.f0 t.f1 = some (goodT t) := goodT_f t
theorem cell_b {W W' : World} {a : Addr} {v : Value} (h : W.cell? a = some v) (hb : Below W.heap.size W W') : W'.cell? a = some v := (hb.cell (World.block_lt_of_cell? _ _ h)).trans h
theorem froz_b {W W' : World} {g : Nat} {cs : Array Value} {T : TypeId} (h : W.heap[g]? = some (.cells cs T (0, 0))) (hb : Below W.heap.size W W') (j : Nat) : W'.frozen? ⟨g, j, none⟩ = false := by
  have := (hb.block g (Array.getElem?_eq_some_iff.1 h).1).trans h
  simp [World.frozen?, this]
theorem belowS {W W1 W2 : World} (h : Below W.heap.size W W1) (h2 : Below W1.heap.size W1 W2) : Below W.heap.size W W2 := below_then h h.size h2
theorem belowR {W W1 W2 : World} (h2 : Below W1.heap.size W1 W2) (h : Below W.heap.size W W1) : Below W.heap.size W W2 := belowS h h2
theorem belowD {W W1 : World} (h : Below W.heap.size W W1) : Below W.heap.size W W1.drew := below_drew1 h
theorem belowA {W W1 : World} (h : Below W.heap.size W W1) (o : Obj) : Below W.heap.size W (W1.alloc o) := h.alloc h.size o
/-- The machine while a play is added: the block g of the state, the rows of the arms and of the tiles; the blocks from W on up to N are as they were in W1. -/
structure St (T : TypeId) (W W1 : World) (g base N : Nat) (rest : List Value) (wn : World) (va vt : Value) (arms : List S93) (tiles : List S59) : Prop where
  G : wn.heap[g]? = some (.cells (va :: vt :: rest).toArray T (0, 0))
  RA : Kd.R k93 93 wn base (fun k => k ≠ g ∧ (k < W.heap.size ∨ N ≤ k)) va arms
  RT : Kd.R k59 59 wn base (fun k => k ≠ g ∧ (k < W.heap.size ∨ N ≤ k)) vt tiles
  BL : Below base W wn
  SZ : N ≤ wn.heap.size
  BX : ∀ b, W.heap.size ≤ b → b < N → wn.heap[b]? = W1.heap[b]?
theorem St.below {T : TypeId} {W W1 : World} {g base N : Nat} {rest : List Value} {wn wm : World} {va vt : Value} {arms : List S93} {tiles : List S59} (h : St T W W1 g base N rest wn va vt arms tiles) (hb : Below wn.heap.size wn wm) (hbase : base ≤ W.heap.size) (hN : W.heap.size ≤ N) : St T W W1 g base N rest wm va vt arms tiles :=
  ⟨(hb.block g (Array.getElem?_eq_some_iff.1 h.G).1).trans h.G, Kd.R_below h.RA hb, Kd.R_below h.RT hb, below_then h.BL (Nat.le_trans hbase (Nat.le_trans hN h.SZ)) hb, Nat.le_trans h.SZ hb.size, fun b h1 h2 => (hb.block b (Nat.lt_of_lt_of_le h2 h.SZ)).trans (h.BX b h1 h2)⟩
theorem St.cell {T : TypeId} {W W1 : World} {g base N : Nat} {rest : List Value} {wn : World} {va vt : Value} {arms : List S93} {tiles : List S59} (h : St T W W1 g base N rest wn va vt arms tiles) (j : Nat) (v : Value) (hv : (va :: vt :: rest)[j]? = some v) : wn.cell? ⟨g, j, none⟩ = some v ∧ wn.frozen? ⟨g, j, none⟩ = false :=
  heap_cell h.G j v (by simpa using hv)
theorem St.box {T : TypeId} {W W1 : World} {g base N : Nat} {rest : List Value} {wn : World} {va vt : Value} {arms : List S93} {tiles : List S59} (h : St T W W1 g base N rest wn va vt arms tiles) {b : Nat} {cs : Array Value} {e : TypeId} (hb : W1.heap[b]? = some (.cells cs e (0, 0))) (h1 : W.heap.size ≤ b) (h2 : b < N) (j : Nat) (v : Value) (hv : cs[j]? = some v) : wn.cell? ⟨b, j, none⟩ = some v ∧ wn.frozen? ⟨b, j, none⟩ = false :=
  heap_cell ((h.BX b h1 h2).trans hb) j v hv
theorem St.done {W W1 : World} {g base N : Nat} {wn : World} {va vt : Value} {s : SprS} (h : St 82 W W1 g base N [.int .i64 s.sp, .bool s.w0, .bool s.w1] wn va vt s.arms s.tiles) : SprAt wn g base s :=
  ⟨va, vt, h.G, Kd.R_mono h.RA fun _ _ => trivial, Kd.R_mono h.RT fun _ _ => trivial⟩
theorem R_block {α : Type} (d : Kd α) {e : TypeId} {w : World} {base b : Nat} {ok : Nat → Prop} (xs : List α) (cs : List Value) (hb : w.heap[b]? = some (.cells cs.toArray e (0, 0))) (hl : cs.length = xs.length * d.sz) (hbase : base ≤ b) (hok : ok b) (hm : xs.length ≤ maxLen) (hr : Reps (d.M w base (fun k => ok k ∧ some k ≠ some b)) d.sz xs cs) : d.R e w base ok (.slice (some ⟨b, 0, none⟩) xs.length xs.length) xs := by
  refine ⟨fun k hk => ?_, cs, ⟨hl, .inr ⟨b, xs.length, cs.toArray, rfl, hbase, hb, Nat.le_refl _, hm, by simp [hl], ?_⟩⟩, hr⟩
  · have : b = k := by simpa [Value.ownBlock] using hk
    subst this; exact hok
  · rw [List.take_of_length_le (by simp [hl])]
theorem St.tiles_grown {T : TypeId} {W W1 : World} {g base N : Nat} {rest : List Value} {w w1 : World} {va vt v1 : Value} {arms : List S93} {tiles ts : List S59} (h : St T W W1 g base N rest w va vt arms tiles) (hgl : g < W.heap.size) (hbase : base ≤ g) (hbl : Below base W w1) (hg : w.grownBy w1 vt.ownBlock) (hR : Kd.R k59 59 w1 base (fun k => k ≠ g ∧ (k < W.heap.size ∨ N ≤ k)) v1 ts) :
    St T W W1 g base N rest (w1.setCell ⟨g, 1, none⟩ v1) va v1 arms ts := by
  have hne : some g ≠ vt.ownBlock := Kd.R_away h.RT fun k hk => hk.1
  have hG : w1.heap[g]? = _ := (hg.block g (Array.getElem?_eq_some_iff.1 h.G).1 hne).trans h.G
  refine ⟨?_, Kd.R_far (p := ⟨g, 1, none⟩) (Kd.R_over h.RA h.RT (by decide) hg) (fun k hk => hk.1) v1, Kd.R_far (p := ⟨g, 1, none⟩) hR (fun k hk => hk.1) v1, below_row_set hbl hbase, ?_, fun b h1 h2 => ?_⟩
  · rw [heap_setCell_at hG]; simp
  · have := Nat.le_trans h.SZ hg.size
    simpa [World.setCell] using this
  · rw [Below.heap_setCell w1 ⟨g, 1, none⟩ v1 b (by show b ≠ g; omega)]
    exact (hg.block b (Nat.lt_of_lt_of_le h2 h.SZ) (Kd.R_away h.RT fun k hk => by omega)).trans (h.BX b h1 h2)
theorem St.arms_grown {T : TypeId} {W W1 : World} {g base N : Nat} {rest : List Value} {w w1 : World} {va vt v1 : Value} {arms aa : List S93} {tiles : List S59} (h : St T W W1 g base N rest w va vt arms tiles) (hgl : g < W.heap.size) (hbase : base ≤ g) (hbl : Below base W w1) (hg : w.grownBy w1 va.ownBlock) (hR : Kd.R k93 93 w1 base (fun k => k ≠ g ∧ (k < W.heap.size ∨ N ≤ k)) v1 aa) :
    St T W W1 g base N rest (w1.setCell ⟨g, 0, none⟩ v1) v1 vt aa tiles := by
  have hne : some g ≠ va.ownBlock := Kd.R_away h.RA fun k hk => hk.1
  have hG : w1.heap[g]? = _ := (hg.block g (Array.getElem?_eq_some_iff.1 h.G).1 hne).trans h.G
  refine ⟨?_, Kd.R_far (p := ⟨g, 0, none⟩) hR (fun k hk => hk.1) v1, Kd.R_far (p := ⟨g, 0, none⟩) (Kd.R_over h.RT h.RA (by decide) hg) (fun k hk => hk.1) v1, below_row_set hbl hbase, ?_, fun b h1 h2 => ?_⟩
  · rw [heap_setCell_at hG]; simp
  · have := Nat.le_trans h.SZ hg.size
    simpa [World.setCell] using this
  · rw [Below.heap_setCell w1 ⟨g, 0, none⟩ v1 b (by show b ≠ g; omega)]
    exact (hg.block b (Nat.lt_of_lt_of_le h2 h.SZ) (Kd.R_away h.RA fun k hk => by omega)).trans (h.BX b h1 h2)
theorem St.set_rest {T : TypeId} {W W1 : World} {g base N : Nat} {rest : List Value} {w : World} {va vt : Value} {arms : List S93} {tiles : List S59} (h : St T W W1 g base N rest w va vt arms tiles) (hgl : g < W.heap.size) (hbase : base ≤ g) (j : Nat) (u : Value) : St T W W1 g base N (rest.set j u) (w.setCell ⟨g, j + 2, none⟩ u) va vt arms tiles := by
  refine ⟨?_, Kd.R_far (p := ⟨g, j + 2, none⟩) h.RA (fun k hk => hk.1) u, Kd.R_far (p := ⟨g, j + 2, none⟩) h.RT (fun k hk => hk.1) u, below_row_set h.BL hbase, by simpa [World.setCell] using h.SZ, fun b h1 h2 => ?_⟩
  · rw [heap_setCell_at h.G]; simp
  · rw [Below.heap_setCell w ⟨g, j + 2, none⟩ u b (by show b ≠ g; omega)]
    exact h.BX b h1 h2
theorem grown_of_below {w w1 : World} (hb : Below w.heap.size w w1) (row : Option Nat) : w.grownBy w1 row := ⟨hb.os, hb.tape, hb.output, hb.size, fun k hk _ => hb.block k hk⟩
theorem St.tiles_new {T : TypeId} {W W1 : World} {g base N : Nat} {rest : List Value} {w : World} {va vt : Value} {arms : List S93} {tiles : List S59} (h : St T W W1 g base N rest w va vt arms tiles) (hgl : g < W.heap.size) (hbase : base ≤ g) (hN : W.heap.size ≤ N) (t : S59) :
    St T W W1 g base N rest ((w.alloc (.cells #[.int .i64 t.f0, .int .i64 t.f1] 59)).setCell ⟨g, 1, none⟩ (.slice (some ⟨w.heap.size, 0, none⟩) 1 1)) va (.slice (some ⟨w.heap.size, 0, none⟩) 1 1) arms [t] := by
  have hsz := h.SZ
  exact h.tiles_grown hgl hbase (h.BL.alloc (by omega) _) (grown_of_below ((Below.refl _ _).alloc (Nat.le_refl _) _) _)
    (R_block k59 [t] [.int .i64 t.f0, .int .i64 t.f1] (heap_alloc_new _ _) rfl (by omega) ⟨by omega, .inr hsz⟩ (by simp [maxLen]) ⟨rfl, fun j p hj => by
      match j with
      | 0 => cases hj; exact k59_mkM _ _ _ _
      | j + 1 => simp at hj⟩)
theorem St.arms_new {T : TypeId} {W W1 : World} {g base N : Nat} {rest : List Value} {w : World} {va vt : Value} {arms : List S93} {tiles : List S59} (h : St T W W1 g base N rest w va vt arms tiles) (hgl : g < W.heap.size) (hbase : base ≤ g) (hN : W.heap.size ≤ N) (x y : S93) :
    St T W W1 g base N rest ((w.alloc (.cells #[.int .i64 x.f0, .bool x.f1, .bool x.f2, .int .i64 y.f0, .bool y.f1, .bool y.f2] 93)).setCell ⟨g, 0, none⟩ (.slice (some ⟨w.heap.size, 0, none⟩) 2 2)) (.slice (some ⟨w.heap.size, 0, none⟩) 2 2) vt [x, y] tiles := by
  have hsz := h.SZ
  exact h.arms_grown hgl hbase (h.BL.alloc (by omega) _) (grown_of_below ((Below.refl _ _).alloc (Nat.le_refl _) _) _)
    (R_block k93 [x, y] [.int .i64 x.f0, .bool x.f1, .bool x.f2, .int .i64 y.f0, .bool y.f1, .bool y.f2] (heap_alloc_new _ _) rfl (by omega) ⟨by omega, .inr hsz⟩ (by simp [maxLen]) ⟨rfl, fun j p hj => by
      match j with
      | 0 => cases hj; exact k93_mkM _ _ _ _
      | 1 => cases hj; exact k93_mkM _ _ _ _
      | j + 2 => simp at hj⟩)
/-- A block whose first cells are the arms of a list. -/
def rowA (w : World) (g cap : Nat) (m : List S93) : Prop :=
  ∃ cur : Array Value, w.heap[g]? = some (.cells cur 93 (0, 0)) ∧ cur.size = cap * 3 ∧ m.length ≤ cap ∧ ∀ i x, m[i]? = some x → cur[i * 3]? = some (.int .i64 x.f0) ∧ cur[i * 3 + 1]? = some (.bool x.f1) ∧ cur[i * 3 + 2]? = some (.bool x.f2)
theorem rowA_below {w w' : World} {g cap : Nat} {m : List S93} (h : rowA w g cap m) (hb : Below w.heap.size w w') : rowA w' g cap m := by
  obtain ⟨cur, h1, h2⟩ := h
  exact ⟨cur, (hb.block g (Array.getElem?_eq_some_iff.1 h1).1).trans h1, h2⟩
theorem rowA_at {w : World} {g cap : Nat} {m : List S93} (h : rowA w g cap m) (i : Nat) (x : S93) (hx : m[i]? = some x) : (w.cell? ⟨g, i * 3, none⟩ = some (.int .i64 x.f0) ∧ w.cell? ⟨g, i * 3 + 1, none⟩ = some (.bool x.f1) ∧ w.cell? ⟨g, i * 3 + 2, none⟩ = some (.bool x.f2)) ∧ ∀ j, w.frozen? ⟨g, j, none⟩ = false := by
  obtain ⟨cur, h1, h2, h3, h4⟩ := h
  obtain ⟨a, b, c⟩ := h4 i x hx
  refine ⟨⟨?_, ?_, ?_⟩, fun j => by simp [World.frozen?, h1]⟩
  · simp only [World.cell?, h1]; simpa using a
  · simp only [World.cell?, h1]; simpa using b
  · simp only [World.cell?, h1]; simpa using c
def setA (w : World) (g i : Nat) (x : S93) : World := ((w.setCell ⟨g, i * 3, none⟩ (.int .i64 x.f0)).setCell ⟨g, i * 3 + 1, none⟩ (.bool x.f1)).setCell ⟨g, i * 3 + 2, none⟩ (.bool x.f2)
theorem rowA_set {w : World} {g cap : Nat} {m : List S93} (h : rowA w g cap m) (i : Nat) (x : S93) (hi : i < m.length) : rowA (setA w g i x) g cap (m.set i x) := by
  obtain ⟨cur, h1, h2, h3, h4⟩ := h
  refine ⟨_, heap_setCell_at (heap_setCell_at (heap_setCell_at h1)), by simp [h2], by simpa using h3, fun j y hy => ?_⟩
  have hs : i * 3 + 2 < cur.size := by omega
  by_cases e : j = i
  · subst e
    rw [List.getElem?_set_self hi] at hy
    cases hy
    refine ⟨?_, ?_, ?_⟩
    · rw [Array.getElem?_setIfInBounds_ne (by omega), Array.getElem?_setIfInBounds_ne (by omega), Array.getElem?_setIfInBounds_self_of_lt (by omega)]
    · rw [Array.getElem?_setIfInBounds_ne (by omega), Array.getElem?_setIfInBounds_self_of_lt (by simp; omega)]
    · rw [Array.getElem?_setIfInBounds_self_of_lt (by simp; omega)]
  · rw [List.getElem?_set_ne (by omega)] at hy
    obtain ⟨a, b, c⟩ := h4 j y hy
    refine ⟨?_, ?_, ?_⟩
    · rw [Array.getElem?_setIfInBounds_ne (by omega), Array.getElem?_setIfInBounds_ne (by omega), Array.getElem?_setIfInBounds_ne (by omega)]; exact a
    · rw [Array.getElem?_setIfInBounds_ne (by omega), Array.getElem?_setIfInBounds_ne (by omega), Array.getElem?_setIfInBounds_ne (by omega)]; exact b
    · rw [Array.getElem?_setIfInBounds_ne (by omega), Array.getElem?_setIfInBounds_ne (by omega), Array.getElem?_setIfInBounds_ne (by omega)]; exact c
theorem take3 {inner : List Value} {i : Nat} {a b c : Value} (h : (inner.drop (i * 3)).take 3 = [a, b, c]) : inner[i * 3]? = some a ∧ inner[i * 3 + 1]? = some b ∧ inner[i * 3 + 2]? = some c := by
  have e : ∀ j, j < 3 → inner[i * 3 + j]? = ((inner.drop (i * 3)).take 3)[j]? := fun j hj => by rw [List.getElem?_take_of_lt hj, List.getElem?_drop]
  rw [h] at e
  exact ⟨e 0 (by omega), e 1 (by omega), e 2 (by omega)⟩
theorem R_of_rowA {w : World} {base g cap : Nat} {ok : Nat → Prop} {m : List S93} (h : rowA w g cap m) (hg : base ≤ g) (hok : ok g) (hc : cap ≤ maxLen) : Kd.R k93 93 w base ok (.slice (some ⟨g, 0, none⟩) m.length cap) m := by
  obtain ⟨cur, h1, h2, h3, h4⟩ := h
  have hl : (cur.toList.take (m.length * 3)).length = m.length * 3 := by simp; omega
  refine ⟨fun k hk => ?_, cur.toList.take (m.length * 3), ⟨hl, .inr ⟨g, cap, cur, rfl, hg, h1, h3, hc, h2, rfl⟩⟩, hl, fun j p hj => ?_⟩
  · have : g = k := by simpa [Value.ownBlock] using hk
    subst this; exact hok
  · obtain ⟨a, b, c⟩ := h4 j p hj
    have hjl := (List.getElem?_eq_some_iff.1 hj).1
    have : ((cur.toList.take (m.length * 3)).drop (j * 3)).take 3 = [.int .i64 p.f0, .bool p.f1, .bool p.f2] := by
      apply List.ext_getElem?
      intro i
      match i with
      | 0 => rw [List.getElem?_take_of_lt (by omega), List.getElem?_drop, List.getElem?_take_of_lt (by omega), Array.getElem?_toList]; exact a
      | 1 => rw [List.getElem?_take_of_lt (by omega), List.getElem?_drop, List.getElem?_take_of_lt (by omega), Array.getElem?_toList]; exact b
      | 2 => rw [List.getElem?_take_of_lt (by omega), List.getElem?_drop, List.getElem?_take_of_lt (by omega), Array.getElem?_toList]; exact c
      | i + 3 => rw [List.getElem?_take_eq_none (by omega)]; simp
    show k93.M _ _ _ _ (((cur.toList.take (m.length * 3)).drop (j * 3)).take 3)
    rw [this]
    exact k93_mkM _ _ _ p
theorem rowA_of_R {w : World} {base : Nat} {ok : Nat → Prop} {v : Value} {l : List S93} (h : Kd.R k93 93 w base ok v l) (hn : 0 < l.length) : ∃ g cap, v = .slice (some ⟨g, 0, none⟩) l.length cap ∧ base ≤ g ∧ ok g ∧ l.length ≤ cap ∧ cap ≤ maxLen ∧ rowA w g cap l := by
  obtain ⟨hok, inner, ⟨hl, hd⟩, hr⟩ := h
  rcases hd with ⟨rfl, hn0⟩ | ⟨g, cap, cur, rfl, hg, hb, h1, h2, h3, h4⟩
  · omega
  · refine ⟨g, cap, rfl, hg, hok g (by simp [Value.ownBlock]), h1, h2, cur, hb, h3, h1, fun i x hx => ?_⟩
    have hi := (List.getElem?_eq_some_iff.1 hx).1
    obtain ⟨a, b, c⟩ := take3 (k93_openM (hr.2 i x hx))
    subst h4
    rw [List.getElem?_take_of_lt (by show _ < l.length * 3; omega), Array.getElem?_toList] at a b c
    exact ⟨a, b, c⟩
theorem reads_arms {w : World} {b : Nat} {x y : S93} (h : w.heap[b]? = some (.cells #[.int .i64 x.f0, .bool x.f1, .bool x.f2, .int .i64 y.f0, .bool y.f1, .bool y.f2] 93 (0, 0))) : ReadsRow (fun (x : S93) cs => cs = [.int .i64 x.f0, .bool x.f1, .bool x.f2]) 3 w (some ⟨b, 0, none⟩) 2 [x, y] := by
  refine ⟨rfl, by decide, fun _ => ⟨_, rfl, fun j p hj => ?_⟩⟩
  match j, hj with
  | 0, hj =>
    cases hj
    refine ⟨_, rfl, rfl, fun i u hu => ?_⟩
    have := (heap_cell h i u (by
      match i, hu with
      | 0, hu => exact hu
      | 1, hu => exact hu
      | 2, hu => exact hu
      | i + 3, hu => simp at hu)).1
    rw [add_at]
    simpa using this
  | 1, hj =>
    cases hj
    refine ⟨_, rfl, rfl, fun i u hu => ?_⟩
    have := (heap_cell h (3 + i) u (by
      match i, hu with
      | 0, hu => exact hu
      | 1, hu => exact hu
      | 2, hu => exact hu
      | i + 3, hu => simp at hu)).1
    rw [add_at]
    simpa using this
theorem eqBools (a b c e : Bool) (d : Nat) (w : World) : (Op.equalIn (d + 2) 80 (.agg #[.bool a, .bool b]) (.agg #[.bool c, .bool e])).run Try.prog w = .ok (a == c && b == e) w := by
  obtain ⟨i, hi⟩ : ∃ i, Try.prog.info? 4 = some i := Option.isSome_iff_exists.1 (by kernel_rfl)
  have hc : Try.prog.cellsOf 4 = 1 := by kernel_rfl
  rw [run_equalIn_array w (d + 1) _ _ Try.underlying80 hi, hc]
  have hr : List.range 2 = [0, 1] := rfl
  rw [hr]
  have hq : ∀ (x y : Bool), (Op.equalIn (d + 1) 4 (.bool x) (.bool y)).run Try.prog w = .ok (x == y) w := fun x y => by go_simp
  simp only [Op.eqItems, Sem.run_bind]
  go_simp
  cases a <;> cases b <;> cases c <;> cases e <;> rfl
attribute [local go_sem high] eqBools
theorem infoArm : (Try.prog.info? 93).map (fun i => (i.zero, i.size, i.bytes)) = some (some (.agg #[(.int .i64 0), .bool false, .bool false]), 3, 16) := by kernel_rfl
theorem St.arm_set {T : TypeId} {W W1 : World} {g base N : Nat} {rest : List Value} {w : World} {vt : Value} {arms : List S93} {tiles : List S59} {ga ca : Nat} (h : St T W W1 g base N rest w (.slice (some ⟨ga, 0, none⟩) arms.length ca) vt arms tiles) (i : Nat) (x : S93) (hi : i < arms.length) :
    St T W W1 g base N rest (setA w ga i x) (.slice (some ⟨ga, 0, none⟩) arms.length ca) vt (arms.set i x) tiles := by
  obtain ⟨g', cap', hv, hb, hok, hlc, hcm, hrow⟩ := rowA_of_R h.RA (by omega)
  cases hv
  obtain ⟨cur, hcur, hcs⟩ := hrow
  have hne : g ≠ ga := fun e => hok.1 e.symm
  have hR := R_of_rowA (base := base) (ok := fun k => k ≠ g ∧ (k < W.heap.size ∨ N ≤ k)) (rowA_set (g := ga) ⟨cur, hcur, hcs⟩ i x hi) hb hok hcm
  rw [List.length_set] at hR
  refine ⟨?_, hR, Kd.R_set (Kd.R_set (Kd.R_set h.RT hcur (by decide) _ _) (heap_setCell_at hcur) (by decide) _ _) (heap_setCell_at (heap_setCell_at hcur)) (by decide) _ _, below_row_set (below_row_set (below_row_set h.BL hb) hb) hb, by simpa [setA, World.setCell] using h.SZ, fun b h1 h2 => ?_⟩
  · unfold setA
    rw [Below.heap_setCell _ _ _ g hne, Below.heap_setCell _ _ _ g hne, Below.heap_setCell _ _ _ g hne]
    exact h.G
  · have hba : b ≠ ga := by omega
    unfold setA
    rw [Below.heap_setCell _ _ _ b hba, Below.heap_setCell _ _ _ b hba, Below.heap_setCell _ _ _ b hba]
    exact h.BX b h1 h2
theorem has_f (t : S59) (n : Int) : impl_Tile_has.f t.f0 t.f1 n = some (hasB2 n t) := by
  unfold impl_Tile_has.f hasB2
  by_cases c : t.f0 = n
  · rw [if_pos c, decide_eq_true c]; rfl
  · rw [if_neg c, decide_eq_false c, Bool.false_or]; congr 1
theorem within_f (a : Int) (n : Nat) (hn : n ≤ 1000) : impl_within.f a 0 (wrap64 ((n : Int) - 1)) = some (decide (0 ≤ a ∧ a < n)) := by
  have e : wrap64 ((n : Int) - 1) = (n : Int) - 1 := by unfold wrap64; omega
  unfold impl_within.f
  rw [e]
  by_cases c : 0 ≤ a
  · rw [if_pos c]
    congr 1
    rw [decide_eq_decide]
    omega
  · rw [if_neg c, decide_eq_false (fun h => c h.1)]
theorem St.row {T : TypeId} {W W1 : World} {g base N : Nat} {rest : List Value} {w : World} {vt : Value} {arms : List S93} {tiles : List S59} {ga ca n : Nat} (h : St T W W1 g base N rest w (.slice (some ⟨ga, 0, none⟩) n ca) vt arms tiles) (i : Nat) (x : S93) (hx : arms[i]? = some x) : (w.cell? ⟨ga, i * 3, none⟩ = some (.int .i64 x.f0) ∧ w.cell? ⟨ga, i * 3 + 1, none⟩ = some (.bool x.f1) ∧ w.cell? ⟨ga, i * 3 + 2, none⟩ = some (.bool x.f2)) ∧ ∀ j, w.frozen? ⟨ga, j, none⟩ = false := by
  obtain ⟨g', cap', hv, hb, hok, hlc, hcm, hrow⟩ := rowA_of_R h.RA (by have := (List.getElem?_eq_some_iff.1 hx).1; omega)
  cases hv
  exact rowA_at hrow i x hx
theorem goodT_nums {t : S59} (h : goodT t = true) : 0 ≤ t.f0 ∧ t.f0 ≤ t.f1 ∧ t.f1 ≤ 9 := by
  unfold goodT at h
  simpa using h
theorem other_f {t : S59} (hg : goodT t = true) {n : Int} (hh : hasB2 n t = true) : impl_Tile_other.f t.f0 t.f1 n = some (t.f0 + t.f1 - n) := by
  have := goodT_nums hg
  have hn : n = t.f0 ∨ n = t.f1 := by
    unfold hasB2 at hh
    rw [Bool.or_eq_true, decide_eq_true_eq, decide_eq_true_eq] at hh
    omega
  unfold impl_Tile_other.f
  congr 1
  unfold wrap64
  omega
set_option maxHeartbeats 8000000 in
set_option maxRecDepth 100000 in
theorem impl_spread_play.gcalls (k : Nat) (g base : Nat) (s : SprS) (t : S59) (arm : Int) (o : Option SprS) (ho : playS s t arm = o) (W : World) (hs : SprAt W g base s) (hbase : base ≤ g) (hbs : base ≤ W.heap.size)
  (hc : slices_Contains_Tile.f k s.tiles t.f0 t.f1 = some (decide (t ∈ s.tiles))) (hinv : s.sp < 0 → s.arms.length ≤ 2) (hlen : s.arms.length ≤ 1000 ∧ s.tiles.length ≤ 28) :
  Calls Try.prog 91 #[.pointer (some ⟨g, 0, none⟩), .agg #[.int .i64 t.f0, .int .i64 t.f1, .int .i64 arm]] W fun e W' => e = .returned (.bool o.isSome) ∧ SprAt W' g base (o.getD s) ∧ Below base W W' := by
 obtain ⟨va, vt, hb, hra, hrt⟩ := hs
 have hgl : g < W.heap.size := (Array.getElem?_eq_some_iff.1 hb).1
 obtain ⟨Aa, ca, rfl, hlca, _⟩ := Kd.R_reads hra
 obtain ⟨At, ct, rfl, hlct, _⟩ := Kd.R_reads hrt
 have HR := Aside0.mk (And.intro hra hrt)
 have HC := Aside0.mk hc
 have HO := Aside0.mk ho
 clear hra hrt hc ho
 go_enter Try.func91, Try.ntmps91
 go_wp2
 have e1 : (W.alloc (.cells #[.int .i64 t.f0, .int .i64 t.f1, .int .i64 arm] 61)).heap.size = W.heap.size + 1 := by simp
 have hP : ((W.alloc (.cells #[.int .i64 t.f0, .int .i64 t.f1, .int .i64 arm] 61)).alloc (.cells #[.int .i64 t.f0, .int .i64 t.f1] 59)).heap[W.heap.size]? = some (.cells #[.int .i64 t.f0, .int .i64 t.f1, .int .i64 arm] 61 (0, 0)) := by
  rw [heap_alloc_old _ _ (by simp)]; exact heap_alloc_new _ _
 have hT : ((W.alloc (.cells #[.int .i64 t.f0, .int .i64 t.f1, .int .i64 arm] 61)).alloc (.cells #[.int .i64 t.f0, .int .i64 t.f1] 59)).heap[W.heap.size + 1]? = some (.cells #[.int .i64 t.f0, .int .i64 t.f1] 59 (0, 0)) := by
  rw [← e1]; exact heap_alloc_new _ _
 have hB : Below W.heap.size W ((W.alloc (.cells #[.int .i64 t.f0, .int .i64 t.f1, .int .i64 arm] 61)).alloc (.cells #[.int .i64 t.f0, .int .i64 t.f1] 59)) := ((Below.refl W.heap.size W).alloc (Nat.le_refl _) _).alloc (by simp) _
 have hSz : ((W.alloc (.cells #[.int .i64 t.f0, .int .i64 t.f1, .int .i64 arm] 61)).alloc (.cells #[.int .i64 t.f0, .int .i64 t.f1] 59)).heap.size = W.heap.size + 2 := by simp
 generalize (W.alloc (.cells #[.int .i64 t.f0, .int .i64 t.f1, .int .i64 arm] 61)).alloc (.cells #[.int .i64 t.f0, .int .i64 t.f1] 59) = W1 at hP hT hB hSz ⊢
 have hG : W1.heap[g]? = some (.cells #[.slice Aa s.arms.length ca, .slice At s.tiles.length ct, .int .i64 s.sp, .bool s.w0, .bool s.w1] 82 (0, 0)) := (hB.block g hgl).trans hb
 have hSt : St 82 W W1 g base (W.heap.size + 2) [.int .i64 s.sp, .bool s.w0, .bool s.w1] W1 (.slice Aa s.arms.length ca) (.slice At s.tiles.length ct) s.arms s.tiles :=
  ⟨hG, Kd.R_mono (Kd.R_types (Kd.R_below (Kd.R_bound HR.out.1) hB) hG (by decide)) (fun k hk => ⟨hk.2, .inl hk.1.2.2.1⟩), Kd.R_mono (Kd.R_types (Kd.R_below (Kd.R_bound HR.out.2) hB) hG (by decide)) (fun k hk => ⟨hk.2, .inl hk.1.2.2.1⟩), hB.mono hbs, by omega, fun _ _ _ => rfl⟩
 have HST := Aside0.mk hSt
 have HPT := Aside0.mk (And.intro hP hT)
 obtain ⟨t0, ft0⟩ := heap_cell hT 0 (.int .i64 t.f0) rfl
 obtain ⟨t1, ft1⟩ := heap_cell hT 1 (.int .i64 t.f1) rfl
 obtain ⟨c1, f1⟩ := heap_cell hG 1 (.slice At s.tiles.length ct) rfl
 have hCC : ∀ w', Below W1.heap.size W1 w' → Calls Try.prog 96 #[.slice At s.tiles.length ct, .agg #[.int .i64 t.f0, .int .i64 t.f1]] w' fun e w2 => e = .returned (.bool (decide (t ∈ s.tiles))) ∧ Below w'.heap.size w' w2 := by
  intro w' hb'
  obtain ⟨_, _, hcc⟩ := Kd.R_reads' (Kd.R_below (Kd.R_below HR.out.2 hB) hb')
  exact slices_Contains_Tile.calls k At ct s.tiles t.f0 t.f1 _ w' hcc hlct HC.out
 have HCC := Aside0.mk hCC
 clear hCC HC HR hB hG hP hT hb e1 hSt
 by_cases hg : goodT t = true
 rotate_left
 ·have hgf : goodT t = false := by simpa using hg
  have HP := Aside0.mk (show playS s t arm = none by unfold playS; rw [if_neg (fun c => hg c.1)])
  refine start_ (n := 19) (S := fun w' => w'.cell? ⟨W.heap.size + 1, 0, none⟩ = some (.int .i64 t.f0) ∧ w'.cell? ⟨W.heap.size + 1, 1, none⟩ = some (.int .i64 t.f1) ∧ Below W1.heap.size W1 w') (ds := []) pm0 (by kernel_rfl) rfl rfl ⟨(cell_b t0 (belowD (Below.refl _ _))), (cell_b t1 (belowD (Below.refl _ _))), (belowD (Below.refl _ _))⟩ (fun hHeld => ?_)
  refine take_ (i := 0) (N := some 8) (v := ?_) (a' := ?_) pm1 rfl rfl (by kernel_rfl) (fun _ _ _ h => h) (Or.inl ⟨by rfl, ?_⟩) hHeld ?_ ?_
  rotate_left
  ·rintro w' ⟨s0, s1, s2⟩
   go_simp
   with_reducible rfl
  rotate_left
  ·simp only [pmsP]
   rfl
  refine one_ (i := 1) (N := some 9) pm2 rfl rfl (by kernel_rfl) (by decide) (fun K hK => ?_)
  refine goes_ Try.func82 (by kernel_rfl) rfl #[.agg #[.int .i64 t.f0, .int .i64 t.f1]] (by rfl) rfl rfl (by simp only [List.map_toArray, List.map_cons, List.map_nil]; rfl) ?_
  with_reducible refine (impl_IsTile.calls t.f0 t.f1 _ _ ((isTile_good t).trans (congrArg some hgf))).mono ?_
  rintro e w3 ⟨rfl, hb_1⟩
  refine ⟨_, rfl, ?_⟩
  have hB_1 := belowS hHeld.2.2 hb_1
  refine hK.out _ _ ⟨(cell_b t0 hB_1), (cell_b t1 hB_1), hB_1⟩ (fun hHeld => ?_)
  clear hK K
  refine norm_ (a' := ?_) ?_ ?_
  rotate_left
  ·show Act.put _ (some 9) _ = _
   simp only [pmsP]
   rfl
  refine pure_ (i := 2) (N := some 10) (v := ?_) (a' := ?_) pm3 rfl rfl (by kernel_rfl) (fun _ _ _ h => h) (Or.inl ⟨by rfl, ?_⟩) ?_ ?_
  rotate_left
  ·intro w'
   go_simp
   with_reducible rfl
  rotate_left
  ·simp only [pmsP]
   rfl
  refine pure_ (i := 3) (N := some 11) (v := ?_) (a' := ?_) pm4 rfl rfl (by kernel_rfl) (fun _ _ _ h => h) (Or.inl ⟨by rfl, ?_⟩) ?_ ?_
  rotate_left
  ·intro w'
   go_simp
   with_reducible rfl
  rotate_left
  ·simp only [pmsP]
   rfl
  refine pure_ (i := 4) (N := some 12) (v := undef) (a' := ?_) pm5 rfl rfl (by kernel_rfl) (fun _ _ _ h => h) (Or.inr ⟨by rfl, rfl⟩) ?_ ?_
  rotate_left
  ·simp only [pmsP]
   rfl
  refine pure_ (i := 5) (N := some 13) (v := undef) (a' := ?_) pm6 rfl rfl (by kernel_rfl) (fun _ _ _ h => h) (Or.inr ⟨by rfl, rfl⟩) ?_ ?_
  rotate_left
  ·simp only [pmsP]
   rfl
  refine pure_ (i := 6) (N := some 14) (v := undef) (a' := ?_) pm7 rfl rfl (by kernel_rfl) (fun _ _ _ h => h) (Or.inr ⟨by rfl, rfl⟩) ?_ ?_
  rotate_left
  ·simp only [pmsP]
   rfl
  refine pure_ (i := 7) (N := some 15) (v := undef) (a' := ?_) pm8 rfl rfl (by kernel_rfl) (fun _ _ _ h => h) (Or.inr ⟨by rfl, rfl⟩) ?_ ?_
  rotate_left
  ·simp only [pmsP]
   rfl
  refine pure_ (i := 8) (N := some 16) (v := undef) (a' := ?_) pm9 rfl rfl (by kernel_rfl) (fun _ _ _ h => h) (Or.inr ⟨by rfl, rfl⟩) ?_ ?_
  rotate_left
  ·simp only [pmsP]
   rfl
  refine pure_ (i := 9) (N := some 17) (v := undef) (a' := ?_) pm10 rfl rfl (by kernel_rfl) (fun _ _ _ h => h) (Or.inr ⟨by rfl, rfl⟩) ?_ ?_
  rotate_left
  ·simp only [pmsP]
   rfl
  refine pure_ (i := 10) (N := some 18) (v := ?_) (a' := ?_) pm11 rfl rfl (by kernel_rfl) (fun _ _ _ h => h) (Or.inl ⟨by rfl, ?_⟩) ?_ ?_
  rotate_left
  ·intro w'
   go_simp
   with_reducible rfl
  rotate_left
  ·simp only [pmsP]
   rfl
  refine pure_ (i := 11) (N := some 19) (v := ?_) (a' := ?_) pm12 rfl rfl (by kernel_rfl) (fun _ _ _ h => h) (Or.inl ⟨by rfl, ?_⟩) ?_ ?_
  rotate_left
  ·intro w'
   go_simp
   with_reducible rfl
  rotate_left
  ·simp only [pmsP]
   rfl
  refine pure_ (i := 12) (N := some 20) (v := undef) (a' := ?_) pm13 rfl rfl (by kernel_rfl) (fun _ _ _ h => h) (Or.inr ⟨by rfl, rfl⟩) ?_ ?_
  rotate_left
  ·simp only [pmsP]
   rfl
  refine pure_ (i := 13) (N := some 21) (v := undef) (a' := ?_) pm14 rfl rfl (by kernel_rfl) (fun _ _ _ h => h) (Or.inr ⟨by rfl, rfl⟩) ?_ ?_
  rotate_left
  ·simp only [pmsP]
   rfl
  refine pure_ (i := 14) (N := some 22) (v := undef) (a' := ?_) pm15 rfl rfl (by kernel_rfl) (fun _ _ _ h => h) (Or.inr ⟨by rfl, rfl⟩) ?_ ?_
  rotate_left
  ·simp only [pmsP]
   rfl
  refine pure_ (i := 15) (N := some 23) (v := undef) (a' := ?_) pm16 rfl rfl (by kernel_rfl) (fun _ _ _ h => h) (Or.inr ⟨by rfl, rfl⟩) ?_ ?_
  rotate_left
  ·simp only [pmsP]
   rfl
  refine pure_ (i := 16) (N := some 24) (v := undef) (a' := ?_) pm17 rfl rfl (by kernel_rfl) (fun _ _ _ h => h) (Or.inr ⟨by rfl, rfl⟩) ?_ ?_
  rotate_left
  ·simp only [pmsP]
   rfl
  refine pure_ (i := 17) (N := some 25) (v := undef) (a' := ?_) pm18 rfl rfl (by kernel_rfl) (fun _ _ _ h => h) (Or.inr ⟨by rfl, rfl⟩) ?_ ?_
  rotate_left
  ·simp only [pmsP]
   rfl
  refine pure_ (i := 18) (N := some 26) (v := ?_) (a' := ?_) pm19 rfl rfl (by kernel_rfl) (fun _ _ _ h => h) (Or.inl ⟨by rfl, ?_⟩) ?_ ?_
  rotate_left
  ·intro w'
   go_simp
   with_reducible rfl
  rotate_left
  ·simp only [pmsP]
   rfl
  refine done_ (by kernel_rfl) ?_
  have HST2 := Aside0.mk (HST.out.below hHeld.2.2 hbs (by omega))
  go_wp2
  obtain rfl : o = none := HO.out.symm.trans HP.out
  go_ret
  exact ⟨rfl, HST2.out.done, HST2.out.BL⟩
 by_cases hm : t ∈ s.tiles
 ·have HP := Aside0.mk (show playS s t arm = none by unfold playS; rw [if_neg (fun c => c.2.1 hm)])
  have HC1 := Aside0.mk (show ∀ w', Below W1.heap.size W1 w' → Calls Try.prog 96 #[.slice At s.tiles.length ct, .agg #[.int .i64 t.f0, .int .i64 t.f1]] w' fun e w2 => e = .returned (.bool true) ∧ Below w'.heap.size w' w2 by have := HCC.out; rwa [decide_eq_true hm] at this)
  refine start_ (n := 19) (S := fun w' => w'.cell? ⟨W.heap.size + 1, 0, none⟩ = some (.int .i64 t.f0) ∧ w'.cell? ⟨W.heap.size + 1, 1, none⟩ = some (.int .i64 t.f1) ∧ w'.cell? ⟨g, 1, none⟩ = some (.slice At s.tiles.length ct) ∧ Below W1.heap.size W1 w') (ds := []) pm0 (by kernel_rfl) rfl rfl ⟨(cell_b t0 (belowD (Below.refl _ _))), (cell_b t1 (belowD (Below.refl _ _))), (cell_b c1 (belowD (Below.refl _ _))), (belowD (Below.refl _ _))⟩ (fun hHeld => ?_)
  refine take_ (i := 0) (N := some 8) (v := ?_) (a' := ?_) pm1 rfl rfl (by kernel_rfl) (fun _ _ _ h => h) (Or.inl ⟨by rfl, ?_⟩) hHeld ?_ ?_
  rotate_left
  ·rintro w' ⟨s0, s1, s2, s3⟩
   go_simp
   with_reducible rfl
  rotate_left
  ·simp only [pmsP]
   rfl
  refine one_ (i := 1) (N := some 9) pm2 rfl rfl (by kernel_rfl) (by decide) (fun K hK => ?_)
  refine goes_ Try.func82 (by kernel_rfl) rfl #[.agg #[.int .i64 t.f0, .int .i64 t.f1]] (by rfl) rfl rfl (by simp only [List.map_toArray, List.map_cons, List.map_nil]; rfl) ?_
  with_reducible refine (impl_IsTile.calls t.f0 t.f1 _ _ ((isTile_good t).trans (congrArg some hg))).mono ?_
  rintro e w3 ⟨rfl, hb_1⟩
  refine ⟨_, rfl, ?_⟩
  have hB_1 := belowS hHeld.2.2.2 hb_1
  refine hK.out _ _ ⟨(cell_b t0 hB_1), (cell_b t1 hB_1), (cell_b c1 hB_1), hB_1⟩ (fun hHeld => ?_)
  clear hK K
  refine norm_ (a' := ?_) ?_ ?_
  rotate_left
  ·show Act.put _ (some 9) _ = _
   simp only [pmsP]
   rfl
  refine pure_ (i := 2) (N := some 10) (v := ?_) (a' := ?_) pm3 rfl rfl (by kernel_rfl) (fun _ _ _ h => h) (Or.inl ⟨by rfl, ?_⟩) ?_ ?_
  rotate_left
  ·intro w'
   go_simp
   with_reducible rfl
  rotate_left
  ·simp only [pmsP]
   rfl
  refine pure_ (i := 3) (N := some 11) (v := ?_) (a' := ?_) pm4 rfl rfl (by kernel_rfl) (fun _ _ _ h => h) (Or.inl ⟨by rfl, ?_⟩) ?_ ?_
  rotate_left
  ·intro w'
   go_simp
   with_reducible rfl
  rotate_left
  ·simp only [pmsP]
   rfl
  refine pure_ (i := 4) (N := some 12) (v := ?_) (a' := ?_) pm5 rfl rfl (by kernel_rfl) (fun _ _ _ h => h) (Or.inl ⟨by rfl, ?_⟩) ?_ ?_
  rotate_left
  ·intro w'
   go_simp
   with_reducible rfl
  rotate_left
  ·simp only [pmsP]
   rfl
  refine pure_ (i := 5) (N := some 13) (v := ?_) (a' := ?_) pm6 rfl rfl (by kernel_rfl) (fun _ _ _ h => h) (Or.inl ⟨by rfl, ?_⟩) ?_ ?_
  rotate_left
  ·intro w'
   go_simp
   with_reducible rfl
  rotate_left
  ·simp only [pmsP]
   rfl
  refine pure_ (i := 6) (N := some 14) (v := ?_) (a' := ?_) pm7 rfl rfl (by kernel_rfl) (fun _ _ _ h => h) (Or.inl ⟨by rfl, ?_⟩) ?_ ?_
  rotate_left
  ·intro w'
   go_simp
   with_reducible rfl
  rotate_left
  ·simp only [pmsP]
   rfl
  refine take_ (i := 7) (N := some 15) (v := ?_) (a' := ?_) pm8 rfl rfl (by kernel_rfl) (fun _ _ _ h => h) (Or.inl ⟨by rfl, ?_⟩) hHeld ?_ ?_
  rotate_left
  ·rintro w' ⟨s0, s1, s2, s3⟩
   go_simp
   with_reducible rfl
  rotate_left
  ·simp only [pmsP]
   rfl
  refine take_ (i := 8) (N := some 16) (v := ?_) (a' := ?_) pm9 rfl rfl (by kernel_rfl) (fun _ _ _ h => h) (Or.inl ⟨by rfl, ?_⟩) hHeld ?_ ?_
  rotate_left
  ·rintro w' ⟨s0, s1, s2, s3⟩
   go_simp
   with_reducible rfl
  rotate_left
  ·simp only [pmsP]
   rfl
  refine one_ (i := 9) (N := some 17) pm10 rfl rfl (by kernel_rfl) (by decide) (fun K hK => ?_)
  refine goes_ Try.func96 (by kernel_rfl) rfl #[.slice At s.tiles.length ct, .agg #[.int .i64 t.f0, .int .i64 t.f1]] (by rfl) rfl rfl (by simp only [List.map_toArray, List.map_cons, List.map_nil]; rfl) ?_
  with_reducible refine (HC1.out _ hB_1).mono ?_
  rintro e w4 ⟨rfl, hb_9⟩
  refine ⟨_, rfl, ?_⟩
  have hB_9 := belowS hHeld.2.2.2 hb_9
  refine hK.out _ _ ⟨(cell_b t0 hB_9), (cell_b t1 hB_9), (cell_b c1 hB_9), hB_9⟩ (fun hHeld => ?_)
  clear hK K
  refine norm_ (a' := ?_) ?_ ?_
  rotate_left
  ·show Act.put _ (some 17) _ = _
   simp only [pmsP]
   rfl
  refine pure_ (i := 10) (N := some 18) (v := ?_) (a' := ?_) pm11 rfl rfl (by kernel_rfl) (fun _ _ _ h => h) (Or.inl ⟨by rfl, ?_⟩) ?_ ?_
  rotate_left
  ·intro w'
   go_simp
   with_reducible rfl
  rotate_left
  ·simp only [pmsP]
   rfl
  refine pure_ (i := 11) (N := some 19) (v := ?_) (a' := ?_) pm12 rfl rfl (by kernel_rfl) (fun _ _ _ h => h) (Or.inl ⟨by rfl, ?_⟩) ?_ ?_
  rotate_left
  ·intro w'
   go_simp
   with_reducible rfl
  rotate_left
  ·simp only [pmsP]
   rfl
  refine pure_ (i := 12) (N := some 20) (v := undef) (a' := ?_) pm13 rfl rfl (by kernel_rfl) (fun _ _ _ h => h) (Or.inr ⟨by rfl, rfl⟩) ?_ ?_
  rotate_left
  ·simp only [pmsP]
   rfl
  refine pure_ (i := 13) (N := some 21) (v := undef) (a' := ?_) pm14 rfl rfl (by kernel_rfl) (fun _ _ _ h => h) (Or.inr ⟨by rfl, rfl⟩) ?_ ?_
  rotate_left
  ·simp only [pmsP]
   rfl
  refine pure_ (i := 14) (N := some 22) (v := undef) (a' := ?_) pm15 rfl rfl (by kernel_rfl) (fun _ _ _ h => h) (Or.inr ⟨by rfl, rfl⟩) ?_ ?_
  rotate_left
  ·simp only [pmsP]
   rfl
  refine pure_ (i := 15) (N := some 23) (v := undef) (a' := ?_) pm16 rfl rfl (by kernel_rfl) (fun _ _ _ h => h) (Or.inr ⟨by rfl, rfl⟩) ?_ ?_
  rotate_left
  ·simp only [pmsP]
   rfl
  refine pure_ (i := 16) (N := some 24) (v := undef) (a' := ?_) pm17 rfl rfl (by kernel_rfl) (fun _ _ _ h => h) (Or.inr ⟨by rfl, rfl⟩) ?_ ?_
  rotate_left
  ·simp only [pmsP]
   rfl
  refine pure_ (i := 17) (N := some 25) (v := undef) (a' := ?_) pm18 rfl rfl (by kernel_rfl) (fun _ _ _ h => h) (Or.inr ⟨by rfl, rfl⟩) ?_ ?_
  rotate_left
  ·simp only [pmsP]
   rfl
  refine pure_ (i := 18) (N := some 26) (v := ?_) (a' := ?_) pm19 rfl rfl (by kernel_rfl) (fun _ _ _ h => h) (Or.inl ⟨by rfl, ?_⟩) ?_ ?_
  rotate_left
  ·intro w'
   go_simp
   with_reducible rfl
  rotate_left
  ·simp only [pmsP]
   rfl
  refine done_ (by kernel_rfl) ?_
  have HST2 := Aside0.mk (HST.out.below hHeld.2.2.2 hbs (by omega))
  go_wp2
  obtain rfl : o = none := HO.out.symm.trans HP.out
  go_ret
  exact ⟨rfl, HST2.out.done, HST2.out.BL⟩
 have HC1 := Aside0.mk (show ∀ w', Below W1.heap.size W1 w' → Calls Try.prog 96 #[.slice At s.tiles.length ct, .agg #[.int .i64 t.f0, .int .i64 t.f1]] w' fun e w2 => e = .returned (.bool false) ∧ Below w'.heap.size w' w2 by have := HCC.out; rwa [decide_eq_false hm] at this)
 by_cases h28 : s.tiles.length = 28
 ·have HP := Aside0.mk (show playS s t arm = none by unfold playS; rw [if_neg (fun c => c.2.2 h28)])
  have h28b : ((s.tiles.length : Int) == 28) = true := by rw [beq_iff_eq]; omega
  clear h28
  refine start_ (n := 19) (S := fun w' => w'.cell? ⟨W.heap.size + 1, 0, none⟩ = some (.int .i64 t.f0) ∧ w'.cell? ⟨W.heap.size + 1, 1, none⟩ = some (.int .i64 t.f1) ∧ w'.cell? ⟨g, 1, none⟩ = some (.slice At s.tiles.length ct) ∧ Below W1.heap.size W1 w') (ds := []) pm0 (by kernel_rfl) rfl rfl ⟨(cell_b t0 (belowD (Below.refl _ _))), (cell_b t1 (belowD (Below.refl _ _))), (cell_b c1 (belowD (Below.refl _ _))), (belowD (Below.refl _ _))⟩ (fun hHeld => ?_)
  refine take_ (i := 0) (N := some 8) (v := ?_) (a' := ?_) pm1 rfl rfl (by kernel_rfl) (fun _ _ _ h => h) (Or.inl ⟨by rfl, ?_⟩) hHeld ?_ ?_
  rotate_left
  ·rintro w' ⟨s0, s1, s2, s3⟩
   go_simp
   with_reducible rfl
  rotate_left
  ·simp only [pmsP]
   rfl
  refine one_ (i := 1) (N := some 9) pm2 rfl rfl (by kernel_rfl) (by decide) (fun K hK => ?_)
  refine goes_ Try.func82 (by kernel_rfl) rfl #[.agg #[.int .i64 t.f0, .int .i64 t.f1]] (by rfl) rfl rfl (by simp only [List.map_toArray, List.map_cons, List.map_nil]; rfl) ?_
  with_reducible refine (impl_IsTile.calls t.f0 t.f1 _ _ ((isTile_good t).trans (congrArg some hg))).mono ?_
  rintro e w3 ⟨rfl, hb_1⟩
  refine ⟨_, rfl, ?_⟩
  have hB_1 := belowS hHeld.2.2.2 hb_1
  refine hK.out _ _ ⟨(cell_b t0 hB_1), (cell_b t1 hB_1), (cell_b c1 hB_1), hB_1⟩ (fun hHeld => ?_)
  clear hK K
  refine norm_ (a' := ?_) ?_ ?_
  rotate_left
  ·show Act.put _ (some 9) _ = _
   simp only [pmsP]
   rfl
  refine pure_ (i := 2) (N := some 10) (v := ?_) (a' := ?_) pm3 rfl rfl (by kernel_rfl) (fun _ _ _ h => h) (Or.inl ⟨by rfl, ?_⟩) ?_ ?_
  rotate_left
  ·intro w'
   go_simp
   with_reducible rfl
  rotate_left
  ·simp only [pmsP]
   rfl
  refine pure_ (i := 3) (N := some 11) (v := ?_) (a' := ?_) pm4 rfl rfl (by kernel_rfl) (fun _ _ _ h => h) (Or.inl ⟨by rfl, ?_⟩) ?_ ?_
  rotate_left
  ·intro w'
   go_simp
   with_reducible rfl
  rotate_left
  ·simp only [pmsP]
   rfl
  refine pure_ (i := 4) (N := some 12) (v := ?_) (a' := ?_) pm5 rfl rfl (by kernel_rfl) (fun _ _ _ h => h) (Or.inl ⟨by rfl, ?_⟩) ?_ ?_
  rotate_left
  ·intro w'
   go_simp
   with_reducible rfl
  rotate_left
  ·simp only [pmsP]
   rfl
  refine pure_ (i := 5) (N := some 13) (v := ?_) (a' := ?_) pm6 rfl rfl (by kernel_rfl) (fun _ _ _ h => h) (Or.inl ⟨by rfl, ?_⟩) ?_ ?_
  rotate_left
  ·intro w'
   go_simp
   with_reducible rfl
  rotate_left
  ·simp only [pmsP]
   rfl
  refine pure_ (i := 6) (N := some 14) (v := ?_) (a' := ?_) pm7 rfl rfl (by kernel_rfl) (fun _ _ _ h => h) (Or.inl ⟨by rfl, ?_⟩) ?_ ?_
  rotate_left
  ·intro w'
   go_simp
   with_reducible rfl
  rotate_left
  ·simp only [pmsP]
   rfl
  refine take_ (i := 7) (N := some 15) (v := ?_) (a' := ?_) pm8 rfl rfl (by kernel_rfl) (fun _ _ _ h => h) (Or.inl ⟨by rfl, ?_⟩) hHeld ?_ ?_
  rotate_left
  ·rintro w' ⟨s0, s1, s2, s3⟩
   go_simp
   with_reducible rfl
  rotate_left
  ·simp only [pmsP]
   rfl
  refine take_ (i := 8) (N := some 16) (v := ?_) (a' := ?_) pm9 rfl rfl (by kernel_rfl) (fun _ _ _ h => h) (Or.inl ⟨by rfl, ?_⟩) hHeld ?_ ?_
  rotate_left
  ·rintro w' ⟨s0, s1, s2, s3⟩
   go_simp
   with_reducible rfl
  rotate_left
  ·simp only [pmsP]
   rfl
  refine one_ (i := 9) (N := some 17) pm10 rfl rfl (by kernel_rfl) (by decide) (fun K hK => ?_)
  refine goes_ Try.func96 (by kernel_rfl) rfl #[.slice At s.tiles.length ct, .agg #[.int .i64 t.f0, .int .i64 t.f1]] (by rfl) rfl rfl (by simp only [List.map_toArray, List.map_cons, List.map_nil]; rfl) ?_
  with_reducible refine (HC1.out _ hB_1).mono ?_
  rintro e w4 ⟨rfl, hb_9⟩
  refine ⟨_, rfl, ?_⟩
  have hB_9 := belowS hHeld.2.2.2 hb_9
  refine hK.out _ _ ⟨(cell_b t0 hB_9), (cell_b t1 hB_9), (cell_b c1 hB_9), hB_9⟩ (fun hHeld => ?_)
  clear hK K
  refine norm_ (a' := ?_) ?_ ?_
  rotate_left
  ·show Act.put _ (some 17) _ = _
   simp only [pmsP]
   rfl
  refine pure_ (i := 10) (N := some 18) (v := ?_) (a' := ?_) pm11 rfl rfl (by kernel_rfl) (fun _ _ _ h => h) (Or.inl ⟨by rfl, ?_⟩) ?_ ?_
  rotate_left
  ·intro w'
   go_simp
   with_reducible rfl
  rotate_left
  ·simp only [pmsP]
   rfl
  refine pure_ (i := 11) (N := some 19) (v := ?_) (a' := ?_) pm12 rfl rfl (by kernel_rfl) (fun _ _ _ h => h) (Or.inl ⟨by rfl, ?_⟩) ?_ ?_
  rotate_left
  ·intro w'
   go_simp
   with_reducible rfl
  rotate_left
  ·simp only [pmsP]
   rfl
  refine pure_ (i := 12) (N := some 20) (v := ?_) (a' := ?_) pm13 rfl rfl (by kernel_rfl) (fun _ _ _ h => h) (Or.inl ⟨by rfl, ?_⟩) ?_ ?_
  rotate_left
  ·intro w'
   go_simp
   with_reducible rfl
  rotate_left
  ·simp only [pmsP]
   rfl
  refine pure_ (i := 13) (N := some 21) (v := ?_) (a' := ?_) pm14 rfl rfl (by kernel_rfl) (fun _ _ _ h => h) (Or.inl ⟨by rfl, ?_⟩) ?_ ?_
  rotate_left
  ·intro w'
   go_simp
   with_reducible rfl
  rotate_left
  ·simp only [pmsP]
   rfl
  refine pure_ (i := 14) (N := some 22) (v := ?_) (a' := ?_) pm15 rfl rfl (by kernel_rfl) (fun _ _ _ h => h) (Or.inl ⟨by rfl, ?_⟩) ?_ ?_
  rotate_left
  ·intro w'
   go_simp
   with_reducible rfl
  rotate_left
  ·simp only [pmsP]
   rfl
  refine take_ (i := 15) (N := some 23) (v := ?_) (a' := ?_) pm16 rfl rfl (by kernel_rfl) (fun _ _ _ h => h) (Or.inl ⟨by rfl, ?_⟩) hHeld ?_ ?_
  rotate_left
  ·rintro w' ⟨s0, s1, s2, s3⟩
   go_simp
   with_reducible rfl
  rotate_left
  ·simp only [pmsP]
   rfl
  refine pure_ (i := 16) (N := some 24) (v := ?_) (a' := ?_) pm17 rfl rfl (by kernel_rfl) (fun _ _ _ h => h) (Or.inl ⟨by rfl, ?_⟩) ?_ ?_
  rotate_left
  ·intro w'
   go_simp
   with_reducible rfl
  rotate_left
  ·simp only [pmsP]
   rfl
  refine pure_ (i := 17) (N := some 25) (v := ?_) (a' := ?_) pm18 rfl rfl (by kernel_rfl) (fun _ _ _ h => h) (Or.inl ⟨by rfl, ?_⟩) ?_ ?_
  rotate_left
  ·intro w'
   go_simp
   with_reducible rfl
  rotate_left
  ·simp only [pmsP]
   rfl
  refine pure_ (i := 18) (N := some 26) (v := ?_) (a' := ?_) pm19 rfl rfl (by kernel_rfl) (fun _ _ _ h => h) (Or.inl ⟨by rfl, ?_⟩) ?_ ?_
  rotate_left
  ·intro w'
   go_simp
   with_reducible rfl
  rotate_left
  ·simp only [pmsP]
   rfl
  refine done_ (by kernel_rfl) ?_
  have HST2 := Aside0.mk (HST.out.below hHeld.2.2.2 hbs (by omega))
  go_wp2
  obtain rfl : o = none := HO.out.symm.trans HP.out
  go_ret
  exact ⟨rfl, HST2.out.done, HST2.out.BL⟩
 have h28b : ((s.tiles.length : Int) == 28) = false := by rw [beq_eq_false_iff_ne]; omega
 have HGD := Aside0.mk (And.intro hg (And.intro hm h28))
 clear hm h28
 refine start_ (n := 19) (S := fun w' => w'.cell? ⟨W.heap.size + 1, 0, none⟩ = some (.int .i64 t.f0) ∧ w'.cell? ⟨W.heap.size + 1, 1, none⟩ = some (.int .i64 t.f1) ∧ w'.cell? ⟨g, 1, none⟩ = some (.slice At s.tiles.length ct) ∧ Below W1.heap.size W1 w') (ds := []) pm0 (by kernel_rfl) rfl rfl ⟨(cell_b t0 (belowD (Below.refl _ _))), (cell_b t1 (belowD (Below.refl _ _))), (cell_b c1 (belowD (Below.refl _ _))), (belowD (Below.refl _ _))⟩ (fun hHeld => ?_)
 refine take_ (i := 0) (N := some 8) (v := ?_) (a' := ?_) pm1 rfl rfl (by kernel_rfl) (fun _ _ _ h => h) (Or.inl ⟨by rfl, ?_⟩) hHeld ?_ ?_
 rotate_left
 ·rintro w' ⟨s0, s1, s2, s3⟩
  go_simp
  with_reducible rfl
 rotate_left
 ·simp only [pmsP]
  rfl
 refine one_ (i := 1) (N := some 9) pm2 rfl rfl (by kernel_rfl) (by decide) (fun K hK => ?_)
 refine goes_ Try.func82 (by kernel_rfl) rfl #[.agg #[.int .i64 t.f0, .int .i64 t.f1]] (by rfl) rfl rfl (by simp only [List.map_toArray, List.map_cons, List.map_nil]; rfl) ?_
 with_reducible refine (impl_IsTile.calls t.f0 t.f1 _ _ ((isTile_good t).trans (congrArg some hg))).mono ?_
 rintro e w3 ⟨rfl, hb_1⟩
 refine ⟨_, rfl, ?_⟩
 have hB_1 := belowS hHeld.2.2.2 hb_1
 refine hK.out _ _ ⟨(cell_b t0 hB_1), (cell_b t1 hB_1), (cell_b c1 hB_1), hB_1⟩ (fun hHeld => ?_)
 clear hK K
 refine norm_ (a' := ?_) ?_ ?_
 rotate_left
 ·show Act.put _ (some 9) _ = _
  simp only [pmsP]
  rfl
 refine pure_ (i := 2) (N := some 10) (v := ?_) (a' := ?_) pm3 rfl rfl (by kernel_rfl) (fun _ _ _ h => h) (Or.inl ⟨by rfl, ?_⟩) ?_ ?_
 rotate_left
 ·intro w'
  go_simp
  with_reducible rfl
 rotate_left
 ·simp only [pmsP]
  rfl
 refine pure_ (i := 3) (N := some 11) (v := ?_) (a' := ?_) pm4 rfl rfl (by kernel_rfl) (fun _ _ _ h => h) (Or.inl ⟨by rfl, ?_⟩) ?_ ?_
 rotate_left
 ·intro w'
  go_simp
  with_reducible rfl
 rotate_left
 ·simp only [pmsP]
  rfl
 refine pure_ (i := 4) (N := some 12) (v := ?_) (a' := ?_) pm5 rfl rfl (by kernel_rfl) (fun _ _ _ h => h) (Or.inl ⟨by rfl, ?_⟩) ?_ ?_
 rotate_left
 ·intro w'
  go_simp
  with_reducible rfl
 rotate_left
 ·simp only [pmsP]
  rfl
 refine pure_ (i := 5) (N := some 13) (v := ?_) (a' := ?_) pm6 rfl rfl (by kernel_rfl) (fun _ _ _ h => h) (Or.inl ⟨by rfl, ?_⟩) ?_ ?_
 rotate_left
 ·intro w'
  go_simp
  with_reducible rfl
 rotate_left
 ·simp only [pmsP]
  rfl
 refine pure_ (i := 6) (N := some 14) (v := ?_) (a' := ?_) pm7 rfl rfl (by kernel_rfl) (fun _ _ _ h => h) (Or.inl ⟨by rfl, ?_⟩) ?_ ?_
 rotate_left
 ·intro w'
  go_simp
  with_reducible rfl
 rotate_left
 ·simp only [pmsP]
  rfl
 refine take_ (i := 7) (N := some 15) (v := ?_) (a' := ?_) pm8 rfl rfl (by kernel_rfl) (fun _ _ _ h => h) (Or.inl ⟨by rfl, ?_⟩) hHeld ?_ ?_
 rotate_left
 ·rintro w' ⟨s0, s1, s2, s3⟩
  go_simp
  with_reducible rfl
 rotate_left
 ·simp only [pmsP]
  rfl
 refine take_ (i := 8) (N := some 16) (v := ?_) (a' := ?_) pm9 rfl rfl (by kernel_rfl) (fun _ _ _ h => h) (Or.inl ⟨by rfl, ?_⟩) hHeld ?_ ?_
 rotate_left
 ·rintro w' ⟨s0, s1, s2, s3⟩
  go_simp
  with_reducible rfl
 rotate_left
 ·simp only [pmsP]
  rfl
 refine one_ (i := 9) (N := some 17) pm10 rfl rfl (by kernel_rfl) (by decide) (fun K hK => ?_)
 refine goes_ Try.func96 (by kernel_rfl) rfl #[.slice At s.tiles.length ct, .agg #[.int .i64 t.f0, .int .i64 t.f1]] (by rfl) rfl rfl (by simp only [List.map_toArray, List.map_cons, List.map_nil]; rfl) ?_
 with_reducible refine (HC1.out _ hB_1).mono ?_
 rintro e w4 ⟨rfl, hb_9⟩
 refine ⟨_, rfl, ?_⟩
 have hB_9 := belowS hHeld.2.2.2 hb_9
 refine hK.out _ _ ⟨(cell_b t0 hB_9), (cell_b t1 hB_9), (cell_b c1 hB_9), hB_9⟩ (fun hHeld => ?_)
 clear hK K
 refine norm_ (a' := ?_) ?_ ?_
 rotate_left
 ·show Act.put _ (some 17) _ = _
  simp only [pmsP]
  rfl
 refine pure_ (i := 10) (N := some 18) (v := ?_) (a' := ?_) pm11 rfl rfl (by kernel_rfl) (fun _ _ _ h => h) (Or.inl ⟨by rfl, ?_⟩) ?_ ?_
 rotate_left
 ·intro w'
  go_simp
  with_reducible rfl
 rotate_left
 ·simp only [pmsP]
  rfl
 refine pure_ (i := 11) (N := some 19) (v := ?_) (a' := ?_) pm12 rfl rfl (by kernel_rfl) (fun _ _ _ h => h) (Or.inl ⟨by rfl, ?_⟩) ?_ ?_
 rotate_left
 ·intro w'
  go_simp
  with_reducible rfl
 rotate_left
 ·simp only [pmsP]
  rfl
 refine pure_ (i := 12) (N := some 20) (v := ?_) (a' := ?_) pm13 rfl rfl (by kernel_rfl) (fun _ _ _ h => h) (Or.inl ⟨by rfl, ?_⟩) ?_ ?_
 rotate_left
 ·intro w'
  go_simp
  with_reducible rfl
 rotate_left
 ·simp only [pmsP]
  rfl
 refine pure_ (i := 13) (N := some 21) (v := ?_) (a' := ?_) pm14 rfl rfl (by kernel_rfl) (fun _ _ _ h => h) (Or.inl ⟨by rfl, ?_⟩) ?_ ?_
 rotate_left
 ·intro w'
  go_simp
  with_reducible rfl
 rotate_left
 ·simp only [pmsP]
  rfl
 refine pure_ (i := 14) (N := some 22) (v := ?_) (a' := ?_) pm15 rfl rfl (by kernel_rfl) (fun _ _ _ h => h) (Or.inl ⟨by rfl, ?_⟩) ?_ ?_
 rotate_left
 ·intro w'
  go_simp
  with_reducible rfl
 rotate_left
 ·simp only [pmsP]
  rfl
 refine take_ (i := 15) (N := some 23) (v := ?_) (a' := ?_) pm16 rfl rfl (by kernel_rfl) (fun _ _ _ h => h) (Or.inl ⟨by rfl, ?_⟩) hHeld ?_ ?_
 rotate_left
 ·rintro w' ⟨s0, s1, s2, s3⟩
  go_simp
  with_reducible rfl
 rotate_left
 ·simp only [pmsP]
  rfl
 refine pure_ (i := 16) (N := some 24) (v := ?_) (a' := ?_) pm17 rfl rfl (by kernel_rfl) (fun _ _ _ h => h) (Or.inl ⟨by rfl, ?_⟩) ?_ ?_
 rotate_left
 ·intro w'
  go_simp
  with_reducible rfl
 rotate_left
 ·simp only [pmsP]
  rfl
 refine pure_ (i := 17) (N := some 25) (v := ?_) (a' := ?_) pm18 rfl rfl (by kernel_rfl) (fun _ _ _ h => h) (Or.inl ⟨by rfl, ?_⟩) ?_ ?_
 rotate_left
 ·intro w'
  go_simp
  with_reducible rfl
 rotate_left
 ·simp only [pmsP]
  rfl
 refine pure_ (i := 18) (N := some 26) (v := ?_) (a' := ?_) pm19 rfl rfl (by kernel_rfl) (fun _ _ _ h => h) (Or.inl ⟨by rfl, ?_⟩) ?_ ?_
 rotate_left
 ·intro w'
  go_simp
  with_reducible rfl
 rotate_left
 ·simp only [pmsP]
  rfl
 refine done_ (by kernel_rfl) ?_
 have HST2 := Aside0.mk (HST.out.below hHeld.2.2.2 hbs (by omega))
 have hszE := hHeld.2.2.2.size
 obtain ⟨t0, ft0⟩ := HST2.out.box HPT.out.2 (by omega) (by omega) 0 (.int .i64 t.f0) rfl
 obtain ⟨t1, ft1⟩ := HST2.out.box HPT.out.2 (by omega) (by omega) 1 (.int .i64 t.f1) rfl
 obtain ⟨p2, fp2⟩ := HST2.out.box HPT.out.1 (by omega) (by omega) 2 (.int .i64 arm) rfl
 obtain ⟨c0, f0⟩ := HST2.out.cell 0 (.slice Aa s.arms.length ca) rfl
 obtain ⟨c1, f1⟩ := HST2.out.cell 1 (.slice At s.tiles.length ct) rfl
 obtain ⟨c2, f2⟩ := HST2.out.cell 2 (.int .i64 s.sp) rfl
 obtain ⟨c3, f3⟩ := HST2.out.cell 3 (.bool s.w0) rfl
 obtain ⟨c4, f4⟩ := HST2.out.cell 4 (.bool s.w1) rfl
 clear HC1 HCC hHeld
 by_cases he : s.tiles = []
 ·have hl0b : ((s.tiles.length : Int) == 0) = true := by rw [beq_iff_eq]; simp [he]
  have HE := Aside0.mk he
  clear he
  by_cases ha : arm = 0
  ·have hab : (arm == 0) = true := by rw [beq_iff_eq]; exact ha
   have HA := Aside0.mk ha
   clear ha
   have c1A : ∀ o, (w4.alloc o).cell? ⟨g, 1, none⟩ = some (.slice At s.tiles.length ct) := fun o => cell_b c1 (belowA (Below.refl _ _) o)
   have f1A : ∀ o, (w4.alloc o).frozen? ⟨g, 1, none⟩ = false := fun o => froz_b HST2.out.G (belowA (Below.refl _ _) o) 1
   go_wp2
   have hS8 := HST2.out.tiles_new hgl hbase (by omega) t
   have hz8 : w4.heap.size ≤ ((w4.alloc (.cells #[.int .i64 t.f0, .int .i64 t.f1] 59)).setCell ⟨g, 1, none⟩ (.slice (some ⟨w4.heap.size, 0, none⟩) 1 1)).heap.size := by simp [World.setCell]
   generalize (w4.alloc (.cells #[.int .i64 t.f0, .int .i64 t.f1] 59)).setCell ⟨g, 1, none⟩ (.slice (some ⟨w4.heap.size, 0, none⟩) 1 1) = w8 at hS8 hz8 ⊢
   clear t0 ft0 t1 ft1 p2 fp2 c0 f0 c1 f1 c2 f2 c3 f3 c4 f4 c1A f1A
   obtain ⟨t0, ft0⟩ := hS8.box HPT.out.2 (by omega) (by omega) 0 (.int .i64 t.f0) rfl
   obtain ⟨t1, ft1⟩ := hS8.box HPT.out.2 (by omega) (by omega) 1 (.int .i64 t.f1) rfl
   obtain ⟨c0, f0⟩ := hS8.cell 0 (.slice Aa s.arms.length ca) rfl
   have HS8 := Aside0.mk hS8
   clear hS8
   refine start_ (n := 15) (S := fun w' => w'.cell? ⟨W.heap.size + 1, 0, none⟩ = some (.int .i64 t.f0) ∧ w'.cell? ⟨W.heap.size + 1, 1, none⟩ = some (.int .i64 t.f1) ∧ Below w8.heap.size w8 w') (ds := [14]) pm20 (by kernel_rfl) rfl rfl ⟨(cell_b t0 (belowD (Below.refl _ _))), (cell_b t1 (belowD (Below.refl _ _))), (belowD (Below.refl _ _))⟩ (fun hHeld => ?_)
   refine pure_ (i := 0) (N := some 41) (v := ?_) (a' := ?_) pm21 rfl rfl (by kernel_rfl) (fun _ _ _ h => h) (Or.inl ⟨by rfl, ?_⟩) ?_ ?_
   rotate_left
   ·intro w'
    go_simp
    with_reducible rfl
   rotate_left
   ·simp only [pmsP]
    rfl
   refine pure_ (i := 1) (N := some 42) (v := ?_) (a' := ?_) pm22 rfl rfl (by kernel_rfl) (fun _ _ _ h => h) (Or.inl ⟨by rfl, ?_⟩) ?_ ?_
   rotate_left
   ·intro w'
    go_simp
    with_reducible rfl
   rotate_left
   ·simp only [pmsP]
    rfl
   refine pure_ (i := 6) (N := some 47) (v := ?_) (a' := ?_) pm23 rfl rfl (by kernel_rfl) (fun _ _ _ h => h) (Or.inl ⟨by rfl, ?_⟩) ?_ ?_
   rotate_left
   ·intro w'
    go_simp
    with_reducible rfl
   rotate_left
   ·simp only [pmsP]
    rfl
   refine take_ (i := 2) (N := some 43) (v := ?_) (a' := ?_) pm24 rfl rfl (by kernel_rfl) (fun _ _ _ h => h) (Or.inl ⟨by rfl, ?_⟩) hHeld ?_ ?_
   rotate_left
   ·rintro w' ⟨s0, s1, s2⟩
    go_simp
    with_reducible rfl
   rotate_left
   ·simp only [pmsP]
    rfl
   refine take_ (i := 3) (N := some 44) (v := ?_) (a' := ?_) pm25 rfl rfl (by kernel_rfl) (fun _ _ _ h => h) (Or.inl ⟨by rfl, ?_⟩) hHeld ?_ ?_
   rotate_left
   ·rintro w' ⟨s0, s1, s2⟩
    go_simp
    with_reducible rfl
   rotate_left
   ·simp only [pmsP]
    rfl
   refine take_ (i := 7) (N := some 48) (v := ?_) (a' := ?_) pm26 rfl rfl (by kernel_rfl) (fun _ _ _ h => h) (Or.inl ⟨by rfl, ?_⟩) hHeld ?_ ?_
   rotate_left
   ·rintro w' ⟨s0, s1, s2⟩
    go_simp
    with_reducible rfl
   rotate_left
   ·simp only [pmsP]
    rfl
   refine take_ (i := 8) (N := some 49) (v := ?_) (a' := ?_) pm27 rfl rfl (by kernel_rfl) (fun _ _ _ h => h) (Or.inl ⟨by rfl, ?_⟩) hHeld ?_ ?_
   rotate_left
   ·rintro w' ⟨s0, s1, s2⟩
    go_simp
    with_reducible rfl
   rotate_left
   ·simp only [pmsP]
    rfl
   refine one_ (i := 4) (N := some 45) pm28 rfl rfl (by kernel_rfl) (by decide) (fun K hK => ?_)
   refine goes_ Try.func104 (by kernel_rfl) rfl #[.agg #[.int .i64 t.f0, .int .i64 t.f1]] (by rfl) rfl rfl (by simp only [List.map_toArray, List.map_cons, List.map_nil]; rfl) ?_
   with_reducible refine (impl_isDouble.calls t.f0 t.f1 (dblB t) _ rfl).mono ?_
   rintro e w5 ⟨rfl, hb_4⟩
   refine ⟨_, rfl, ?_⟩
   have hB_4 := belowS hHeld.2.2 hb_4
   refine hK.out _ _ ⟨(cell_b t0 hB_4), (cell_b t1 hB_4), hB_4⟩ (fun hHeld => ?_)
   clear hK K
   refine norm_ (a' := ?_) ?_ ?_
   rotate_left
   ·show Act.put _ (some 45) _ = _
    simp only [pmsP]
    rfl
   refine pure_ (i := 5) (N := some 46) (v := ?_) (a' := ?_) pm29 rfl rfl (by kernel_rfl) (fun _ _ _ h => h) (Or.inl ⟨by rfl, ?_⟩) ?_ ?_
   rotate_left
   ·intro w'
    go_simp
    with_reducible rfl
   rotate_left
   ·simp only [pmsP]
    rfl
   refine one_ (i := 9) (N := some 50) pm30 rfl rfl (by kernel_rfl) (by decide) (fun K hK => ?_)
   refine goes_ Try.func104 (by kernel_rfl) rfl #[.agg #[.int .i64 t.f0, .int .i64 t.f1]] (by rfl) rfl rfl (by simp only [List.map_toArray, List.map_cons, List.map_nil]; rfl) ?_
   with_reducible refine (impl_isDouble.calls t.f0 t.f1 (dblB t) _ rfl).mono ?_
   rintro e w6 ⟨rfl, hb_9⟩
   refine ⟨_, rfl, ?_⟩
   have hB_9 := belowS hHeld.2.2 hb_9
   refine hK.out _ _ ⟨(cell_b t0 hB_9), (cell_b t1 hB_9), hB_9⟩ (fun hHeld => ?_)
   clear hK K
   refine norm_ (a' := ?_) ?_ ?_
   rotate_left
   ·show Act.put _ (some 50) _ = _
    simp only [pmsP]
    rfl
   refine pure_ (i := 10) (N := some 51) (v := ?_) (a' := ?_) pm31 rfl rfl (by kernel_rfl) (fun _ _ _ h => h) (Or.inl ⟨by rfl, ?_⟩) ?_ ?_
   rotate_left
   ·intro w'
    go_simp
    with_reducible rfl
   rotate_left
   ·simp only [pmsP]
    rfl
   refine one_ (i := 11) (N := some 52) pm32 rfl rfl (by kernel_rfl) (by decide) (fun K hK => ?_)
   refine value_ (w1 := ?_) (v := ?_) (by rfl) rfl ?_ ?_
   rotate_left 2
   ·go_simp
    constructor
    ·rfl
    ·rfl
   refine hK.out _ _ ⟨(cell_b t0 (belowA hHeld.2.2 _)), (cell_b t1 (belowA hHeld.2.2 _)), (belowA hHeld.2.2 _)⟩ (fun hHeld => ?_)
   clear hK K
   refine norm_ (a' := ?_) ?_ ?_
   rotate_left
   ·show Act.put _ (some 52) _ = _
    simp only [pmsP]
    rfl
   refine pure_ (i := 12) (N := some 53) (v := ?_) (a' := ?_) pm33 rfl rfl (by kernel_rfl) (fun _ _ _ h => h) (Or.inl ⟨by rfl, ?_⟩) ?_ ?_
   rotate_left
   ·intro w'
    go_simp
    with_reducible rfl
   rotate_left
   ·simp only [pmsP]
    rfl
   refine pure_ (i := 13) (N := some 54) (v := ?_) (a' := ?_) pm34 rfl rfl (by kernel_rfl) (fun _ _ _ h => h) (Or.inl ⟨by rfl, ?_⟩) ?_ ?_
   rotate_left
   ·intro w'
    go_simp
    with_reducible rfl
   rotate_left
   ·simp only [pmsP]
    rfl
   refine last_ (i := 14) (N := none) pm35 rfl rfl (by kernel_rfl) (by decide) (fun K hK => ?_)
   have c0' := cell_b c0 hHeld.2.2
   have f0' := froz_b HS8.out.G hHeld.2.2 0
   refine skip_ (w1 := ?_) (by rfl) rfl ?_ ?_
   rotate_left
   ·go_simp
    rfl
   refine hK.out _ _ ?_
   clear hK K
   refine done_ (by kernel_rfl) ?_
   have hS9 := (HS8.out.below hB_9 hbs (by omega)).arms_new hgl hbase (by omega) ⟨t.f0, dblB t, false⟩ ⟨t.f1, dblB t, false⟩
   generalize (w6.alloc (.cells #[.int .i64 t.f0, .bool (dblB t), .bool false, .int .i64 t.f1, .bool (dblB t), .bool false] 93)).setCell ⟨g, 0, none⟩ (.slice (some ⟨w6.heap.size, 0, none⟩) 2 2) = w11 at hS9 ⊢
   clear t0 ft0 t1 ft1 c0 f0 c0' f0' hHeld
   obtain ⟨t0, ft0⟩ := hS9.box HPT.out.2 (by omega) (by omega) 0 (.int .i64 t.f0) rfl
   obtain ⟨t1, ft1⟩ := hS9.box HPT.out.2 (by omega) (by omega) 1 (.int .i64 t.f1) rfl
   obtain ⟨c2, f2⟩ := hS9.cell 2 (.int .i64 s.sp) rfl
   obtain ⟨c3, f3⟩ := hS9.cell 3 (.bool s.w0) rfl
   obtain ⟨c4, f4⟩ := hS9.cell 4 (.bool s.w1) rfl
   have HS9 := Aside0.mk hS9
   clear hS9
   by_cases hd : dblB t = true
   ·have HP := Aside0.mk (show playS s t arm = some ⟨[⟨t.f0, dblB t, false⟩, ⟨t.f1, dblB t, false⟩], [t], t.f0, true, true⟩ by unfold playS; rw [if_pos HGD.out, if_pos HE.out, if_pos HA.out]; unfold firstS; rw [if_pos hd, if_pos hd, if_pos hd])
    go_wp2_with (go_at_call 104; refine (impl_isDouble.calls t.f0 t.f1 true _ (congrArg some hd)).mono ?_; rintro e w12 ⟨rfl, hb12⟩; have t0' := cell_b t0 hb12; have t1' := cell_b t1 hb12; have c2' := cell_b c2 hb12; have c3' := cell_b c3 hb12; have c4' := cell_b c4 hb12; have f2' := froz_b HS9.out.G hb12 2; have f3' := froz_b HS9.out.G hb12 3; have f4' := froz_b HS9.out.G hb12 4; have HB12 := Aside0.mk hb12; clear hb12)
    obtain rfl : o = _ := HO.out.symm.trans HP.out
    go_ret
    have hF := (((HS9.out.below HB12.out hbs (by omega)).set_rest hgl hbase 0 (.int .i64 t.f0)).set_rest hgl hbase 1 (.bool true)).set_rest hgl hbase 2 (.bool true)
    exact ⟨rfl, St.done (s := ⟨_, _, _, _, _⟩) hF, hF.BL⟩
   ·have hdf : dblB t = false := by simpa using hd
    have HP := Aside0.mk (show playS s t arm = some ⟨[⟨t.f0, dblB t, false⟩, ⟨t.f1, dblB t, false⟩], [t], s.sp, s.w0, s.w1⟩ by unfold playS; rw [if_pos HGD.out, if_pos HE.out, if_pos HA.out]; unfold firstS; rw [if_neg hd, if_neg hd, if_neg hd])
    go_wp2_with (go_at_call 104; refine (impl_isDouble.calls t.f0 t.f1 false _ (congrArg some hdf)).mono ?_; rintro e w12 ⟨rfl, hb12⟩; have HB12 := Aside0.mk hb12; clear hb12)
    obtain rfl : o = _ := HO.out.symm.trans HP.out
    go_ret
    have hF := HS9.out.below HB12.out hbs (by omega)
    exact ⟨rfl, St.done (s := ⟨_, _, _, _, _⟩) hF, hF.BL⟩
  ·have HP := Aside0.mk (show playS s t arm = none by unfold playS; rw [if_pos HGD.out, if_pos HE.out, if_neg ha])
   have hab : (arm == 0) = false := by rw [beq_eq_false_iff_ne]; exact ha
   clear ha
   go_wp2
   obtain rfl : o = none := HO.out.symm.trans HP.out
   go_ret
   exact ⟨rfl, HST2.out.done, HST2.out.BL⟩
 have hl0b : ((s.tiles.length : Int) == 0) = false := by rw [beq_eq_false_iff_ne]; intro h; exact he (List.length_eq_zero_iff.1 (by omega))
 have HE := Aside0.mk he
 clear he
 go_wp2
 have hlenA := hlen.1
 have HW := within_f arm s.arms.length hlenA
 by_cases hin : 0 ≤ arm ∧ arm < s.arms.length
 rotate_left
 ·have HP := Aside0.mk (show playS s t arm = none by unfold playS; rw [if_pos HGD.out, if_neg HE.out, if_neg hin])
  rw [decide_eq_false hin] at HW
  have HST := HST2
  clear HST2
  refine start_ (n := 24) (S := fun w' => w'.cell? ⟨W.heap.size, 2, none⟩ = some (.int .i64 arm) ∧ w'.cell? ⟨g, 0, none⟩ = some (.slice Aa s.arms.length ca) ∧ Below w4.heap.size w4 w') (ds := []) pm36 (by kernel_rfl) rfl rfl ⟨(cell_b p2 (belowD (Below.refl _ _))), (cell_b c0 (belowD (Below.refl _ _))), (belowD (Below.refl _ _))⟩ (fun hHeld => ?_)
  refine pure_ (i := 0) (N := some 66) (v := ?_) (a' := ?_) pm37 rfl rfl (by kernel_rfl) (fun _ _ _ h => h) (Or.inl ⟨by rfl, ?_⟩) ?_ ?_
  rotate_left
  ·intro w'
   go_simp
   with_reducible rfl
  rotate_left
  ·simp only [pmsP]
   rfl
  refine pure_ (i := 2) (N := some 68) (v := ?_) (a' := ?_) pm38 rfl rfl (by kernel_rfl) (fun _ _ _ h => h) (Or.inl ⟨by rfl, ?_⟩) ?_ ?_
  rotate_left
  ·intro w'
   go_simp
   with_reducible rfl
  rotate_left
  ·simp only [pmsP]
   rfl
  refine pure_ (i := 3) (N := some 69) (v := ?_) (a' := ?_) pm39 rfl rfl (by kernel_rfl) (fun _ _ _ h => h) (Or.inl ⟨by rfl, ?_⟩) ?_ ?_
  rotate_left
  ·intro w'
   go_simp
   with_reducible rfl
  rotate_left
  ·simp only [pmsP]
   rfl
  refine pure_ (i := 4) (N := some 70) (v := ?_) (a' := ?_) pm40 rfl rfl (by kernel_rfl) (fun _ _ _ h => h) (Or.inl ⟨by rfl, ?_⟩) ?_ ?_
  rotate_left
  ·intro w'
   go_simp
   with_reducible rfl
  rotate_left
  ·simp only [pmsP]
   rfl
  refine take_ (i := 1) (N := some 67) (v := ?_) (a' := ?_) pm41 rfl rfl (by kernel_rfl) (fun _ _ _ h => h) (Or.inl ⟨by rfl, ?_⟩) hHeld ?_ ?_
  rotate_left
  ·rintro w' ⟨s0, s1, s2⟩
   go_simp
   with_reducible rfl
  rotate_left
  ·simp only [pmsP]
   rfl
  refine take_ (i := 5) (N := some 71) (v := ?_) (a' := ?_) pm42 rfl rfl (by kernel_rfl) (fun _ _ _ h => h) (Or.inl ⟨by rfl, ?_⟩) hHeld ?_ ?_
  rotate_left
  ·rintro w' ⟨s0, s1, s2⟩
   go_simp
   with_reducible rfl
  rotate_left
  ·simp only [pmsP]
   rfl
  refine pure_ (i := 6) (N := some 72) (v := ?_) (a' := ?_) pm43 rfl rfl (by kernel_rfl) (fun _ _ _ h => h) (Or.inl ⟨by rfl, ?_⟩) ?_ ?_
  rotate_left
  ·intro w'
   go_simp
   with_reducible rfl
  rotate_left
  ·simp only [pmsP]
   rfl
  refine pure_ (i := 7) (N := some 73) (v := ?_) (a' := ?_) pm44 rfl rfl (by kernel_rfl) (fun _ _ _ h => h) (Or.inl ⟨by rfl, ?_⟩) ?_ ?_
  rotate_left
  ·intro w'
   go_simp
   with_reducible rfl
  rotate_left
  ·simp only [pmsP]
   rfl
  refine one_ (i := 8) (N := some 74) pm45 rfl rfl (by kernel_rfl) (by decide) (fun K hK => ?_)
  refine goes_ Try.func68 (by kernel_rfl) rfl #[.int .i64 arm, .int .i64 0, .int .i64 (wrap64 ((s.arms.length : Int) - 1))] (by rfl) rfl rfl (by simp only [List.map_toArray, List.map_cons, List.map_nil]; rfl) ?_
  with_reducible refine (impl_within.calls arm 0 (wrap64 ((s.arms.length : Int) - 1)) _ _ HW).mono ?_
  rintro e w5 ⟨rfl, hb_8⟩
  refine ⟨_, rfl, ?_⟩
  have hB_8 := belowS hHeld.2.2 hb_8.below
  refine hK.out _ _ ⟨(cell_b p2 hB_8), (cell_b c0 hB_8), hB_8⟩ (fun hHeld => ?_)
  clear hK K
  refine norm_ (a' := ?_) ?_ ?_
  rotate_left
  ·show Act.put _ (some 74) _ = _
   simp only [pmsP]
   rfl
  refine pure_ (i := 9) (N := some 75) (v := ?_) (a' := ?_) pm46 rfl rfl (by kernel_rfl) (fun _ _ _ h => h) (Or.inl ⟨by rfl, ?_⟩) ?_ ?_
  rotate_left
  ·intro w'
   go_simp
   with_reducible rfl
  rotate_left
  ·simp only [pmsP]
   rfl
  refine pure_ (i := 10) (N := some 76) (v := ?_) (a' := ?_) pm47 rfl rfl (by kernel_rfl) (fun _ _ _ h => h) (Or.inl ⟨by rfl, ?_⟩) ?_ ?_
  rotate_left
  ·intro w'
   go_simp
   with_reducible rfl
  rotate_left
  ·simp only [pmsP]
   rfl
  refine pure_ (i := 11) (N := some 77) (v := undef) (a' := ?_) pm48 rfl rfl (by kernel_rfl) (fun _ _ _ h => h) (Or.inr ⟨by rfl, rfl⟩) ?_ ?_
  rotate_left
  ·simp only [pmsP]
   rfl
  refine pure_ (i := 12) (N := some 78) (v := undef) (a' := ?_) pm49 rfl rfl (by kernel_rfl) (fun _ _ _ h => h) (Or.inr ⟨by rfl, rfl⟩) ?_ ?_
  rotate_left
  ·simp only [pmsP]
   rfl
  refine pure_ (i := 13) (N := some 79) (v := undef) (a' := ?_) pm50 rfl rfl (by kernel_rfl) (fun _ _ _ h => h) (Or.inr ⟨by rfl, rfl⟩) ?_ ?_
  rotate_left
  ·simp only [pmsP]
   rfl
  refine pure_ (i := 14) (N := some 80) (v := undef) (a' := ?_) pm51 rfl rfl (by kernel_rfl) (fun _ _ _ h => h) (Or.inr ⟨by rfl, rfl⟩) ?_ ?_
  rotate_left
  ·simp only [pmsP]
   rfl
  refine pure_ (i := 15) (N := some 81) (v := undef) (a' := ?_) pm52 rfl rfl (by kernel_rfl) (fun _ _ _ h => h) (Or.inr ⟨by rfl, rfl⟩) ?_ ?_
  rotate_left
  ·simp only [pmsP]
   rfl
  refine pure_ (i := 16) (N := some 82) (v := undef) (a' := ?_) pm53 rfl rfl (by kernel_rfl) (fun _ _ _ h => h) (Or.inr ⟨by rfl, rfl⟩) ?_ ?_
  rotate_left
  ·simp only [pmsP]
   rfl
  refine pure_ (i := 17) (N := some 83) (v := undef) (a' := ?_) pm54 rfl rfl (by kernel_rfl) (fun _ _ _ h => h) (Or.inr ⟨by rfl, rfl⟩) ?_ ?_
  rotate_left
  ·simp only [pmsP]
   rfl
  refine pure_ (i := 18) (N := some 84) (v := undef) (a' := ?_) pm55 rfl rfl (by kernel_rfl) (fun _ _ _ h => h) (Or.inr ⟨by rfl, rfl⟩) ?_ ?_
  rotate_left
  ·simp only [pmsP]
   rfl
  refine pure_ (i := 19) (N := some 85) (v := undef) (a' := ?_) pm56 rfl rfl (by kernel_rfl) (fun _ _ _ h => h) (Or.inr ⟨by rfl, rfl⟩) ?_ ?_
  rotate_left
  ·simp only [pmsP]
   rfl
  refine pure_ (i := 20) (N := some 86) (v := undef) (a' := ?_) pm57 rfl rfl (by kernel_rfl) (fun _ _ _ h => h) (Or.inr ⟨by rfl, rfl⟩) ?_ ?_
  rotate_left
  ·simp only [pmsP]
   rfl
  refine pure_ (i := 21) (N := some 87) (v := undef) (a' := ?_) pm58 rfl rfl (by kernel_rfl) (fun _ _ _ h => h) (Or.inr ⟨by rfl, rfl⟩) ?_ ?_
  rotate_left
  ·simp only [pmsP]
   rfl
  refine pure_ (i := 22) (N := some 88) (v := undef) (a' := ?_) pm59 rfl rfl (by kernel_rfl) (fun _ _ _ h => h) (Or.inr ⟨by rfl, rfl⟩) ?_ ?_
  rotate_left
  ·simp only [pmsP]
   rfl
  refine pure_ (i := 23) (N := some 89) (v := ?_) (a' := ?_) pm60 rfl rfl (by kernel_rfl) (fun _ _ _ h => h) (Or.inl ⟨by rfl, ?_⟩) ?_ ?_
  rotate_left
  ·intro w'
   go_simp
   with_reducible rfl
  rotate_left
  ·simp only [pmsP]
   rfl
  refine done_ (by kernel_rfl) ?_
  have HST2 := Aside0.mk (HST.out.below hHeld.2.2 hbs (by omega))
  go_wp2
  obtain rfl : o = none := HO.out.symm.trans HP.out
  go_ret
  exact ⟨rfl, HST2.out.done, HST2.out.BL⟩
 rw [decide_eq_true hin] at HW
 obtain ⟨i, hi⟩ := Int.eq_ofNat_of_zero_le hin.1
 have hil : i < s.arms.length := by omega
 obtain ⟨ga, ca', hva, hgab, hgaok, hlca', hcm, hrow⟩ := rowA_of_R HST2.out.RA (by omega)
 obtain ⟨rfl, _, rfl⟩ := Value.slice.inj hva
 obtain ⟨x, hx⟩ : ∃ x, s.arms[i]? = some x := ⟨_, List.getElem?_eq_getElem hil⟩
 have hrdx : rd_T93 s.arms (i : Int) = x := by
  show s.arms.getD (i : Int).toNat _ = x
  rw [Int.toNat_natCast, List.getD_eq_getElem?_getD, hx]; rfl
 obtain ⟨⟨r0, r1, r2⟩, fr⟩ := rowA_at hrow i x hx
 have HROW := Aside0.mk (And.intro hrow (And.intro hgab (And.intro hgaok hx)))
 have hi0 : (0 : Int) ≤ (i : Int) := Int.natCast_nonneg i
 have hi1 : (i : Int) < (s.arms.length : Int) := by omega
 have HI := Aside0.mk (And.intro hin (And.intro hi hil))
 rw [hi] at p2 HW
 clear hva hin hrow hgab hgaok hi hx hlca'
 by_cases hh : hasB2 x.f0 t = true
 rotate_left
 ·have HP := Aside0.mk (show playS s t arm = none by unfold playS; rw [if_pos HGD.out, if_neg HE.out, if_pos HI.out.1, HI.out.2.1, hrdx, if_neg hh])
  have hhf : hasB2 x.f0 t = false := by simpa using hh
  have HST := HST2
  clear HST2
  refine start_ (n := 24) (S := fun w' => w'.cell? ⟨W.heap.size + 1, 0, none⟩ = some (.int .i64 t.f0) ∧ w'.cell? ⟨W.heap.size + 1, 1, none⟩ = some (.int .i64 t.f1) ∧ w'.cell? ⟨W.heap.size, 2, none⟩ = some (.int .i64 (i : Int)) ∧ w'.cell? ⟨g, 0, none⟩ = some (.slice (some ⟨ga, 0, none⟩) s.arms.length ca) ∧ w'.cell? ⟨ga, i * 3, none⟩ = some (.int .i64 x.f0) ∧ Below w4.heap.size w4 w') (ds := []) pm36 (by kernel_rfl) rfl rfl ⟨(cell_b t0 (belowD (Below.refl _ _))), (cell_b t1 (belowD (Below.refl _ _))), (cell_b p2 (belowD (Below.refl _ _))), (cell_b c0 (belowD (Below.refl _ _))), (cell_b r0 (belowD (Below.refl _ _))), (belowD (Below.refl _ _))⟩ (fun hHeld => ?_)
  refine pure_ (i := 0) (N := some 66) (v := ?_) (a' := ?_) pm37 rfl rfl (by kernel_rfl) (fun _ _ _ h => h) (Or.inl ⟨by rfl, ?_⟩) ?_ ?_
  rotate_left
  ·intro w'
   go_simp
   with_reducible rfl
  rotate_left
  ·simp only [pmsP]
   rfl
  refine pure_ (i := 2) (N := some 68) (v := ?_) (a' := ?_) pm38 rfl rfl (by kernel_rfl) (fun _ _ _ h => h) (Or.inl ⟨by rfl, ?_⟩) ?_ ?_
  rotate_left
  ·intro w'
   go_simp
   with_reducible rfl
  rotate_left
  ·simp only [pmsP]
   rfl
  refine pure_ (i := 3) (N := some 69) (v := ?_) (a' := ?_) pm39 rfl rfl (by kernel_rfl) (fun _ _ _ h => h) (Or.inl ⟨by rfl, ?_⟩) ?_ ?_
  rotate_left
  ·intro w'
   go_simp
   with_reducible rfl
  rotate_left
  ·simp only [pmsP]
   rfl
  refine pure_ (i := 4) (N := some 70) (v := ?_) (a' := ?_) pm40 rfl rfl (by kernel_rfl) (fun _ _ _ h => h) (Or.inl ⟨by rfl, ?_⟩) ?_ ?_
  rotate_left
  ·intro w'
   go_simp
   with_reducible rfl
  rotate_left
  ·simp only [pmsP]
   rfl
  refine take_ (i := 1) (N := some 67) (v := ?_) (a' := ?_) pm41 rfl rfl (by kernel_rfl) (fun _ _ _ h => h) (Or.inl ⟨by rfl, ?_⟩) hHeld ?_ ?_
  rotate_left
  ·rintro w' ⟨s0, s1, s2, s3, s4, s5⟩
   go_simp
   with_reducible rfl
  rotate_left
  ·simp only [pmsP]
   rfl
  refine take_ (i := 5) (N := some 71) (v := ?_) (a' := ?_) pm42 rfl rfl (by kernel_rfl) (fun _ _ _ h => h) (Or.inl ⟨by rfl, ?_⟩) hHeld ?_ ?_
  rotate_left
  ·rintro w' ⟨s0, s1, s2, s3, s4, s5⟩
   go_simp
   with_reducible rfl
  rotate_left
  ·simp only [pmsP]
   rfl
  refine pure_ (i := 6) (N := some 72) (v := ?_) (a' := ?_) pm43 rfl rfl (by kernel_rfl) (fun _ _ _ h => h) (Or.inl ⟨by rfl, ?_⟩) ?_ ?_
  rotate_left
  ·intro w'
   go_simp
   with_reducible rfl
  rotate_left
  ·simp only [pmsP]
   rfl
  refine pure_ (i := 7) (N := some 73) (v := ?_) (a' := ?_) pm44 rfl rfl (by kernel_rfl) (fun _ _ _ h => h) (Or.inl ⟨by rfl, ?_⟩) ?_ ?_
  rotate_left
  ·intro w'
   go_simp
   with_reducible rfl
  rotate_left
  ·simp only [pmsP]
   rfl
  refine one_ (i := 8) (N := some 74) pm45 rfl rfl (by kernel_rfl) (by decide) (fun K hK => ?_)
  refine goes_ Try.func68 (by kernel_rfl) rfl #[.int .i64 (i : Int), .int .i64 0, .int .i64 (wrap64 ((s.arms.length : Int) - 1))] (by rfl) rfl rfl (by simp only [List.map_toArray, List.map_cons, List.map_nil]; rfl) ?_
  with_reducible refine (impl_within.calls (i : Int) 0 (wrap64 ((s.arms.length : Int) - 1)) _ _ HW).mono ?_
  rintro e w5 ⟨rfl, hb_8⟩
  refine ⟨_, rfl, ?_⟩
  have hB_8 := belowS hHeld.2.2.2.2.2 hb_8.below
  refine hK.out _ _ ⟨(cell_b t0 hB_8), (cell_b t1 hB_8), (cell_b p2 hB_8), (cell_b c0 hB_8), (cell_b r0 hB_8), hB_8⟩ (fun hHeld => ?_)
  clear hK K
  refine norm_ (a' := ?_) ?_ ?_
  rotate_left
  ·show Act.put _ (some 74) _ = _
   simp only [pmsP]
   rfl
  refine pure_ (i := 9) (N := some 75) (v := ?_) (a' := ?_) pm46 rfl rfl (by kernel_rfl) (fun _ _ _ h => h) (Or.inl ⟨by rfl, ?_⟩) ?_ ?_
  rotate_left
  ·intro w'
   go_simp
   with_reducible rfl
  rotate_left
  ·simp only [pmsP]
   rfl
  refine pure_ (i := 10) (N := some 76) (v := ?_) (a' := ?_) pm47 rfl rfl (by kernel_rfl) (fun _ _ _ h => h) (Or.inl ⟨by rfl, ?_⟩) ?_ ?_
  rotate_left
  ·intro w'
   go_simp
   with_reducible rfl
  rotate_left
  ·simp only [pmsP]
   rfl
  refine pure_ (i := 12) (N := some 78) (v := ?_) (a' := ?_) pm61 rfl rfl (by kernel_rfl) (fun _ _ _ h => h) (Or.inl ⟨by rfl, ?_⟩) ?_ ?_
  rotate_left
  ·intro w'
   go_simp
   with_reducible rfl
  rotate_left
  ·simp only [pmsP]
   rfl
  refine pure_ (i := 13) (N := some 79) (v := ?_) (a' := ?_) pm62 rfl rfl (by kernel_rfl) (fun _ _ _ h => h) (Or.inl ⟨by rfl, ?_⟩) ?_ ?_
  rotate_left
  ·intro w'
   go_simp
   with_reducible rfl
  rotate_left
  ·simp only [pmsP]
   rfl
  refine pure_ (i := 14) (N := some 80) (v := ?_) (a' := ?_) pm63 rfl rfl (by kernel_rfl) (fun _ _ _ h => h) (Or.inl ⟨by rfl, ?_⟩) ?_ ?_
  rotate_left
  ·intro w'
   go_simp
   with_reducible rfl
  rotate_left
  ·simp only [pmsP]
   rfl
  refine pure_ (i := 16) (N := some 82) (v := ?_) (a' := ?_) pm64 rfl rfl (by kernel_rfl) (fun _ _ _ h => h) (Or.inl ⟨by rfl, ?_⟩) ?_ ?_
  rotate_left
  ·intro w'
   go_simp
   with_reducible rfl
  rotate_left
  ·simp only [pmsP]
   rfl
  refine take_ (i := 11) (N := some 77) (v := ?_) (a' := ?_) pm65 rfl rfl (by kernel_rfl) (fun _ _ _ h => h) (Or.inl ⟨by rfl, ?_⟩) hHeld ?_ ?_
  rotate_left
  ·rintro w' ⟨s0, s1, s2, s3, s4, s5⟩
   go_simp
   with_reducible rfl
  rotate_left
  ·simp only [pmsP]
   rfl
  refine take_ (i := 15) (N := some 81) (v := ?_) (a' := ?_) pm53 rfl rfl (by kernel_rfl) (fun _ _ _ h => h) (Or.inl ⟨by rfl, ?_⟩) hHeld ?_ ?_
  rotate_left
  ·rintro w' ⟨s0, s1, s2, s3, s4, s5⟩
   go_simp
   with_reducible rfl
  rotate_left
  ·simp only [pmsP]
   rfl
  refine take_ (i := 17) (N := some 83) (v := ?_) (a' := ?_) pm54 rfl rfl (by kernel_rfl) (fun _ _ _ h => h) (Or.inl ⟨by rfl, ?_⟩) hHeld ?_ ?_
  rotate_left
  ·rintro w' ⟨s0, s1, s2, s3, s4, s5⟩
   go_simp
   with_reducible rfl
  rotate_left
  ·simp only [pmsP]
   rfl
  refine pure_ (i := 18) (N := some 84) (v := ?_) (a' := ?_) pm55 rfl rfl (by kernel_rfl) (fun _ _ _ h => h) (Or.inl ⟨by rfl, ?_⟩) ?_ ?_
  rotate_left
  ·intro w'
   go_simp
   with_reducible rfl
  rotate_left
  ·simp only [pmsP]
   rfl
  refine pure_ (i := 19) (N := some 85) (v := ?_) (a' := ?_) pm56 rfl rfl (by kernel_rfl) (fun _ _ _ h => h) (Or.inl ⟨by rfl, ?_⟩) ?_ ?_
  rotate_left
  ·intro w'
   go_simp
   with_reducible rfl
  rotate_left
  ·simp only [pmsP]
   rfl
  refine take_ (i := 20) (N := some 86) (v := ?_) (a' := ?_) pm57 rfl rfl (by kernel_rfl) (fun _ _ _ h => h) (Or.inl ⟨by rfl, ?_⟩) hHeld ?_ ?_
  rotate_left
  ·rintro w' ⟨s0, s1, s2, s3, s4, s5⟩
   go_simp
   with_reducible rfl
  rotate_left
  ·simp only [pmsP]
   rfl
  refine one_ (i := 21) (N := some 87) pm58 rfl rfl (by kernel_rfl) (by decide) (fun K hK => ?_)
  refine goes_ Try.func105 (by kernel_rfl) rfl #[.agg #[.int .i64 t.f0, .int .i64 t.f1], .int .i64 x.f0] (by rfl) rfl rfl (by simp only [List.map_toArray, List.map_cons, List.map_nil]; rfl) ?_
  with_reducible refine (impl_Tile_has.calls t.f0 t.f1 x.f0 _ _ ((has_f t x.f0).trans (congrArg some hhf))).mono ?_
  rintro e w6 ⟨rfl, hb_21⟩
  refine ⟨_, rfl, ?_⟩
  have hB_21 := belowS hHeld.2.2.2.2.2 hb_21
  refine hK.out _ _ ⟨(cell_b t0 hB_21), (cell_b t1 hB_21), (cell_b p2 hB_21), (cell_b c0 hB_21), (cell_b r0 hB_21), hB_21⟩ (fun hHeld => ?_)
  clear hK K
  refine norm_ (a' := ?_) ?_ ?_
  rotate_left
  ·show Act.put _ (some 87) _ = _
   simp only [pmsP]
   rfl
  refine pure_ (i := 22) (N := some 88) (v := ?_) (a' := ?_) pm59 rfl rfl (by kernel_rfl) (fun _ _ _ h => h) (Or.inl ⟨by rfl, ?_⟩) ?_ ?_
  rotate_left
  ·intro w'
   go_simp
   with_reducible rfl
  rotate_left
  ·simp only [pmsP]
   rfl
  refine pure_ (i := 23) (N := some 89) (v := ?_) (a' := ?_) pm60 rfl rfl (by kernel_rfl) (fun _ _ _ h => h) (Or.inl ⟨by rfl, ?_⟩) ?_ ?_
  rotate_left
  ·intro w'
   go_simp
   with_reducible rfl
  rotate_left
  ·simp only [pmsP]
   rfl
  refine done_ (by kernel_rfl) ?_
  have HST2 := Aside0.mk (HST.out.below hHeld.2.2.2.2.2 hbs (by omega))
  go_wp2
  obtain rfl : o = none := HO.out.symm.trans HP.out
  go_ret
  exact ⟨rfl, HST2.out.done, HST2.out.BL⟩
 refine start_ (n := 24) (S := fun w' => w'.cell? ⟨W.heap.size + 1, 0, none⟩ = some (.int .i64 t.f0) ∧ w'.cell? ⟨W.heap.size + 1, 1, none⟩ = some (.int .i64 t.f1) ∧ w'.cell? ⟨W.heap.size, 2, none⟩ = some (.int .i64 (i : Int)) ∧ w'.cell? ⟨g, 0, none⟩ = some (.slice (some ⟨ga, 0, none⟩) s.arms.length ca) ∧ w'.cell? ⟨ga, i * 3, none⟩ = some (.int .i64 x.f0) ∧ Below w4.heap.size w4 w') (ds := []) pm36 (by kernel_rfl) rfl rfl ⟨(cell_b t0 (belowD (Below.refl _ _))), (cell_b t1 (belowD (Below.refl _ _))), (cell_b p2 (belowD (Below.refl _ _))), (cell_b c0 (belowD (Below.refl _ _))), (cell_b r0 (belowD (Below.refl _ _))), (belowD (Below.refl _ _))⟩ (fun hHeld => ?_)
 refine pure_ (i := 0) (N := some 66) (v := ?_) (a' := ?_) pm37 rfl rfl (by kernel_rfl) (fun _ _ _ h => h) (Or.inl ⟨by rfl, ?_⟩) ?_ ?_
 rotate_left
 ·intro w'
  go_simp
  with_reducible rfl
 rotate_left
 ·simp only [pmsP]
  rfl
 refine pure_ (i := 2) (N := some 68) (v := ?_) (a' := ?_) pm38 rfl rfl (by kernel_rfl) (fun _ _ _ h => h) (Or.inl ⟨by rfl, ?_⟩) ?_ ?_
 rotate_left
 ·intro w'
  go_simp
  with_reducible rfl
 rotate_left
 ·simp only [pmsP]
  rfl
 refine pure_ (i := 3) (N := some 69) (v := ?_) (a' := ?_) pm39 rfl rfl (by kernel_rfl) (fun _ _ _ h => h) (Or.inl ⟨by rfl, ?_⟩) ?_ ?_
 rotate_left
 ·intro w'
  go_simp
  with_reducible rfl
 rotate_left
 ·simp only [pmsP]
  rfl
 refine pure_ (i := 4) (N := some 70) (v := ?_) (a' := ?_) pm40 rfl rfl (by kernel_rfl) (fun _ _ _ h => h) (Or.inl ⟨by rfl, ?_⟩) ?_ ?_
 rotate_left
 ·intro w'
  go_simp
  with_reducible rfl
 rotate_left
 ·simp only [pmsP]
  rfl
 refine take_ (i := 1) (N := some 67) (v := ?_) (a' := ?_) pm41 rfl rfl (by kernel_rfl) (fun _ _ _ h => h) (Or.inl ⟨by rfl, ?_⟩) hHeld ?_ ?_
 rotate_left
 ·rintro w' ⟨s0, s1, s2, s3, s4, s5⟩
  go_simp
  with_reducible rfl
 rotate_left
 ·simp only [pmsP]
  rfl
 refine take_ (i := 5) (N := some 71) (v := ?_) (a' := ?_) pm42 rfl rfl (by kernel_rfl) (fun _ _ _ h => h) (Or.inl ⟨by rfl, ?_⟩) hHeld ?_ ?_
 rotate_left
 ·rintro w' ⟨s0, s1, s2, s3, s4, s5⟩
  go_simp
  with_reducible rfl
 rotate_left
 ·simp only [pmsP]
  rfl
 refine pure_ (i := 6) (N := some 72) (v := ?_) (a' := ?_) pm43 rfl rfl (by kernel_rfl) (fun _ _ _ h => h) (Or.inl ⟨by rfl, ?_⟩) ?_ ?_
 rotate_left
 ·intro w'
  go_simp
  with_reducible rfl
 rotate_left
 ·simp only [pmsP]
  rfl
 refine pure_ (i := 7) (N := some 73) (v := ?_) (a' := ?_) pm44 rfl rfl (by kernel_rfl) (fun _ _ _ h => h) (Or.inl ⟨by rfl, ?_⟩) ?_ ?_
 rotate_left
 ·intro w'
  go_simp
  with_reducible rfl
 rotate_left
 ·simp only [pmsP]
  rfl
 refine one_ (i := 8) (N := some 74) pm45 rfl rfl (by kernel_rfl) (by decide) (fun K hK => ?_)
 refine goes_ Try.func68 (by kernel_rfl) rfl #[.int .i64 (i : Int), .int .i64 0, .int .i64 (wrap64 ((s.arms.length : Int) - 1))] (by rfl) rfl rfl (by simp only [List.map_toArray, List.map_cons, List.map_nil]; rfl) ?_
 with_reducible refine (impl_within.calls (i : Int) 0 (wrap64 ((s.arms.length : Int) - 1)) _ _ HW).mono ?_
 rintro e w5 ⟨rfl, hb_8⟩
 refine ⟨_, rfl, ?_⟩
 have hB_8 := belowS hHeld.2.2.2.2.2 hb_8.below
 refine hK.out _ _ ⟨(cell_b t0 hB_8), (cell_b t1 hB_8), (cell_b p2 hB_8), (cell_b c0 hB_8), (cell_b r0 hB_8), hB_8⟩ (fun hHeld => ?_)
 clear hK K
 refine norm_ (a' := ?_) ?_ ?_
 rotate_left
 ·show Act.put _ (some 74) _ = _
  simp only [pmsP]
  rfl
 refine pure_ (i := 9) (N := some 75) (v := ?_) (a' := ?_) pm46 rfl rfl (by kernel_rfl) (fun _ _ _ h => h) (Or.inl ⟨by rfl, ?_⟩) ?_ ?_
 rotate_left
 ·intro w'
  go_simp
  with_reducible rfl
 rotate_left
 ·simp only [pmsP]
  rfl
 refine pure_ (i := 10) (N := some 76) (v := ?_) (a' := ?_) pm47 rfl rfl (by kernel_rfl) (fun _ _ _ h => h) (Or.inl ⟨by rfl, ?_⟩) ?_ ?_
 rotate_left
 ·intro w'
  go_simp
  with_reducible rfl
 rotate_left
 ·simp only [pmsP]
  rfl
 refine pure_ (i := 12) (N := some 78) (v := ?_) (a' := ?_) pm61 rfl rfl (by kernel_rfl) (fun _ _ _ h => h) (Or.inl ⟨by rfl, ?_⟩) ?_ ?_
 rotate_left
 ·intro w'
  go_simp
  with_reducible rfl
 rotate_left
 ·simp only [pmsP]
  rfl
 refine pure_ (i := 13) (N := some 79) (v := ?_) (a' := ?_) pm62 rfl rfl (by kernel_rfl) (fun _ _ _ h => h) (Or.inl ⟨by rfl, ?_⟩) ?_ ?_
 rotate_left
 ·intro w'
  go_simp
  with_reducible rfl
 rotate_left
 ·simp only [pmsP]
  rfl
 refine pure_ (i := 14) (N := some 80) (v := ?_) (a' := ?_) pm63 rfl rfl (by kernel_rfl) (fun _ _ _ h => h) (Or.inl ⟨by rfl, ?_⟩) ?_ ?_
 rotate_left
 ·intro w'
  go_simp
  with_reducible rfl
 rotate_left
 ·simp only [pmsP]
  rfl
 refine pure_ (i := 16) (N := some 82) (v := ?_) (a' := ?_) pm64 rfl rfl (by kernel_rfl) (fun _ _ _ h => h) (Or.inl ⟨by rfl, ?_⟩) ?_ ?_
 rotate_left
 ·intro w'
  go_simp
  with_reducible rfl
 rotate_left
 ·simp only [pmsP]
  rfl
 refine take_ (i := 11) (N := some 77) (v := ?_) (a' := ?_) pm65 rfl rfl (by kernel_rfl) (fun _ _ _ h => h) (Or.inl ⟨by rfl, ?_⟩) hHeld ?_ ?_
 rotate_left
 ·rintro w' ⟨s0, s1, s2, s3, s4, s5⟩
  go_simp
  with_reducible rfl
 rotate_left
 ·simp only [pmsP]
  rfl
 refine take_ (i := 15) (N := some 81) (v := ?_) (a' := ?_) pm53 rfl rfl (by kernel_rfl) (fun _ _ _ h => h) (Or.inl ⟨by rfl, ?_⟩) hHeld ?_ ?_
 rotate_left
 ·rintro w' ⟨s0, s1, s2, s3, s4, s5⟩
  go_simp
  with_reducible rfl
 rotate_left
 ·simp only [pmsP]
  rfl
 refine take_ (i := 17) (N := some 83) (v := ?_) (a' := ?_) pm54 rfl rfl (by kernel_rfl) (fun _ _ _ h => h) (Or.inl ⟨by rfl, ?_⟩) hHeld ?_ ?_
 rotate_left
 ·rintro w' ⟨s0, s1, s2, s3, s4, s5⟩
  go_simp
  with_reducible rfl
 rotate_left
 ·simp only [pmsP]
  rfl
 refine pure_ (i := 18) (N := some 84) (v := ?_) (a' := ?_) pm55 rfl rfl (by kernel_rfl) (fun _ _ _ h => h) (Or.inl ⟨by rfl, ?_⟩) ?_ ?_
 rotate_left
 ·intro w'
  go_simp
  with_reducible rfl
 rotate_left
 ·simp only [pmsP]
  rfl
 refine pure_ (i := 19) (N := some 85) (v := ?_) (a' := ?_) pm56 rfl rfl (by kernel_rfl) (fun _ _ _ h => h) (Or.inl ⟨by rfl, ?_⟩) ?_ ?_
 rotate_left
 ·intro w'
  go_simp
  with_reducible rfl
 rotate_left
 ·simp only [pmsP]
  rfl
 refine take_ (i := 20) (N := some 86) (v := ?_) (a' := ?_) pm57 rfl rfl (by kernel_rfl) (fun _ _ _ h => h) (Or.inl ⟨by rfl, ?_⟩) hHeld ?_ ?_
 rotate_left
 ·rintro w' ⟨s0, s1, s2, s3, s4, s5⟩
  go_simp
  with_reducible rfl
 rotate_left
 ·simp only [pmsP]
  rfl
 refine one_ (i := 21) (N := some 87) pm58 rfl rfl (by kernel_rfl) (by decide) (fun K hK => ?_)
 refine goes_ Try.func105 (by kernel_rfl) rfl #[.agg #[.int .i64 t.f0, .int .i64 t.f1], .int .i64 x.f0] (by rfl) rfl rfl (by simp only [List.map_toArray, List.map_cons, List.map_nil]; rfl) ?_
 with_reducible refine (impl_Tile_has.calls t.f0 t.f1 x.f0 _ _ ((has_f t x.f0).trans (congrArg some hh))).mono ?_
 rintro e w6 ⟨rfl, hb_21⟩
 refine ⟨_, rfl, ?_⟩
 have hB_21 := belowS hHeld.2.2.2.2.2 hb_21
 refine hK.out _ _ ⟨(cell_b t0 hB_21), (cell_b t1 hB_21), (cell_b p2 hB_21), (cell_b c0 hB_21), (cell_b r0 hB_21), hB_21⟩ (fun hHeld => ?_)
 clear hK K
 refine norm_ (a' := ?_) ?_ ?_
 rotate_left
 ·show Act.put _ (some 87) _ = _
  simp only [pmsP]
  rfl
 refine pure_ (i := 22) (N := some 88) (v := ?_) (a' := ?_) pm59 rfl rfl (by kernel_rfl) (fun _ _ _ h => h) (Or.inl ⟨by rfl, ?_⟩) ?_ ?_
 rotate_left
 ·intro w'
  go_simp
  with_reducible rfl
 rotate_left
 ·simp only [pmsP]
  rfl
 refine pure_ (i := 23) (N := some 89) (v := ?_) (a' := ?_) pm60 rfl rfl (by kernel_rfl) (fun _ _ _ h => h) (Or.inl ⟨by rfl, ?_⟩) ?_ ?_
 rotate_left
 ·intro w'
  go_simp
  with_reducible rfl
 rotate_left
 ·simp only [pmsP]
  rfl
 refine done_ (by kernel_rfl) ?_
 have HST6 := Aside0.mk (HST2.out.below hHeld.2.2.2.2.2 hbs (by omega))
 go_wp2
 clear t0 ft0 t1 ft1 p2 fp2 c0 f0 c1 f1 c2 f2 c3 f3 c4 f4 r0 r1 r2 fr hHeld HW hlenA
 obtain ⟨t0, ft0⟩ := HST6.out.box HPT.out.2 (by omega) (by omega) 0 (.int .i64 t.f0) rfl
 obtain ⟨t1, ft1⟩ := HST6.out.box HPT.out.2 (by omega) (by omega) 1 (.int .i64 t.f1) rfl
 obtain ⟨c1, f1⟩ := HST6.out.cell 1 (.slice At s.tiles.length ct) rfl
 refine start_ (n := 11) (S := fun w' => w'.cell? ⟨W.heap.size + 1, 0, none⟩ = some (.int .i64 t.f0) ∧ w'.cell? ⟨W.heap.size + 1, 1, none⟩ = some (.int .i64 t.f1) ∧ w'.cell? ⟨g, 1, none⟩ = some (.slice At s.tiles.length ct) ∧ Below w6.heap.size w6 w') (ds := [7, 10]) pm66 (by kernel_rfl) rfl rfl ⟨(cell_b t0 (belowD (Below.refl _ _))), (cell_b t1 (belowD (Below.refl _ _))), (cell_b c1 (belowD (Below.refl _ _))), (belowD (Below.refl _ _))⟩ (fun hHeld => ?_)
 generalize w6.drew = wd at hHeld ⊢
 have HSTd := Aside0.mk (HST6.out.below hHeld.2.2.2 hbs (by omega))
 refine pure_ (i := 0) (N := some 90) (v := ?_) (a' := ?_) pm67 rfl rfl (by kernel_rfl) (fun _ _ _ h => h) (Or.inl ⟨by rfl, ?_⟩) ?_ ?_
 rotate_left
 ·intro w'
  go_simp
  with_reducible rfl
 rotate_left
 ·simp only [pmsP]
  rfl
 refine pure_ (i := 1) (N := some 91) (v := ?_) (a' := ?_) pm68 rfl rfl (by kernel_rfl) (fun _ _ _ h => h) (Or.inl ⟨by rfl, ?_⟩) ?_ ?_
 rotate_left
 ·intro w'
  go_simp
  with_reducible rfl
 rotate_left
 ·simp only [pmsP]
  rfl
 refine pure_ (i := 2) (N := some 92) (v := ?_) (a' := ?_) pm69 rfl rfl (by kernel_rfl) (fun _ _ _ h => h) (Or.inl ⟨by rfl, ?_⟩) ?_ ?_
 rotate_left
 ·intro w'
  go_simp
  with_reducible rfl
 rotate_left
 ·simp only [pmsP]
  rfl
 refine pure_ (i := 3) (N := some 93) (v := ?_) (a' := ?_) pm70 rfl rfl (by kernel_rfl) (fun _ _ _ h => h) (Or.inl ⟨by rfl, ?_⟩) ?_ ?_
 rotate_left
 ·intro w'
  go_simp
  with_reducible rfl
 rotate_left
 ·simp only [pmsP]
  rfl
 refine take_ (i := 4) (N := some 94) (v := ?_) (a' := ?_) pm71 rfl rfl (by kernel_rfl) (fun _ _ _ h => h) (Or.inl ⟨by rfl, ?_⟩) hHeld ?_ ?_
 rotate_left
 ·rintro w' ⟨s0, s1, s2, s3⟩
  go_simp
  with_reducible rfl
 rotate_left
 ·simp only [pmsP]
  rfl
 refine take_ (i := 5) (N := some 95) (v := ?_) (a' := ?_) pm72 rfl rfl (by kernel_rfl) (fun _ _ _ h => h) (Or.inl ⟨by rfl, ?_⟩) hHeld ?_ ?_
 rotate_left
 ·rintro w' ⟨s0, s1, s2, s3⟩
  go_simp
  with_reducible rfl
 rotate_left
 ·simp only [pmsP]
  rfl
 refine one_ (i := 6) (N := some 96) pm73 rfl rfl (by kernel_rfl) (by decide) (fun K hK => ?_)
 refine value_ (w1 := ?_) (v := ?_) (by rfl) rfl ?_ ?_
 rotate_left 2
 ·go_simp
  constructor
  ·rfl
  ·rfl
 refine hK.out _ _ ⟨(cell_b t0 (belowA hHeld.2.2.2 _)), (cell_b t1 (belowA hHeld.2.2.2 _)), (cell_b c1 (belowA hHeld.2.2.2 _)), (belowA hHeld.2.2.2 _)⟩ (fun hHeld => ?_)
 clear hK K
 refine norm_ (a' := ?_) ?_ ?_
 rotate_left
 ·show Act.put _ (some 96) _ = _
  simp only [pmsP]
  rfl
 refine last_ (i := 7) (N := some 97) pm74 rfl rfl (by kernel_rfl) (by decide) (fun K hK => ?_)
 refine Kd.R_append_step k59 (w0 := W) base (by rfl) (.tmp 94) (.tmp 96) 33 59 (.agg #[(.int .i64 0), (.int .i64 0)]) 16 rfl Try.underlying33 info59 rfl (by decide) (by omega) (.slice At s.tiles.length ct) s.tiles t [.int .i64 t.f0, .int .i64 t.f1] (fun k => k ≠ g ∧ (k < W.heap.size ∨ W.heap.size + 2 ≤ k)) (fun _ => False) rfl rfl ?aP (fun _ hk => hk.elim) ?aF ?aO ?aB ?aS ?aL ?_
 (case aP => exact k59_mkM _ _ _ t)
 (case aB => exact HSTd.out.BL)
 (case aF => intro k hk; have h1 := HSTd.out.SZ; exact ⟨by omega, .inr (by omega)⟩)
 (case aO => exact HSTd.out.RT)
 (case aS => have h1 := HSTd.out.SZ; omega)
 (case aL => have := hlen.2; omega)
 intro v7 w7 ho7 hb7 hg7 _
 obtain ⟨A7, c7, hv7, _, _⟩ := Kd.R_reads ho7
 generalize (s.tiles ++ [t]).length = n7 at hv7
 subst hv7
 refine hK.out _ _ ?_
 clear hK K
 refine norm_ (a' := ?_) ?_ ?_
 rotate_left
 ·show Act.put _ (some 97) _ = _
  simp only [pmsP]
  rfl
 refine pure_ (i := 8) (N := some 98) (v := ?_) (a' := ?_) pm75 rfl rfl (by kernel_rfl) (fun _ _ _ h => h) (Or.inl ⟨by rfl, ?_⟩) ?_ ?_
 rotate_left
 ·intro w'
  go_simp
  with_reducible rfl
 rotate_left
 ·simp only [pmsP]
  rfl
 refine pure_ (i := 9) (N := some 99) (v := ?_) (a' := ?_) pm76 rfl rfl (by kernel_rfl) (fun _ _ _ h => h) (Or.inl ⟨by rfl, ?_⟩) ?_ ?_
 rotate_left
 ·intro w'
  go_simp
  with_reducible rfl
 rotate_left
 ·simp only [pmsP]
  rfl
 refine last_ (i := 10) (N := none) pm77 rfl rfl (by kernel_rfl) (by decide) (fun K hK => ?_)
 have hG7 := (hg7.block g (Array.getElem?_eq_some_iff.1 HSTd.out.G).1 (Kd.R_away HSTd.out.RT (fun k hk => hk.1))).trans HSTd.out.G
 obtain ⟨c1', f1'⟩ := heap_cell hG7 1 (.slice At s.tiles.length ct) rfl
 refine skip_ (w1 := ?_) (by rfl) rfl ?_ ?_
 rotate_left
 ·go_simp
  rfl
 refine hK.out _ _ ?_
 clear hK K
 refine done_ (by kernel_rfl) ?_
 have hS8 := HSTd.out.tiles_grown hgl hbase hb7 hg7 ho7
 generalize w7.setCell ⟨g, 1, none⟩ (.slice A7 n7 c7) = w8 at hS8 ⊢
 have HS8 := Aside0.mk hS8
 clear hS8 hG7 c1' f1' ho7 hb7 hg7 t0 ft0 t1 ft1 c1 f1
 obtain ⟨t0, ft0⟩ := HS8.out.box HPT.out.2 (by omega) (by omega) 0 (.int .i64 t.f0) rfl
 obtain ⟨t1, ft1⟩ := HS8.out.box HPT.out.2 (by omega) (by omega) 1 (.int .i64 t.f1) rfl
 obtain ⟨p2, fp2⟩ := HS8.out.box HPT.out.1 (by omega) (by omega) 2 (.int .i64 (i : Int)) (by rw [← HI.out.2.1]; rfl)
 obtain ⟨c0, f0⟩ := HS8.out.cell 0 (.slice (some ⟨ga, 0, none⟩) s.arms.length ca) rfl
 obtain ⟨⟨r0, r1, r2⟩, fr⟩ := HS8.out.row i x HROW.out.2.2.2
 go_wp2
 refine start_ (n := 22) (S := fun w' => w'.cell? ⟨W.heap.size + 1, 0, none⟩ = some (.int .i64 t.f0) ∧ w'.cell? ⟨W.heap.size + 1, 1, none⟩ = some (.int .i64 t.f1) ∧ w'.cell? ⟨W.heap.size, 2, none⟩ = some (.int .i64 (i : Int)) ∧ w'.cell? ⟨g, 0, none⟩ = some (.slice (some ⟨ga, 0, none⟩) s.arms.length ca) ∧ w'.cell? ⟨ga, i * 3, none⟩ = some (.int .i64 x.f0) ∧ w'.cell? ⟨ga, i * 3 + 1, none⟩ = some (.bool x.f1) ∧ w'.cell? ⟨ga, i * 3 + 2, none⟩ = some (.bool x.f2) ∧ Below w8.heap.size w8 w') (ds := [21]) pm78 (by kernel_rfl) rfl rfl ⟨(cell_b t0 (belowD (Below.refl _ _))), (cell_b t1 (belowD (Below.refl _ _))), (cell_b p2 (belowD (Below.refl _ _))), (cell_b c0 (belowD (Below.refl _ _))), (cell_b r0 (belowD (Below.refl _ _))), (cell_b r1 (belowD (Below.refl _ _))), (cell_b r2 (belowD (Below.refl _ _))), (belowD (Below.refl _ _))⟩ (fun hHeld => ?_)
 refine pure_ (i := 0) (N := some 100) (v := ?_) (a' := ?_) pm79 rfl rfl (by kernel_rfl) (fun _ _ _ h => h) (Or.inl ⟨by rfl, ?_⟩) ?_ ?_
 rotate_left
 ·intro w'
  go_simp
  with_reducible rfl
 rotate_left
 ·simp only [pmsP]
  rfl
 refine pure_ (i := 1) (N := some 101) (v := ?_) (a' := ?_) pm80 rfl rfl (by kernel_rfl) (fun _ _ _ h => h) (Or.inl ⟨by rfl, ?_⟩) ?_ ?_
 rotate_left
 ·intro w'
  go_simp
  with_reducible rfl
 rotate_left
 ·simp only [pmsP]
  rfl
 refine pure_ (i := 2) (N := some 102) (v := ?_) (a' := ?_) pm81 rfl rfl (by kernel_rfl) (fun _ _ _ h => h) (Or.inl ⟨by rfl, ?_⟩) ?_ ?_
 rotate_left
 ·intro w'
  go_simp
  with_reducible rfl
 rotate_left
 ·simp only [pmsP]
  rfl
 refine pure_ (i := 4) (N := some 104) (v := ?_) (a' := ?_) pm82 rfl rfl (by kernel_rfl) (fun _ _ _ h => h) (Or.inl ⟨by rfl, ?_⟩) ?_ ?_
 rotate_left
 ·intro w'
  go_simp
  with_reducible rfl
 rotate_left
 ·simp only [pmsP]
  rfl
 refine pure_ (i := 7) (N := some 107) (v := ?_) (a' := ?_) pm83 rfl rfl (by kernel_rfl) (fun _ _ _ h => h) (Or.inl ⟨by rfl, ?_⟩) ?_ ?_
 rotate_left
 ·intro w'
  go_simp
  with_reducible rfl
 rotate_left
 ·simp only [pmsP]
  rfl
 refine pure_ (i := 8) (N := some 108) (v := ?_) (a' := ?_) pm84 rfl rfl (by kernel_rfl) (fun _ _ _ h => h) (Or.inl ⟨by rfl, ?_⟩) ?_ ?_
 rotate_left
 ·intro w'
  go_simp
  with_reducible rfl
 rotate_left
 ·simp only [pmsP]
  rfl
 refine pure_ (i := 9) (N := some 109) (v := ?_) (a' := ?_) pm85 rfl rfl (by kernel_rfl) (fun _ _ _ h => h) (Or.inl ⟨by rfl, ?_⟩) ?_ ?_
 rotate_left
 ·intro w'
  go_simp
  with_reducible rfl
 rotate_left
 ·simp only [pmsP]
  rfl
 refine pure_ (i := 11) (N := some 111) (v := ?_) (a' := ?_) pm86 rfl rfl (by kernel_rfl) (fun _ _ _ h => h) (Or.inl ⟨by rfl, ?_⟩) ?_ ?_
 rotate_left
 ·intro w'
  go_simp
  with_reducible rfl
 rotate_left
 ·simp only [pmsP]
  rfl
 refine take_ (i := 3) (N := some 103) (v := ?_) (a' := ?_) pm87 rfl rfl (by kernel_rfl) (fun _ _ _ h => h) (Or.inl ⟨by rfl, ?_⟩) hHeld ?_ ?_
 rotate_left
 ·rintro w' ⟨s0, s1, s2, s3, s4, s5, s6, s7⟩
  go_simp
  with_reducible rfl
 rotate_left
 ·simp only [pmsP]
  rfl
 refine take_ (i := 5) (N := some 105) (v := ?_) (a' := ?_) pm88 rfl rfl (by kernel_rfl) (fun _ _ _ h => h) (Or.inl ⟨by rfl, ?_⟩) hHeld ?_ ?_
 rotate_left
 ·rintro w' ⟨s0, s1, s2, s3, s4, s5, s6, s7⟩
  go_simp
  with_reducible rfl
 rotate_left
 ·simp only [pmsP]
  rfl
 refine take_ (i := 6) (N := some 106) (v := ?_) (a' := ?_) pm89 rfl rfl (by kernel_rfl) (fun _ _ _ h => h) (Or.inl ⟨by rfl, ?_⟩) hHeld ?_ ?_
 rotate_left
 ·rintro w' ⟨s0, s1, s2, s3, s4, s5, s6, s7⟩
  go_simp
  with_reducible rfl
 rotate_left
 ·simp only [pmsP]
  rfl
 refine take_ (i := 10) (N := some 110) (v := ?_) (a' := ?_) pm90 rfl rfl (by kernel_rfl) (fun _ _ _ h => h) (Or.inl ⟨by rfl, ?_⟩) hHeld ?_ ?_
 rotate_left
 ·rintro w' ⟨s0, s1, s2, s3, s4, s5, s6, s7⟩
  go_simp
  with_reducible rfl
 rotate_left
 ·simp only [pmsP]
  rfl
 refine take_ (i := 12) (N := some 112) (v := ?_) (a' := ?_) pm91 rfl rfl (by kernel_rfl) (fun _ _ _ h => h) (Or.inl ⟨by rfl, ?_⟩) hHeld ?_ ?_
 rotate_left
 ·rintro w' ⟨s0, s1, s2, s3, s4, s5, s6, s7⟩
  go_simp
  with_reducible rfl
 rotate_left
 ·simp only [pmsP]
  rfl
 refine pure_ (i := 13) (N := some 113) (v := ?_) (a' := ?_) pm92 rfl rfl (by kernel_rfl) (fun _ _ _ h => h) (Or.inl ⟨by rfl, ?_⟩) ?_ ?_
 rotate_left
 ·intro w'
  go_simp
  with_reducible rfl
 rotate_left
 ·simp only [pmsP]
  rfl
 refine pure_ (i := 14) (N := some 114) (v := ?_) (a' := ?_) pm93 rfl rfl (by kernel_rfl) (fun _ _ _ h => h) (Or.inl ⟨by rfl, ?_⟩) ?_ ?_
 rotate_left
 ·intro w'
  go_simp
  with_reducible rfl
 rotate_left
 ·simp only [pmsP]
  rfl
 refine take_ (i := 15) (N := some 115) (v := ?_) (a' := ?_) pm94 rfl rfl (by kernel_rfl) (fun _ _ _ h => h) (Or.inl ⟨by rfl, ?_⟩) hHeld ?_ ?_
 rotate_left
 ·rintro w' ⟨s0, s1, s2, s3, s4, s5, s6, s7⟩
  go_simp
  with_reducible rfl
 rotate_left
 ·simp only [pmsP]
  rfl
 refine take_ (i := 17) (N := some 117) (v := ?_) (a' := ?_) pm95 rfl rfl (by kernel_rfl) (fun _ _ _ h => h) (Or.inl ⟨by rfl, ?_⟩) hHeld ?_ ?_
 rotate_left
 ·rintro w' ⟨s0, s1, s2, s3, s4, s5, s6, s7⟩
  go_simp
  with_reducible rfl
 rotate_left
 ·simp only [pmsP]
  rfl
 refine one_ (i := 16) (N := some 116) pm96 rfl rfl (by kernel_rfl) (by decide) (fun K hK => ?_)
 refine goes_ Try.func106 (by kernel_rfl) rfl #[.agg #[.int .i64 t.f0, .int .i64 t.f1], .int .i64 x.f0] (by rfl) rfl rfl (by simp only [List.map_toArray, List.map_cons, List.map_nil]; rfl) ?_
 with_reducible refine (impl_Tile_other.calls t.f0 t.f1 x.f0 _ _ (other_f hg hh)).mono ?_
 rintro e w9 ⟨rfl, hb_16⟩
 refine ⟨_, rfl, ?_⟩
 have hB_16 := belowS hHeld.2.2.2.2.2.2.2 hb_16
 refine hK.out _ _ ⟨(cell_b t0 hB_16), (cell_b t1 hB_16), (cell_b p2 hB_16), (cell_b c0 hB_16), (cell_b r0 hB_16), (cell_b r1 hB_16), (cell_b r2 hB_16), hB_16⟩ (fun hHeld => ?_)
 clear hK K
 refine norm_ (a' := ?_) ?_ ?_
 rotate_left
 ·show Act.put _ (some 116) _ = _
  simp only [pmsP]
  rfl
 refine one_ (i := 18) (N := some 118) pm97 rfl rfl (by kernel_rfl) (by decide) (fun K hK => ?_)
 refine goes_ Try.func104 (by kernel_rfl) rfl #[.agg #[.int .i64 t.f0, .int .i64 t.f1]] (by rfl) rfl rfl (by simp only [List.map_toArray, List.map_cons, List.map_nil]; rfl) ?_
 with_reducible refine (impl_isDouble.calls t.f0 t.f1 (dblB t) _ rfl).mono ?_
 rintro e w10 ⟨rfl, hb_18⟩
 refine ⟨_, rfl, ?_⟩
 have hB_18 := belowS hHeld.2.2.2.2.2.2.2 hb_18
 refine hK.out _ _ ⟨(cell_b t0 hB_18), (cell_b t1 hB_18), (cell_b p2 hB_18), (cell_b c0 hB_18), (cell_b r0 hB_18), (cell_b r1 hB_18), (cell_b r2 hB_18), hB_18⟩ (fun hHeld => ?_)
 clear hK K
 refine norm_ (a' := ?_) ?_ ?_
 rotate_left
 ·show Act.put _ (some 118) _ = _
  simp only [pmsP]
  rfl
 refine pure_ (i := 19) (N := some 119) (v := ?_) (a' := ?_) pm98 rfl rfl (by kernel_rfl) (fun _ _ _ h => h) (Or.inl ⟨by rfl, ?_⟩) ?_ ?_
 rotate_left
 ·intro w'
  go_simp
  with_reducible rfl
 rotate_left
 ·simp only [pmsP]
  rfl
 refine pure_ (i := 20) (N := some 120) (v := ?_) (a' := ?_) pm99 rfl rfl (by kernel_rfl) (fun _ _ _ h => h) (Or.inl ⟨by rfl, ?_⟩) ?_ ?_
 rotate_left
 ·intro w'
  go_simp
  with_reducible rfl
 rotate_left
 ·simp only [pmsP]
  rfl
 refine last_ (i := 21) (N := none) pm100 rfl rfl (by kernel_rfl) (by decide) (fun K hK => ?_)
 obtain ⟨_, _, _, _, r0', r1', r2', _⟩ := hHeld
 obtain ⟨_, fr'⟩ := (HS8.out.below hB_18 hbs (by omega)).row i x HROW.out.2.2.2
 refine skip_ (w1 := ?_) (by rfl) rfl ?_ ?_
 rotate_left
 ·go_simp
  rfl
 refine hK.out _ _ ?_
 clear hK K
 refine done_ (by kernel_rfl) ?_
 clear hHeld t0 ft0 t1 ft1 p2 fp2 c0 f0 fr r0 r1 r2 r0' r1' r2' fr'
 have hS11 := (HS8.out.below hB_18 hbs (by omega)).arm_set i ⟨t.f0 + t.f1 - x.f0, dblB t, false⟩ hil
 simp only [setA] at hS11
 generalize ((w10.setCell ⟨ga, i * 3, none⟩ (.int .i64 (t.f0 + t.f1 - x.f0))).setCell ⟨ga, i * 3 + 1, none⟩ (.bool (dblB t))).setCell ⟨ga, i * 3 + 2, none⟩ (.bool false) = w11 at hS11 ⊢
 have HS11 := Aside0.mk hS11
 have HP := Aside0.mk (show playS s t arm = some (nextS s t i x.f0) by unfold playS; rw [if_pos HGD.out, if_neg HE.out, if_pos HI.out.1, HI.out.2.1, hrdx, if_pos hh]; rfl)
 clear hS11
 go_wp2
 have hne0 : i = 0 ∨ i = 1 ∨ 2 ≤ i := by omega
 rcases hne0 with rfl | rfl | h2
 ·cases hwi : s.w0
  ·rw [hwi] at HS11
   obtain ⟨p2, fp2⟩ := HS11.out.box HPT.out.1 (by omega) (by omega) 2 (.int .i64 0) (by rw [show arm = 0 from HI.out.2.1]; rfl)
   obtain ⟨c3, f3⟩ := HS11.out.cell 3 (.bool false) rfl
   refine start_ (n := 12) (S := fun w' => w'.cell? ⟨W.heap.size, 2, none⟩ = some (.int .i64 0) ∧ w'.cell? ⟨g, 3, none⟩ = some (.bool false) ∧ Below w11.heap.size w11 w') (ds := []) pm101 (by kernel_rfl) rfl rfl ⟨(cell_b p2 (belowD (Below.refl _ _))), (cell_b c3 (belowD (Below.refl _ _))), (belowD (Below.refl _ _))⟩ (fun hHeld => ?_)
   refine pure_ (i := 0) (N := some 121) (v := ?_) (a' := ?_) pm102 rfl rfl (by kernel_rfl) (fun _ _ _ h => h) (Or.inl ⟨by rfl, ?_⟩) ?_ ?_
   rotate_left
   ·intro w'
    go_simp
    with_reducible rfl
   rotate_left
   ·simp only [pmsP]
    rfl
   refine take_ (i := 1) (N := some 122) (v := ?_) (a' := ?_) pm103 rfl rfl (by kernel_rfl) (fun _ _ _ h => h) (Or.inl ⟨by rfl, ?_⟩) hHeld ?_ ?_
   rotate_left
   ·rintro w' ⟨s0, s1, s2⟩
    go_simp
    with_reducible rfl
   rotate_left
   ·simp only [pmsP]
    rfl
   refine pure_ (i := 2) (N := some 123) (v := ?_) (a' := ?_) pm104 rfl rfl (by kernel_rfl) (fun _ _ _ h => h) (Or.inl ⟨by rfl, ?_⟩) ?_ ?_
   rotate_left
   ·intro w'
    go_simp
    with_reducible rfl
   rotate_left
   ·simp only [pmsP]
    rfl
   refine pure_ (i := 3) (N := some 124) (v := ?_) (a' := ?_) pm105 rfl rfl (by kernel_rfl) (fun _ _ _ h => h) (Or.inl ⟨by rfl, ?_⟩) ?_ ?_
   rotate_left
   ·intro w'
    go_simp
    with_reducible rfl
   rotate_left
   ·simp only [pmsP]
    rfl
   refine pure_ (i := 4) (N := some 125) (v := ?_) (a' := ?_) pm106 rfl rfl (by kernel_rfl) (fun _ _ _ h => h) (Or.inl ⟨by rfl, ?_⟩) ?_ ?_
   rotate_left
   ·intro w'
    go_simp
    with_reducible rfl
   rotate_left
   ·simp only [pmsP]
    rfl
   refine pure_ (i := 5) (N := some 126) (v := ?_) (a' := ?_) pm107 rfl rfl (by kernel_rfl) (fun _ _ _ h => h) (Or.inl ⟨by rfl, ?_⟩) ?_ ?_
   rotate_left
   ·intro w'
    go_simp
    with_reducible rfl
   rotate_left
   ·simp only [pmsP]
    rfl
   refine pure_ (i := 7) (N := some 128) (v := ?_) (a' := ?_) pm108 rfl rfl (by kernel_rfl) (fun _ _ _ h => h) (Or.inl ⟨by rfl, ?_⟩) ?_ ?_
   rotate_left
   ·intro w'
    go_simp
    with_reducible rfl
   rotate_left
   ·simp only [pmsP]
    rfl
   refine pure_ (i := 8) (N := some 129) (v := ?_) (a' := ?_) pm109 rfl rfl (by kernel_rfl) (fun _ _ _ h => h) (Or.inl ⟨by rfl, ?_⟩) ?_ ?_
   rotate_left
   ·intro w'
    go_simp
    with_reducible rfl
   rotate_left
   ·simp only [pmsP]
    rfl
   refine take_ (i := 6) (N := some 127) (v := ?_) (a' := ?_) pm110 rfl rfl (by kernel_rfl) (fun _ _ _ h => h) (Or.inl ⟨by rfl, ?_⟩) hHeld ?_ ?_
   rotate_left
   ·rintro w' ⟨s0, s1, s2⟩
    go_simp
    with_reducible rfl
   rotate_left
   ·simp only [pmsP]
    rfl
   refine pure_ (i := 9) (N := some 130) (v := ?_) (a' := ?_) pm111 rfl rfl (by kernel_rfl) (fun _ _ _ h => h) (Or.inl ⟨by rfl, ?_⟩) ?_ ?_
   rotate_left
   ·intro w'
    go_simp
    with_reducible rfl
   rotate_left
   ·simp only [pmsP]
    rfl
   refine take_ (i := 10) (N := some 131) (v := ?_) (a' := ?_) pm112 rfl rfl (by kernel_rfl) (fun _ _ _ h => h) (Or.inl ⟨by rfl, ?_⟩) hHeld ?_ ?_
   rotate_left
   ·rintro w' ⟨s0, s1, s2⟩
    go_simp
    with_reducible rfl
   rotate_left
   ·simp only [pmsP]
    rfl
   refine pure_ (i := 11) (N := some 132) (v := ?_) (a' := ?_) pm113 rfl rfl (by kernel_rfl) (fun _ _ _ h => h) (Or.inl ⟨by rfl, ?_⟩) ?_ ?_
   rotate_left
   ·intro w'
    go_simp
    with_reducible rfl
   rotate_left
   ·simp only [pmsP]
    rfl
   refine done_ (by kernel_rfl) ?_
   have HS12 := Aside0.mk (HS11.out.below hHeld.2.2 hbs (by omega))
   clear p2 fp2 c3 f3 hHeld
   generalize w11.drew = w12 at HS12 ⊢
   obtain ⟨t0, ft0⟩ := HS12.out.box HPT.out.2 (by omega) (by omega) 0 (.int .i64 t.f0) rfl
   obtain ⟨t1, ft1⟩ := HS12.out.box HPT.out.2 (by omega) (by omega) 1 (.int .i64 t.f1) rfl
   obtain ⟨c2, f2⟩ := HS12.out.cell 2 (.int .i64 s.sp) rfl
   by_cases hd : dblB t = true
   rotate_left
   ·have hdf : dblB t = false := by simpa using hd
    go_wp2_with (go_at_call 104; refine (impl_isDouble.calls t.f0 t.f1 false _ (congrArg some hdf)).mono ?_; rintro e w30 ⟨rfl, hb30⟩; have HB30 := Aside0.mk hb30; clear hb30)

    obtain rfl : o = _ := HO.out.symm.trans HP.out
    go_ret
    have hF := HS12.out.below HB30.out hbs (by omega)
    have e : nextS s t 0 x.f0 = ⟨s.arms.set 0 ⟨t.f0 + t.f1 - x.f0, dblB t, false⟩, s.tiles ++ [t], s.sp, false, s.w1⟩ := by first | (simp [nextS, hwi, hdf]; done) | (simp [nextS, hwi, hdf]; intro h_; omega)
    exact ⟨rfl, by rw [Option.getD_some, e]; exact St.done (s := ⟨_, _, _, _, _⟩) hF, hF.BL⟩
   by_cases hs : s.sp < 0
   rotate_left
   ·have hsb : decide (s.sp < 0) = false := decide_eq_false hs
    go_wp2_with (go_at_call 104; refine (impl_isDouble.calls t.f0 t.f1 true _ (congrArg some hd)).mono ?_; rintro e w30 ⟨rfl, hb30⟩; have c2' := cell_b c2 hb30; have HB30 := Aside0.mk hb30; clear hb30)
    obtain rfl : o = _ := HO.out.symm.trans HP.out
    go_ret
    have hF := HS12.out.below HB30.out hbs (by omega)
    have e : nextS s t 0 x.f0 = ⟨s.arms.set 0 ⟨t.f0 + t.f1 - x.f0, dblB t, false⟩, s.tiles ++ [t], s.sp, false, s.w1⟩ := by first | (simp [nextS, hwi, hd, hs]; done) | (simp [nextS, hwi, hd, hs]; intro h_; omega)
    exact ⟨rfl, by rw [Option.getD_some, e]; exact St.done (s := ⟨_, _, _, _, _⟩) hF, hF.BL⟩
   have hsb : decide (s.sp < 0) = true := decide_eq_true hs
   go_wp2_with (go_at_call 104; refine (impl_isDouble.calls t.f0 t.f1 true _ (congrArg some hd)).mono ?_; rintro e w30 ⟨rfl, hb30⟩; have c2' := cell_b c2 hb30; have t0' := cell_b t0 hb30; have t1' := cell_b t1 hb30; have f2' := froz_b HS12.out.G hb30 2; have HB30 := Aside0.mk hb30; clear hb30)
   have hS31 := (HS12.out.below HB30.out hbs (by omega)).set_rest hgl hbase 0 (.int .i64 t.f0)
   simp only [List.set_cons_zero] at hS31
   generalize w30.setCell ⟨g, 2, none⟩ (.int .i64 t.f0) = w31 at hS31 ⊢
   have HS31 := Aside0.mk hS31
   clear hS31 t0 ft0 t1 ft1 c2 f2 c2' t0' t1' f2'
   obtain ⟨p2, fp2⟩ := HS31.out.box HPT.out.1 (by omega) (by omega) 2 (.int .i64 0) (by rw [show arm = 0 from HI.out.2.1]; rfl)
   refine start_ (n := 7) (S := fun w' => w'.cell? ⟨W.heap.size, 2, none⟩ = some (.int .i64 0) ∧ Below w31.heap.size w31 w') (ds := [6]) pm114 (by kernel_rfl) rfl rfl ⟨(cell_b p2 (belowD (Below.refl _ _))), (belowD (Below.refl _ _))⟩ (fun hHeld => ?_)
   generalize w31.drew = wd at hHeld ⊢
   have HSTd := Aside0.mk (HS31.out.below hHeld.2 hbs (by omega))
   obtain ⟨cw, fw⟩ := HSTd.out.cell 3 (.bool false) rfl
   refine pure_ (i := 0) (N := some 178) (v := ?_) (a' := ?_) pm115 rfl rfl (by kernel_rfl) (fun _ _ _ h => h) (Or.inl ⟨by rfl, ?_⟩) ?_ ?_
   rotate_left
   ·intro w'
    go_simp
    with_reducible rfl
   rotate_left
   ·simp only [pmsP]
    rfl
   refine pure_ (i := 1) (N := some 179) (v := ?_) (a' := ?_) pm116 rfl rfl (by kernel_rfl) (fun _ _ _ h => h) (Or.inl ⟨by rfl, ?_⟩) ?_ ?_
   rotate_left
   ·intro w'
    go_simp
    with_reducible rfl
   rotate_left
   ·simp only [pmsP]
    rfl
   refine pure_ (i := 3) (N := some 181) (v := ?_) (a' := ?_) pm117 rfl rfl (by kernel_rfl) (fun _ _ _ h => h) (Or.inl ⟨by rfl, ?_⟩) ?_ ?_
   rotate_left
   ·intro w'
    go_simp
    with_reducible rfl
   rotate_left
   ·simp only [pmsP]
    rfl
   refine pure_ (i := 4) (N := some 182) (v := ?_) (a' := ?_) pm118 rfl rfl (by kernel_rfl) (fun _ _ _ h => h) (Or.inl ⟨by rfl, ?_⟩) ?_ ?_
   rotate_left
   ·intro w'
    go_simp
    with_reducible rfl
   rotate_left
   ·simp only [pmsP]
    rfl
   refine take_ (i := 2) (N := some 180) (v := ?_) (a' := ?_) pm119 rfl rfl (by kernel_rfl) (fun _ _ _ h => h) (Or.inl ⟨by rfl, ?_⟩) hHeld ?_ ?_
   rotate_left
   ·rintro w' ⟨s0, s1⟩
    go_simp
    with_reducible rfl
   rotate_left
   ·simp only [pmsP]
    rfl
   refine pure_ (i := 5) (N := some 183) (v := ?_) (a' := ?_) pm120 rfl rfl (by kernel_rfl) (fun _ _ _ h => h) (Or.inl ⟨by rfl, ?_⟩) ?_ ?_
   rotate_left
   ·intro w'
    go_simp
    with_reducible rfl
   rotate_left
   ·simp only [pmsP]
    rfl
   refine last_ (i := 6) (N := none) pm121 rfl rfl (by kernel_rfl) (by decide) (fun K hK => ?_)
   refine skip_ (w1 := ?_) (by rfl) rfl ?_ ?_
   rotate_left
   ·go_simp
    rfl
   refine hK.out _ _ ?_
   clear hK K
   refine done_ (by kernel_rfl) ?_
   go_wp2
   obtain rfl : o = _ := HO.out.symm.trans HP.out
   go_ret
   have hF := HSTd.out.set_rest hgl hbase 1 (.bool true)
   have e : nextS s t 0 x.f0 = ⟨s.arms.set 0 ⟨t.f0 + t.f1 - x.f0, dblB t, false⟩, s.tiles ++ [t], t.f0, true, s.w1⟩ := by first | (simp [nextS, hwi, hd, hs]; done) | (simp [nextS, hwi, hd, hs]; intro h_; omega)
   exact ⟨rfl, by rw [Option.getD_some, e]; exact St.done (s := ⟨_, _, _, _, _⟩) hF, hF.BL⟩
  ·cases hwo : s.w1
   ·rw [hwi, hwo] at HS11
    obtain ⟨p2, fp2⟩ := HS11.out.box HPT.out.1 (by omega) (by omega) 2 (.int .i64 0) (by rw [show arm = 0 from HI.out.2.1]; rfl)
    obtain ⟨c3, f3⟩ := HS11.out.cell 3 (.bool true) rfl
    refine start_ (n := 12) (S := fun w' => w'.cell? ⟨W.heap.size, 2, none⟩ = some (.int .i64 0) ∧ w'.cell? ⟨g, 3, none⟩ = some (.bool true) ∧ Below w11.heap.size w11 w') (ds := []) pm101 (by kernel_rfl) rfl rfl ⟨(cell_b p2 (belowD (Below.refl _ _))), (cell_b c3 (belowD (Below.refl _ _))), (belowD (Below.refl _ _))⟩ (fun hHeld => ?_)
    refine pure_ (i := 0) (N := some 121) (v := ?_) (a' := ?_) pm102 rfl rfl (by kernel_rfl) (fun _ _ _ h => h) (Or.inl ⟨by rfl, ?_⟩) ?_ ?_
    rotate_left
    ·intro w'
     go_simp
     with_reducible rfl
    rotate_left
    ·simp only [pmsP]
     rfl
    refine take_ (i := 1) (N := some 122) (v := ?_) (a' := ?_) pm103 rfl rfl (by kernel_rfl) (fun _ _ _ h => h) (Or.inl ⟨by rfl, ?_⟩) hHeld ?_ ?_
    rotate_left
    ·rintro w' ⟨s0, s1, s2⟩
     go_simp
     with_reducible rfl
    rotate_left
    ·simp only [pmsP]
     rfl
    refine pure_ (i := 2) (N := some 123) (v := ?_) (a' := ?_) pm104 rfl rfl (by kernel_rfl) (fun _ _ _ h => h) (Or.inl ⟨by rfl, ?_⟩) ?_ ?_
    rotate_left
    ·intro w'
     go_simp
     with_reducible rfl
    rotate_left
    ·simp only [pmsP]
     rfl
    refine pure_ (i := 3) (N := some 124) (v := ?_) (a' := ?_) pm105 rfl rfl (by kernel_rfl) (fun _ _ _ h => h) (Or.inl ⟨by rfl, ?_⟩) ?_ ?_
    rotate_left
    ·intro w'
     go_simp
     with_reducible rfl
    rotate_left
    ·simp only [pmsP]
     rfl
    refine pure_ (i := 4) (N := some 125) (v := ?_) (a' := ?_) pm106 rfl rfl (by kernel_rfl) (fun _ _ _ h => h) (Or.inl ⟨by rfl, ?_⟩) ?_ ?_
    rotate_left
    ·intro w'
     go_simp
     with_reducible rfl
    rotate_left
    ·simp only [pmsP]
     rfl
    refine pure_ (i := 5) (N := some 126) (v := ?_) (a' := ?_) pm107 rfl rfl (by kernel_rfl) (fun _ _ _ h => h) (Or.inl ⟨by rfl, ?_⟩) ?_ ?_
    rotate_left
    ·intro w'
     go_simp
     with_reducible rfl
    rotate_left
    ·simp only [pmsP]
     rfl
    refine pure_ (i := 7) (N := some 128) (v := ?_) (a' := ?_) pm108 rfl rfl (by kernel_rfl) (fun _ _ _ h => h) (Or.inl ⟨by rfl, ?_⟩) ?_ ?_
    rotate_left
    ·intro w'
     go_simp
     with_reducible rfl
    rotate_left
    ·simp only [pmsP]
     rfl
    refine pure_ (i := 8) (N := some 129) (v := ?_) (a' := ?_) pm109 rfl rfl (by kernel_rfl) (fun _ _ _ h => h) (Or.inl ⟨by rfl, ?_⟩) ?_ ?_
    rotate_left
    ·intro w'
     go_simp
     with_reducible rfl
    rotate_left
    ·simp only [pmsP]
     rfl
    refine take_ (i := 6) (N := some 127) (v := ?_) (a' := ?_) pm110 rfl rfl (by kernel_rfl) (fun _ _ _ h => h) (Or.inl ⟨by rfl, ?_⟩) hHeld ?_ ?_
    rotate_left
    ·rintro w' ⟨s0, s1, s2⟩
     go_simp
     with_reducible rfl
    rotate_left
    ·simp only [pmsP]
     rfl
    refine pure_ (i := 9) (N := some 130) (v := ?_) (a' := ?_) pm111 rfl rfl (by kernel_rfl) (fun _ _ _ h => h) (Or.inl ⟨by rfl, ?_⟩) ?_ ?_
    rotate_left
    ·intro w'
     go_simp
     with_reducible rfl
    rotate_left
    ·simp only [pmsP]
     rfl
    refine take_ (i := 10) (N := some 131) (v := ?_) (a' := ?_) pm112 rfl rfl (by kernel_rfl) (fun _ _ _ h => h) (Or.inl ⟨by rfl, ?_⟩) hHeld ?_ ?_
    rotate_left
    ·rintro w' ⟨s0, s1, s2⟩
     go_simp
     with_reducible rfl
    rotate_left
    ·simp only [pmsP]
     rfl
    refine pure_ (i := 11) (N := some 132) (v := ?_) (a' := ?_) pm113 rfl rfl (by kernel_rfl) (fun _ _ _ h => h) (Or.inl ⟨by rfl, ?_⟩) ?_ ?_
    rotate_left
    ·intro w'
     go_simp
     with_reducible rfl
    rotate_left
    ·simp only [pmsP]
     rfl
    refine done_ (by kernel_rfl) ?_
    have HS12 := Aside0.mk (HS11.out.below hHeld.2.2 hbs (by omega))
    clear p2 fp2 c3 f3 hHeld
    generalize w11.drew = w12 at HS12 ⊢
    go_wp2
    obtain ⟨p2, fp2⟩ := HS12.out.box HPT.out.1 (by omega) (by omega) 2 (.int .i64 0) (by rw [show arm = 0 from HI.out.2.1]; rfl)
    refine start_ (n := 7) (S := fun w' => w'.cell? ⟨W.heap.size, 2, none⟩ = some (.int .i64 0) ∧ Below w12.heap.size w12 w') (ds := [6]) pm114 (by kernel_rfl) rfl rfl ⟨(cell_b p2 (belowD (Below.refl _ _))), (belowD (Below.refl _ _))⟩ (fun hHeld => ?_)
    generalize w12.drew = wd at hHeld ⊢
    have HSTd := Aside0.mk (HS12.out.below hHeld.2 hbs (by omega))
    obtain ⟨cw, fw⟩ := HSTd.out.cell 3 (.bool true) rfl
    refine pure_ (i := 0) (N := some 133) (v := ?_) (a' := ?_) pm115 rfl rfl (by kernel_rfl) (fun _ _ _ h => h) (Or.inl ⟨by rfl, ?_⟩) ?_ ?_
    rotate_left
    ·intro w'
     go_simp
     with_reducible rfl
    rotate_left
    ·simp only [pmsP]
     rfl
    refine pure_ (i := 1) (N := some 134) (v := ?_) (a' := ?_) pm116 rfl rfl (by kernel_rfl) (fun _ _ _ h => h) (Or.inl ⟨by rfl, ?_⟩) ?_ ?_
    rotate_left
    ·intro w'
     go_simp
     with_reducible rfl
    rotate_left
    ·simp only [pmsP]
     rfl
    refine pure_ (i := 3) (N := some 136) (v := ?_) (a' := ?_) pm117 rfl rfl (by kernel_rfl) (fun _ _ _ h => h) (Or.inl ⟨by rfl, ?_⟩) ?_ ?_
    rotate_left
    ·intro w'
     go_simp
     with_reducible rfl
    rotate_left
    ·simp only [pmsP]
     rfl
    refine pure_ (i := 4) (N := some 137) (v := ?_) (a' := ?_) pm118 rfl rfl (by kernel_rfl) (fun _ _ _ h => h) (Or.inl ⟨by rfl, ?_⟩) ?_ ?_
    rotate_left
    ·intro w'
     go_simp
     with_reducible rfl
    rotate_left
    ·simp only [pmsP]
     rfl
    refine take_ (i := 2) (N := some 135) (v := ?_) (a' := ?_) pm119 rfl rfl (by kernel_rfl) (fun _ _ _ h => h) (Or.inl ⟨by rfl, ?_⟩) hHeld ?_ ?_
    rotate_left
    ·rintro w' ⟨s0, s1⟩
     go_simp
     with_reducible rfl
    rotate_left
    ·simp only [pmsP]
     rfl
    refine pure_ (i := 5) (N := some 138) (v := ?_) (a' := ?_) pm120 rfl rfl (by kernel_rfl) (fun _ _ _ h => h) (Or.inl ⟨by rfl, ?_⟩) ?_ ?_
    rotate_left
    ·intro w'
     go_simp
     with_reducible rfl
    rotate_left
    ·simp only [pmsP]
     rfl
    refine last_ (i := 6) (N := none) pm121 rfl rfl (by kernel_rfl) (by decide) (fun K hK => ?_)
    refine skip_ (w1 := ?_) (by rfl) rfl ?_ ?_
    rotate_left
    ·go_simp
     rfl
    refine hK.out _ _ ?_
    clear hK K
    refine done_ (by kernel_rfl) ?_
    have hS13 := HSTd.out.set_rest hgl hbase 1 (.bool false)
    simp only [List.set_cons_zero, List.set_cons_succ] at hS13
    generalize wd.setCell ⟨g, 3, none⟩ (.bool false) = w13 at hS13 ⊢
    have HS13 := Aside0.mk hS13
    clear hS13 p2 fp2 cw fw hHeld
    obtain ⟨c3, f3⟩ := HS13.out.cell 3 (.bool false) rfl
    obtain ⟨c4, f4⟩ := HS13.out.cell 4 (.bool false) rfl
    go_wp2

    clear c3 f3 c4 f4
    obtain ⟨c0, f0⟩ := HS13.out.cell 0 (.slice (some ⟨ga, 0, none⟩) s.arms.length ca) rfl
    obtain ⟨c2, f2⟩ := HS13.out.cell 2 (.int .i64 s.sp) rfl
    refine start_ (n := 20) (S := fun w' => w'.cell? ⟨g, 0, none⟩ = some (.slice (some ⟨ga, 0, none⟩) s.arms.length ca) ∧ w'.cell? ⟨g, 2, none⟩ = some (.int .i64 s.sp) ∧ Below w13.heap.size w13 w') (ds := [16, 19]) pm122 (by kernel_rfl) rfl rfl ⟨(cell_b c0 (belowD (Below.refl _ _))), (cell_b c2 (belowD (Below.refl _ _))), (belowD (Below.refl _ _))⟩ (fun hHeld => ?_)
    generalize w13.drew = wd at hHeld ⊢
    have HSTd := Aside0.mk (HS13.out.below hHeld.2.2 hbs (by omega))
    have HSTa := Aside0.mk (HSTd.out.below (belowA (Below.refl _ _) (.cells #[.int .i64 s.sp, .bool false, .bool true, .int .i64 s.sp, .bool false, .bool true] 93)) hbs (by omega))
    refine pure_ (i := 0) (N := some 145) (v := ?_) (a' := ?_) pm123 rfl rfl (by kernel_rfl) (fun _ _ _ h => h) (Or.inl ⟨by rfl, ?_⟩) ?_ ?_
    rotate_left
    ·intro w'
     go_simp
     with_reducible rfl
    rotate_left
    ·simp only [pmsP]
     rfl
    refine pure_ (i := 1) (N := some 146) (v := ?_) (a' := ?_) pm124 rfl rfl (by kernel_rfl) (fun _ _ _ h => h) (Or.inl ⟨by rfl, ?_⟩) ?_ ?_
    rotate_left
    ·intro w'
     go_simp
     with_reducible rfl
    rotate_left
    ·simp only [pmsP]
     rfl
    refine pure_ (i := 2) (N := some 147) (v := ?_) (a' := ?_) pm125 rfl rfl (by kernel_rfl) (fun _ _ _ h => h) (Or.inl ⟨by rfl, ?_⟩) ?_ ?_
    rotate_left
    ·intro w'
     go_simp
     with_reducible rfl
    rotate_left
    ·simp only [pmsP]
     rfl
    refine pure_ (i := 3) (N := some 148) (v := ?_) (a' := ?_) pm126 rfl rfl (by kernel_rfl) (fun _ _ _ h => h) (Or.inl ⟨by rfl, ?_⟩) ?_ ?_
    rotate_left
    ·intro w'
     go_simp
     with_reducible rfl
    rotate_left
    ·simp only [pmsP]
     rfl
    refine pure_ (i := 5) (N := some 150) (v := ?_) (a' := ?_) pm127 rfl rfl (by kernel_rfl) (fun _ _ _ h => h) (Or.inl ⟨by rfl, ?_⟩) ?_ ?_
    rotate_left
    ·intro w'
     go_simp
     with_reducible rfl
    rotate_left
    ·simp only [pmsP]
     rfl
    refine pure_ (i := 6) (N := some 151) (v := ?_) (a' := ?_) pm128 rfl rfl (by kernel_rfl) (fun _ _ _ h => h) (Or.inl ⟨by rfl, ?_⟩) ?_ ?_
    rotate_left
    ·intro w'
     go_simp
     with_reducible rfl
    rotate_left
    ·simp only [pmsP]
     rfl
    refine pure_ (i := 7) (N := some 152) (v := ?_) (a' := ?_) pm129 rfl rfl (by kernel_rfl) (fun _ _ _ h => h) (Or.inl ⟨by rfl, ?_⟩) ?_ ?_
    rotate_left
    ·intro w'
     go_simp
     with_reducible rfl
    rotate_left
    ·simp only [pmsP]
     rfl
    refine pure_ (i := 10) (N := some 155) (v := ?_) (a' := ?_) pm130 rfl rfl (by kernel_rfl) (fun _ _ _ h => h) (Or.inl ⟨by rfl, ?_⟩) ?_ ?_
    rotate_left
    ·intro w'
     go_simp
     with_reducible rfl
    rotate_left
    ·simp only [pmsP]
     rfl
    refine pure_ (i := 11) (N := some 156) (v := ?_) (a' := ?_) pm131 rfl rfl (by kernel_rfl) (fun _ _ _ h => h) (Or.inl ⟨by rfl, ?_⟩) ?_ ?_
    rotate_left
    ·intro w'
     go_simp
     with_reducible rfl
    rotate_left
    ·simp only [pmsP]
     rfl
    refine pure_ (i := 12) (N := some 157) (v := ?_) (a' := ?_) pm132 rfl rfl (by kernel_rfl) (fun _ _ _ h => h) (Or.inl ⟨by rfl, ?_⟩) ?_ ?_
    rotate_left
    ·intro w'
     go_simp
     with_reducible rfl
    rotate_left
    ·simp only [pmsP]
     rfl
    refine take_ (i := 4) (N := some 149) (v := ?_) (a' := ?_) pm133 rfl rfl (by kernel_rfl) (fun _ _ _ h => h) (Or.inl ⟨by rfl, ?_⟩) hHeld ?_ ?_
    rotate_left
    ·rintro w' ⟨s0, s1, s2⟩
     go_simp
     with_reducible rfl
    rotate_left
    ·simp only [pmsP]
     rfl
    refine take_ (i := 8) (N := some 153) (v := ?_) (a' := ?_) pm134 rfl rfl (by kernel_rfl) (fun _ _ _ h => h) (Or.inl ⟨by rfl, ?_⟩) hHeld ?_ ?_
    rotate_left
    ·rintro w' ⟨s0, s1, s2⟩
     go_simp
     with_reducible rfl
    rotate_left
    ·simp only [pmsP]
     rfl
    refine pure_ (i := 9) (N := some 154) (v := ?_) (a' := ?_) pm135 rfl rfl (by kernel_rfl) (fun _ _ _ h => h) (Or.inl ⟨by rfl, ?_⟩) ?_ ?_
    rotate_left
    ·intro w'
     go_simp
     with_reducible rfl
    rotate_left
    ·simp only [pmsP]
     rfl
    refine take_ (i := 13) (N := some 158) (v := ?_) (a' := ?_) pm136 rfl rfl (by kernel_rfl) (fun _ _ _ h => h) (Or.inl ⟨by rfl, ?_⟩) hHeld ?_ ?_
    rotate_left
    ·rintro w' ⟨s0, s1, s2⟩
     go_simp
     with_reducible rfl
    rotate_left
    ·simp only [pmsP]
     rfl
    refine pure_ (i := 14) (N := some 159) (v := ?_) (a' := ?_) pm137 rfl rfl (by kernel_rfl) (fun _ _ _ h => h) (Or.inl ⟨by rfl, ?_⟩) ?_ ?_
    rotate_left
    ·intro w'
     go_simp
     with_reducible rfl
    rotate_left
    ·simp only [pmsP]
     rfl
    refine one_ (i := 15) (N := some 160) pm138 rfl rfl (by kernel_rfl) (by decide) (fun K hK => ?_)
    refine value_ (w1 := ?_) (v := ?_) (by rfl) rfl ?_ ?_
    rotate_left 2
    ·go_simp
     constructor
     ·rfl
     ·rfl
    refine hK.out _ _ ⟨(cell_b c0 (belowA hHeld.2.2 _)), (cell_b c2 (belowA hHeld.2.2 _)), (belowA hHeld.2.2 _)⟩ (fun hHeld => ?_)
    clear hK K
    refine norm_ (a' := ?_) ?_ ?_
    rotate_left
    ·show Act.put _ (some 160) _ = _
     simp only [pmsP]
     rfl
    refine last_ (i := 16) (N := some 161) pm139 rfl rfl (by kernel_rfl) (by decide) (fun K hK => ?_)
    refine Kd.R_append_rows_step k93 (w0 := W) (Rr := fun x cs => cs = [.int .i64 x.f0, .bool x.f1, .bool x.f2]) base (by rfl) (.tmp 149) (.tmp 160) 66 93 (.agg #[(.int .i64 0), .bool false, .bool false]) 16 rfl Try.underlying66 infoArm rfl (by decide) (by omega) (.slice (some ⟨ga, 0, none⟩) s.arms.length ca) (s.arms.set 0 ⟨t.f0 + t.f1 - x.f0, dblB t, false⟩) [(⟨s.sp, false, true⟩ : S93), (⟨s.sp, false, true⟩ : S93)] (some ⟨wd.heap.size, 0, none⟩) 2 2 (fun k => k ≠ g ∧ (k < W.heap.size ∨ W.heap.size + 2 ≤ k)) (fun _ => False) rfl rfl ?aO ?aR ?aK (fun _ hk => hk.elim) ?aF ?aB ?aS ?aL ?_
    (case aO => exact HSTa.out.RA)
    (case aR => exact reads_arms (heap_alloc_new _ _))
    (case aK => intro x cs hx; rw [hx]; exact k93_mkM _ _ _ x)
    (case aB => exact HSTa.out.BL)
    (case aF => intro k hk; have h1 := HSTa.out.SZ; exact ⟨by omega, .inr (by omega)⟩)
    (case aS => have h1 := HSTa.out.SZ; omega)
    (case aL => have := hlen.1; rw [List.length_set]; omega)
    intro v17 w17 ho17 hb17 hg17 _
    obtain ⟨A17, c17, hv17, _, _⟩ := Kd.R_reads ho17
    generalize (s.arms.set 0 ⟨t.f0 + t.f1 - x.f0, dblB t, false⟩ ++ [(⟨s.sp, false, true⟩ : S93), (⟨s.sp, false, true⟩ : S93)]).length = n17 at hv17
    subst hv17
    refine hK.out _ _ ?_
    clear hK K
    refine norm_ (a' := ?_) ?_ ?_
    rotate_left
    ·show Act.put _ (some 161) _ = _
     simp only [pmsP]
     rfl
    refine pure_ (i := 17) (N := some 162) (v := ?_) (a' := ?_) pm140 rfl rfl (by kernel_rfl) (fun _ _ _ h => h) (Or.inl ⟨by rfl, ?_⟩) ?_ ?_
    rotate_left
    ·intro w'
     go_simp
     with_reducible rfl
    rotate_left
    ·simp only [pmsP]
     rfl
    refine pure_ (i := 18) (N := some 163) (v := ?_) (a' := ?_) pm141 rfl rfl (by kernel_rfl) (fun _ _ _ h => h) (Or.inl ⟨by rfl, ?_⟩) ?_ ?_
    rotate_left
    ·intro w'
     go_simp
     with_reducible rfl
    rotate_left
    ·simp only [pmsP]
     rfl
    refine last_ (i := 19) (N := none) pm142 rfl rfl (by kernel_rfl) (by decide) (fun K hK => ?_)
    have hG17 := (hg17.block g (Array.getElem?_eq_some_iff.1 HSTa.out.G).1 (Kd.R_away HSTa.out.RA (fun k hk => hk.1))).trans HSTa.out.G
    obtain ⟨c0', f0'⟩ := heap_cell hG17 0 (.slice (some ⟨ga, 0, none⟩) s.arms.length ca) rfl
    refine skip_ (w1 := ?_) (by rfl) rfl ?_ ?_
    rotate_left
    ·go_simp
     rfl
    refine hK.out _ _ ?_
    clear hK K
    refine done_ (by kernel_rfl) ?_
    have hS18 := HSTa.out.arms_grown hgl hbase hb17 hg17 ho17
    generalize w17.setCell ⟨g, 0, none⟩ (.slice A17 n17 c17) = w18 at hS18 ⊢
    have HS18 := Aside0.mk hS18
    clear hS18 hG17 c0' f0' c0 f0 c2 f2 ho17 hb17 hg17
    obtain ⟨t0, ft0⟩ := HS18.out.box HPT.out.2 (by omega) (by omega) 0 (.int .i64 t.f0) rfl
    obtain ⟨t1, ft1⟩ := HS18.out.box HPT.out.2 (by omega) (by omega) 1 (.int .i64 t.f1) rfl
    obtain ⟨c2, f2⟩ := HS18.out.cell 2 (.int .i64 s.sp) rfl
    by_cases hd : dblB t = true
    rotate_left
    ·have hdf : dblB t = false := by simpa using hd
     go_wp2_with (go_at_call 104; refine (impl_isDouble.calls t.f0 t.f1 false _ (congrArg some hdf)).mono ?_; rintro e w30 ⟨rfl, hb30⟩; have HB30 := Aside0.mk hb30; clear hb30)

     obtain rfl : o = _ := HO.out.symm.trans HP.out
     go_ret
     have hF := HS18.out.below HB30.out hbs (by omega)
     have e : nextS s t 0 x.f0 = ⟨s.arms.set 0 ⟨t.f0 + t.f1 - x.f0, dblB t, false⟩ ++ [(⟨s.sp, false, true⟩ : S93), (⟨s.sp, false, true⟩ : S93)], s.tiles ++ [t], s.sp, false, false⟩ := by first | (simp [nextS, hwi, hwo, hdf]; done) | (simp [nextS, hwi, hwo, hdf]; intro h_; omega)
     exact ⟨rfl, by rw [Option.getD_some, e]; exact St.done (s := ⟨_, _, _, _, _⟩) hF, hF.BL⟩
    by_cases hs : s.sp < 0
    rotate_left
    ·have hsb : decide (s.sp < 0) = false := decide_eq_false hs
     go_wp2_with (go_at_call 104; refine (impl_isDouble.calls t.f0 t.f1 true _ (congrArg some hd)).mono ?_; rintro e w30 ⟨rfl, hb30⟩; have c2' := cell_b c2 hb30; have HB30 := Aside0.mk hb30; clear hb30)
     obtain rfl : o = _ := HO.out.symm.trans HP.out
     go_ret
     have hF := HS18.out.below HB30.out hbs (by omega)
     have e : nextS s t 0 x.f0 = ⟨s.arms.set 0 ⟨t.f0 + t.f1 - x.f0, dblB t, false⟩ ++ [(⟨s.sp, false, true⟩ : S93), (⟨s.sp, false, true⟩ : S93)], s.tiles ++ [t], s.sp, false, false⟩ := by first | (simp [nextS, hwi, hwo, hd, hs]; done) | (simp [nextS, hwi, hwo, hd, hs]; intro h_; omega)
     exact ⟨rfl, by rw [Option.getD_some, e]; exact St.done (s := ⟨_, _, _, _, _⟩) hF, hF.BL⟩
    have hsb : decide (s.sp < 0) = true := decide_eq_true hs
    go_wp2_with (go_at_call 104; refine (impl_isDouble.calls t.f0 t.f1 true _ (congrArg some hd)).mono ?_; rintro e w30 ⟨rfl, hb30⟩; have c2' := cell_b c2 hb30; have t0' := cell_b t0 hb30; have t1' := cell_b t1 hb30; have f2' := froz_b HS18.out.G hb30 2; have HB30 := Aside0.mk hb30; clear hb30)
    have hS31 := (HS18.out.below HB30.out hbs (by omega)).set_rest hgl hbase 0 (.int .i64 t.f0)
    simp only [List.set_cons_zero] at hS31
    generalize w30.setCell ⟨g, 2, none⟩ (.int .i64 t.f0) = w31 at hS31 ⊢
    have HS31 := Aside0.mk hS31
    clear hS31 t0 ft0 t1 ft1 c2 f2 c2' t0' t1' f2'
    obtain ⟨p2, fp2⟩ := HS31.out.box HPT.out.1 (by omega) (by omega) 2 (.int .i64 0) (by rw [show arm = 0 from HI.out.2.1]; rfl)
    refine start_ (n := 7) (S := fun w' => w'.cell? ⟨W.heap.size, 2, none⟩ = some (.int .i64 0) ∧ Below w31.heap.size w31 w') (ds := [6]) pm114 (by kernel_rfl) rfl rfl ⟨(cell_b p2 (belowD (Below.refl _ _))), (belowD (Below.refl _ _))⟩ (fun hHeld => ?_)
    generalize w31.drew = wd at hHeld ⊢
    have HSTd := Aside0.mk (HS31.out.below hHeld.2 hbs (by omega))
    obtain ⟨cw, fw⟩ := HSTd.out.cell 3 (.bool false) rfl
    refine pure_ (i := 0) (N := some 178) (v := ?_) (a' := ?_) pm115 rfl rfl (by kernel_rfl) (fun _ _ _ h => h) (Or.inl ⟨by rfl, ?_⟩) ?_ ?_
    rotate_left
    ·intro w'
     go_simp
     with_reducible rfl
    rotate_left
    ·simp only [pmsP]
     rfl
    refine pure_ (i := 1) (N := some 179) (v := ?_) (a' := ?_) pm116 rfl rfl (by kernel_rfl) (fun _ _ _ h => h) (Or.inl ⟨by rfl, ?_⟩) ?_ ?_
    rotate_left
    ·intro w'
     go_simp
     with_reducible rfl
    rotate_left
    ·simp only [pmsP]
     rfl
    refine pure_ (i := 3) (N := some 181) (v := ?_) (a' := ?_) pm117 rfl rfl (by kernel_rfl) (fun _ _ _ h => h) (Or.inl ⟨by rfl, ?_⟩) ?_ ?_
    rotate_left
    ·intro w'
     go_simp
     with_reducible rfl
    rotate_left
    ·simp only [pmsP]
     rfl
    refine pure_ (i := 4) (N := some 182) (v := ?_) (a' := ?_) pm118 rfl rfl (by kernel_rfl) (fun _ _ _ h => h) (Or.inl ⟨by rfl, ?_⟩) ?_ ?_
    rotate_left
    ·intro w'
     go_simp
     with_reducible rfl
    rotate_left
    ·simp only [pmsP]
     rfl
    refine take_ (i := 2) (N := some 180) (v := ?_) (a' := ?_) pm119 rfl rfl (by kernel_rfl) (fun _ _ _ h => h) (Or.inl ⟨by rfl, ?_⟩) hHeld ?_ ?_
    rotate_left
    ·rintro w' ⟨s0, s1⟩
     go_simp
     with_reducible rfl
    rotate_left
    ·simp only [pmsP]
     rfl
    refine pure_ (i := 5) (N := some 183) (v := ?_) (a' := ?_) pm120 rfl rfl (by kernel_rfl) (fun _ _ _ h => h) (Or.inl ⟨by rfl, ?_⟩) ?_ ?_
    rotate_left
    ·intro w'
     go_simp
     with_reducible rfl
    rotate_left
    ·simp only [pmsP]
     rfl
    refine last_ (i := 6) (N := none) pm121 rfl rfl (by kernel_rfl) (by decide) (fun K hK => ?_)
    refine skip_ (w1 := ?_) (by rfl) rfl ?_ ?_
    rotate_left
    ·go_simp
     rfl
    refine hK.out _ _ ?_
    clear hK K
    refine done_ (by kernel_rfl) ?_
    go_wp2
    obtain rfl : o = _ := HO.out.symm.trans HP.out
    go_ret
    have hF := HSTd.out.set_rest hgl hbase 1 (.bool true)
    have e : nextS s t 0 x.f0 = ⟨s.arms.set 0 ⟨t.f0 + t.f1 - x.f0, dblB t, false⟩ ++ [(⟨s.sp, false, true⟩ : S93), (⟨s.sp, false, true⟩ : S93)], s.tiles ++ [t], t.f0, true, false⟩ := by first | (simp [nextS, hwi, hwo, hd, hs]; done) | (simp [nextS, hwi, hwo, hd, hs]; intro h_; omega)
    exact ⟨rfl, by rw [Option.getD_some, e]; exact St.done (s := ⟨_, _, _, _, _⟩) hF, hF.BL⟩
   ·rw [hwi, hwo] at HS11
    obtain ⟨p2, fp2⟩ := HS11.out.box HPT.out.1 (by omega) (by omega) 2 (.int .i64 0) (by rw [show arm = 0 from HI.out.2.1]; rfl)
    obtain ⟨c3, f3⟩ := HS11.out.cell 3 (.bool true) rfl
    refine start_ (n := 12) (S := fun w' => w'.cell? ⟨W.heap.size, 2, none⟩ = some (.int .i64 0) ∧ w'.cell? ⟨g, 3, none⟩ = some (.bool true) ∧ Below w11.heap.size w11 w') (ds := []) pm101 (by kernel_rfl) rfl rfl ⟨(cell_b p2 (belowD (Below.refl _ _))), (cell_b c3 (belowD (Below.refl _ _))), (belowD (Below.refl _ _))⟩ (fun hHeld => ?_)
    refine pure_ (i := 0) (N := some 121) (v := ?_) (a' := ?_) pm102 rfl rfl (by kernel_rfl) (fun _ _ _ h => h) (Or.inl ⟨by rfl, ?_⟩) ?_ ?_
    rotate_left
    ·intro w'
     go_simp
     with_reducible rfl
    rotate_left
    ·simp only [pmsP]
     rfl
    refine take_ (i := 1) (N := some 122) (v := ?_) (a' := ?_) pm103 rfl rfl (by kernel_rfl) (fun _ _ _ h => h) (Or.inl ⟨by rfl, ?_⟩) hHeld ?_ ?_
    rotate_left
    ·rintro w' ⟨s0, s1, s2⟩
     go_simp
     with_reducible rfl
    rotate_left
    ·simp only [pmsP]
     rfl
    refine pure_ (i := 2) (N := some 123) (v := ?_) (a' := ?_) pm104 rfl rfl (by kernel_rfl) (fun _ _ _ h => h) (Or.inl ⟨by rfl, ?_⟩) ?_ ?_
    rotate_left
    ·intro w'
     go_simp
     with_reducible rfl
    rotate_left
    ·simp only [pmsP]
     rfl
    refine pure_ (i := 3) (N := some 124) (v := ?_) (a' := ?_) pm105 rfl rfl (by kernel_rfl) (fun _ _ _ h => h) (Or.inl ⟨by rfl, ?_⟩) ?_ ?_
    rotate_left
    ·intro w'
     go_simp
     with_reducible rfl
    rotate_left
    ·simp only [pmsP]
     rfl
    refine pure_ (i := 4) (N := some 125) (v := ?_) (a' := ?_) pm106 rfl rfl (by kernel_rfl) (fun _ _ _ h => h) (Or.inl ⟨by rfl, ?_⟩) ?_ ?_
    rotate_left
    ·intro w'
     go_simp
     with_reducible rfl
    rotate_left
    ·simp only [pmsP]
     rfl
    refine pure_ (i := 5) (N := some 126) (v := ?_) (a' := ?_) pm107 rfl rfl (by kernel_rfl) (fun _ _ _ h => h) (Or.inl ⟨by rfl, ?_⟩) ?_ ?_
    rotate_left
    ·intro w'
     go_simp
     with_reducible rfl
    rotate_left
    ·simp only [pmsP]
     rfl
    refine pure_ (i := 7) (N := some 128) (v := ?_) (a' := ?_) pm108 rfl rfl (by kernel_rfl) (fun _ _ _ h => h) (Or.inl ⟨by rfl, ?_⟩) ?_ ?_
    rotate_left
    ·intro w'
     go_simp
     with_reducible rfl
    rotate_left
    ·simp only [pmsP]
     rfl
    refine pure_ (i := 8) (N := some 129) (v := ?_) (a' := ?_) pm109 rfl rfl (by kernel_rfl) (fun _ _ _ h => h) (Or.inl ⟨by rfl, ?_⟩) ?_ ?_
    rotate_left
    ·intro w'
     go_simp
     with_reducible rfl
    rotate_left
    ·simp only [pmsP]
     rfl
    refine take_ (i := 6) (N := some 127) (v := ?_) (a' := ?_) pm110 rfl rfl (by kernel_rfl) (fun _ _ _ h => h) (Or.inl ⟨by rfl, ?_⟩) hHeld ?_ ?_
    rotate_left
    ·rintro w' ⟨s0, s1, s2⟩
     go_simp
     with_reducible rfl
    rotate_left
    ·simp only [pmsP]
     rfl
    refine pure_ (i := 9) (N := some 130) (v := ?_) (a' := ?_) pm111 rfl rfl (by kernel_rfl) (fun _ _ _ h => h) (Or.inl ⟨by rfl, ?_⟩) ?_ ?_
    rotate_left
    ·intro w'
     go_simp
     with_reducible rfl
    rotate_left
    ·simp only [pmsP]
     rfl
    refine take_ (i := 10) (N := some 131) (v := ?_) (a' := ?_) pm112 rfl rfl (by kernel_rfl) (fun _ _ _ h => h) (Or.inl ⟨by rfl, ?_⟩) hHeld ?_ ?_
    rotate_left
    ·rintro w' ⟨s0, s1, s2⟩
     go_simp
     with_reducible rfl
    rotate_left
    ·simp only [pmsP]
     rfl
    refine pure_ (i := 11) (N := some 132) (v := ?_) (a' := ?_) pm113 rfl rfl (by kernel_rfl) (fun _ _ _ h => h) (Or.inl ⟨by rfl, ?_⟩) ?_ ?_
    rotate_left
    ·intro w'
     go_simp
     with_reducible rfl
    rotate_left
    ·simp only [pmsP]
     rfl
    refine done_ (by kernel_rfl) ?_
    have HS12 := Aside0.mk (HS11.out.below hHeld.2.2 hbs (by omega))
    clear p2 fp2 c3 f3 hHeld
    generalize w11.drew = w12 at HS12 ⊢
    go_wp2
    obtain ⟨p2, fp2⟩ := HS12.out.box HPT.out.1 (by omega) (by omega) 2 (.int .i64 0) (by rw [show arm = 0 from HI.out.2.1]; rfl)
    refine start_ (n := 7) (S := fun w' => w'.cell? ⟨W.heap.size, 2, none⟩ = some (.int .i64 0) ∧ Below w12.heap.size w12 w') (ds := [6]) pm114 (by kernel_rfl) rfl rfl ⟨(cell_b p2 (belowD (Below.refl _ _))), (belowD (Below.refl _ _))⟩ (fun hHeld => ?_)
    generalize w12.drew = wd at hHeld ⊢
    have HSTd := Aside0.mk (HS12.out.below hHeld.2 hbs (by omega))
    obtain ⟨cw, fw⟩ := HSTd.out.cell 3 (.bool true) rfl
    refine pure_ (i := 0) (N := some 133) (v := ?_) (a' := ?_) pm115 rfl rfl (by kernel_rfl) (fun _ _ _ h => h) (Or.inl ⟨by rfl, ?_⟩) ?_ ?_
    rotate_left
    ·intro w'
     go_simp
     with_reducible rfl
    rotate_left
    ·simp only [pmsP]
     rfl
    refine pure_ (i := 1) (N := some 134) (v := ?_) (a' := ?_) pm116 rfl rfl (by kernel_rfl) (fun _ _ _ h => h) (Or.inl ⟨by rfl, ?_⟩) ?_ ?_
    rotate_left
    ·intro w'
     go_simp
     with_reducible rfl
    rotate_left
    ·simp only [pmsP]
     rfl
    refine pure_ (i := 3) (N := some 136) (v := ?_) (a' := ?_) pm117 rfl rfl (by kernel_rfl) (fun _ _ _ h => h) (Or.inl ⟨by rfl, ?_⟩) ?_ ?_
    rotate_left
    ·intro w'
     go_simp
     with_reducible rfl
    rotate_left
    ·simp only [pmsP]
     rfl
    refine pure_ (i := 4) (N := some 137) (v := ?_) (a' := ?_) pm118 rfl rfl (by kernel_rfl) (fun _ _ _ h => h) (Or.inl ⟨by rfl, ?_⟩) ?_ ?_
    rotate_left
    ·intro w'
     go_simp
     with_reducible rfl
    rotate_left
    ·simp only [pmsP]
     rfl
    refine take_ (i := 2) (N := some 135) (v := ?_) (a' := ?_) pm119 rfl rfl (by kernel_rfl) (fun _ _ _ h => h) (Or.inl ⟨by rfl, ?_⟩) hHeld ?_ ?_
    rotate_left
    ·rintro w' ⟨s0, s1⟩
     go_simp
     with_reducible rfl
    rotate_left
    ·simp only [pmsP]
     rfl
    refine pure_ (i := 5) (N := some 138) (v := ?_) (a' := ?_) pm120 rfl rfl (by kernel_rfl) (fun _ _ _ h => h) (Or.inl ⟨by rfl, ?_⟩) ?_ ?_
    rotate_left
    ·intro w'
     go_simp
     with_reducible rfl
    rotate_left
    ·simp only [pmsP]
     rfl
    refine last_ (i := 6) (N := none) pm121 rfl rfl (by kernel_rfl) (by decide) (fun K hK => ?_)
    refine skip_ (w1 := ?_) (by rfl) rfl ?_ ?_
    rotate_left
    ·go_simp
     rfl
    refine hK.out _ _ ?_
    clear hK K
    refine done_ (by kernel_rfl) ?_
    have hS13 := HSTd.out.set_rest hgl hbase 1 (.bool false)
    simp only [List.set_cons_zero, List.set_cons_succ] at hS13
    generalize wd.setCell ⟨g, 3, none⟩ (.bool false) = w13 at hS13 ⊢
    have HS13 := Aside0.mk hS13
    clear hS13 p2 fp2 cw fw hHeld
    obtain ⟨c3, f3⟩ := HS13.out.cell 3 (.bool false) rfl
    obtain ⟨c4, f4⟩ := HS13.out.cell 4 (.bool true) rfl
    obtain ⟨t0, ft0⟩ := HS13.out.box HPT.out.2 (by omega) (by omega) 0 (.int .i64 t.f0) rfl
    obtain ⟨t1, ft1⟩ := HS13.out.box HPT.out.2 (by omega) (by omega) 1 (.int .i64 t.f1) rfl
    obtain ⟨c2, f2⟩ := HS13.out.cell 2 (.int .i64 s.sp) rfl
    by_cases hd : dblB t = true
    rotate_left
    ·have hdf : dblB t = false := by simpa using hd
     go_wp2_with (go_at_call 104; refine (impl_isDouble.calls t.f0 t.f1 false _ (congrArg some hdf)).mono ?_; rintro e w30 ⟨rfl, hb30⟩; have HB30 := Aside0.mk hb30; clear hb30)

     obtain rfl : o = _ := HO.out.symm.trans HP.out
     go_ret
     have hF := HS13.out.below HB30.out hbs (by omega)
     have e : nextS s t 0 x.f0 = ⟨s.arms.set 0 ⟨t.f0 + t.f1 - x.f0, dblB t, false⟩, s.tiles ++ [t], s.sp, false, true⟩ := by first | (simp [nextS, hwi, hwo, hdf]; done) | (simp [nextS, hwi, hwo, hdf]; intro h_; omega)
     exact ⟨rfl, by rw [Option.getD_some, e]; exact St.done (s := ⟨_, _, _, _, _⟩) hF, hF.BL⟩
    by_cases hs : s.sp < 0
    rotate_left
    ·have hsb : decide (s.sp < 0) = false := decide_eq_false hs
     go_wp2_with (go_at_call 104; refine (impl_isDouble.calls t.f0 t.f1 true _ (congrArg some hd)).mono ?_; rintro e w30 ⟨rfl, hb30⟩; have c2' := cell_b c2 hb30; have HB30 := Aside0.mk hb30; clear hb30)
     obtain rfl : o = _ := HO.out.symm.trans HP.out
     go_ret
     have hF := HS13.out.below HB30.out hbs (by omega)
     have e : nextS s t 0 x.f0 = ⟨s.arms.set 0 ⟨t.f0 + t.f1 - x.f0, dblB t, false⟩, s.tiles ++ [t], s.sp, false, true⟩ := by first | (simp [nextS, hwi, hwo, hd, hs]; done) | (simp [nextS, hwi, hwo, hd, hs]; intro h_; omega)
     exact ⟨rfl, by rw [Option.getD_some, e]; exact St.done (s := ⟨_, _, _, _, _⟩) hF, hF.BL⟩
    have hsb : decide (s.sp < 0) = true := decide_eq_true hs
    go_wp2_with (go_at_call 104; refine (impl_isDouble.calls t.f0 t.f1 true _ (congrArg some hd)).mono ?_; rintro e w30 ⟨rfl, hb30⟩; have c2' := cell_b c2 hb30; have t0' := cell_b t0 hb30; have t1' := cell_b t1 hb30; have f2' := froz_b HS13.out.G hb30 2; have HB30 := Aside0.mk hb30; clear hb30)
    have hS31 := (HS13.out.below HB30.out hbs (by omega)).set_rest hgl hbase 0 (.int .i64 t.f0)
    simp only [List.set_cons_zero] at hS31
    generalize w30.setCell ⟨g, 2, none⟩ (.int .i64 t.f0) = w31 at hS31 ⊢
    have HS31 := Aside0.mk hS31
    clear hS31 t0 ft0 t1 ft1 c2 f2 c2' t0' t1' f2'
    obtain ⟨p2, fp2⟩ := HS31.out.box HPT.out.1 (by omega) (by omega) 2 (.int .i64 0) (by rw [show arm = 0 from HI.out.2.1]; rfl)
    refine start_ (n := 7) (S := fun w' => w'.cell? ⟨W.heap.size, 2, none⟩ = some (.int .i64 0) ∧ Below w31.heap.size w31 w') (ds := [6]) pm114 (by kernel_rfl) rfl rfl ⟨(cell_b p2 (belowD (Below.refl _ _))), (belowD (Below.refl _ _))⟩ (fun hHeld => ?_)
    generalize w31.drew = wd at hHeld ⊢
    have HSTd := Aside0.mk (HS31.out.below hHeld.2 hbs (by omega))
    obtain ⟨cw, fw⟩ := HSTd.out.cell 3 (.bool false) rfl
    refine pure_ (i := 0) (N := some 178) (v := ?_) (a' := ?_) pm115 rfl rfl (by kernel_rfl) (fun _ _ _ h => h) (Or.inl ⟨by rfl, ?_⟩) ?_ ?_
    rotate_left
    ·intro w'
     go_simp
     with_reducible rfl
    rotate_left
    ·simp only [pmsP]
     rfl
    refine pure_ (i := 1) (N := some 179) (v := ?_) (a' := ?_) pm116 rfl rfl (by kernel_rfl) (fun _ _ _ h => h) (Or.inl ⟨by rfl, ?_⟩) ?_ ?_
    rotate_left
    ·intro w'
     go_simp
     with_reducible rfl
    rotate_left
    ·simp only [pmsP]
     rfl
    refine pure_ (i := 3) (N := some 181) (v := ?_) (a' := ?_) pm117 rfl rfl (by kernel_rfl) (fun _ _ _ h => h) (Or.inl ⟨by rfl, ?_⟩) ?_ ?_
    rotate_left
    ·intro w'
     go_simp
     with_reducible rfl
    rotate_left
    ·simp only [pmsP]
     rfl
    refine pure_ (i := 4) (N := some 182) (v := ?_) (a' := ?_) pm118 rfl rfl (by kernel_rfl) (fun _ _ _ h => h) (Or.inl ⟨by rfl, ?_⟩) ?_ ?_
    rotate_left
    ·intro w'
     go_simp
     with_reducible rfl
    rotate_left
    ·simp only [pmsP]
     rfl
    refine take_ (i := 2) (N := some 180) (v := ?_) (a' := ?_) pm119 rfl rfl (by kernel_rfl) (fun _ _ _ h => h) (Or.inl ⟨by rfl, ?_⟩) hHeld ?_ ?_
    rotate_left
    ·rintro w' ⟨s0, s1⟩
     go_simp
     with_reducible rfl
    rotate_left
    ·simp only [pmsP]
     rfl
    refine pure_ (i := 5) (N := some 183) (v := ?_) (a' := ?_) pm120 rfl rfl (by kernel_rfl) (fun _ _ _ h => h) (Or.inl ⟨by rfl, ?_⟩) ?_ ?_
    rotate_left
    ·intro w'
     go_simp
     with_reducible rfl
    rotate_left
    ·simp only [pmsP]
     rfl
    refine last_ (i := 6) (N := none) pm121 rfl rfl (by kernel_rfl) (by decide) (fun K hK => ?_)
    refine skip_ (w1 := ?_) (by rfl) rfl ?_ ?_
    rotate_left
    ·go_simp
     rfl
    refine hK.out _ _ ?_
    clear hK K
    refine done_ (by kernel_rfl) ?_
    go_wp2
    obtain rfl : o = _ := HO.out.symm.trans HP.out
    go_ret
    have hF := HSTd.out.set_rest hgl hbase 1 (.bool true)
    have e : nextS s t 0 x.f0 = ⟨s.arms.set 0 ⟨t.f0 + t.f1 - x.f0, dblB t, false⟩, s.tiles ++ [t], t.f0, true, true⟩ := by first | (simp [nextS, hwi, hwo, hd, hs]; done) | (simp [nextS, hwi, hwo, hd, hs]; intro h_; omega)
    exact ⟨rfl, by rw [Option.getD_some, e]; exact St.done (s := ⟨_, _, _, _, _⟩) hF, hF.BL⟩
 ·cases hwi : s.w1
  ·rw [hwi] at HS11
   obtain ⟨p2, fp2⟩ := HS11.out.box HPT.out.1 (by omega) (by omega) 2 (.int .i64 1) (by rw [show arm = 1 from HI.out.2.1]; rfl)
   obtain ⟨c4, f4⟩ := HS11.out.cell 4 (.bool false) rfl
   refine start_ (n := 12) (S := fun w' => w'.cell? ⟨W.heap.size, 2, none⟩ = some (.int .i64 1) ∧ w'.cell? ⟨g, 4, none⟩ = some (.bool false) ∧ Below w11.heap.size w11 w') (ds := []) pm101 (by kernel_rfl) rfl rfl ⟨(cell_b p2 (belowD (Below.refl _ _))), (cell_b c4 (belowD (Below.refl _ _))), (belowD (Below.refl _ _))⟩ (fun hHeld => ?_)
   refine pure_ (i := 0) (N := some 121) (v := ?_) (a' := ?_) pm102 rfl rfl (by kernel_rfl) (fun _ _ _ h => h) (Or.inl ⟨by rfl, ?_⟩) ?_ ?_
   rotate_left
   ·intro w'
    go_simp
    with_reducible rfl
   rotate_left
   ·simp only [pmsP]
    rfl
   refine take_ (i := 1) (N := some 122) (v := ?_) (a' := ?_) pm103 rfl rfl (by kernel_rfl) (fun _ _ _ h => h) (Or.inl ⟨by rfl, ?_⟩) hHeld ?_ ?_
   rotate_left
   ·rintro w' ⟨s0, s1, s2⟩
    go_simp
    with_reducible rfl
   rotate_left
   ·simp only [pmsP]
    rfl
   refine pure_ (i := 2) (N := some 123) (v := ?_) (a' := ?_) pm104 rfl rfl (by kernel_rfl) (fun _ _ _ h => h) (Or.inl ⟨by rfl, ?_⟩) ?_ ?_
   rotate_left
   ·intro w'
    go_simp
    with_reducible rfl
   rotate_left
   ·simp only [pmsP]
    rfl
   refine pure_ (i := 3) (N := some 124) (v := ?_) (a' := ?_) pm105 rfl rfl (by kernel_rfl) (fun _ _ _ h => h) (Or.inl ⟨by rfl, ?_⟩) ?_ ?_
   rotate_left
   ·intro w'
    go_simp
    with_reducible rfl
   rotate_left
   ·simp only [pmsP]
    rfl
   refine pure_ (i := 4) (N := some 125) (v := ?_) (a' := ?_) pm106 rfl rfl (by kernel_rfl) (fun _ _ _ h => h) (Or.inl ⟨by rfl, ?_⟩) ?_ ?_
   rotate_left
   ·intro w'
    go_simp
    with_reducible rfl
   rotate_left
   ·simp only [pmsP]
    rfl
   refine pure_ (i := 5) (N := some 126) (v := ?_) (a' := ?_) pm107 rfl rfl (by kernel_rfl) (fun _ _ _ h => h) (Or.inl ⟨by rfl, ?_⟩) ?_ ?_
   rotate_left
   ·intro w'
    go_simp
    with_reducible rfl
   rotate_left
   ·simp only [pmsP]
    rfl
   refine pure_ (i := 7) (N := some 128) (v := ?_) (a' := ?_) pm108 rfl rfl (by kernel_rfl) (fun _ _ _ h => h) (Or.inl ⟨by rfl, ?_⟩) ?_ ?_
   rotate_left
   ·intro w'
    go_simp
    with_reducible rfl
   rotate_left
   ·simp only [pmsP]
    rfl
   refine pure_ (i := 8) (N := some 129) (v := ?_) (a' := ?_) pm109 rfl rfl (by kernel_rfl) (fun _ _ _ h => h) (Or.inl ⟨by rfl, ?_⟩) ?_ ?_
   rotate_left
   ·intro w'
    go_simp
    with_reducible rfl
   rotate_left
   ·simp only [pmsP]
    rfl
   refine take_ (i := 6) (N := some 127) (v := ?_) (a' := ?_) pm110 rfl rfl (by kernel_rfl) (fun _ _ _ h => h) (Or.inl ⟨by rfl, ?_⟩) hHeld ?_ ?_
   rotate_left
   ·rintro w' ⟨s0, s1, s2⟩
    go_simp
    with_reducible rfl
   rotate_left
   ·simp only [pmsP]
    rfl
   refine pure_ (i := 9) (N := some 130) (v := ?_) (a' := ?_) pm111 rfl rfl (by kernel_rfl) (fun _ _ _ h => h) (Or.inl ⟨by rfl, ?_⟩) ?_ ?_
   rotate_left
   ·intro w'
    go_simp
    with_reducible rfl
   rotate_left
   ·simp only [pmsP]
    rfl
   refine take_ (i := 10) (N := some 131) (v := ?_) (a' := ?_) pm112 rfl rfl (by kernel_rfl) (fun _ _ _ h => h) (Or.inl ⟨by rfl, ?_⟩) hHeld ?_ ?_
   rotate_left
   ·rintro w' ⟨s0, s1, s2⟩
    go_simp
    with_reducible rfl
   rotate_left
   ·simp only [pmsP]
    rfl
   refine pure_ (i := 11) (N := some 132) (v := ?_) (a' := ?_) pm113 rfl rfl (by kernel_rfl) (fun _ _ _ h => h) (Or.inl ⟨by rfl, ?_⟩) ?_ ?_
   rotate_left
   ·intro w'
    go_simp
    with_reducible rfl
   rotate_left
   ·simp only [pmsP]
    rfl
   refine done_ (by kernel_rfl) ?_
   have HS12 := Aside0.mk (HS11.out.below hHeld.2.2 hbs (by omega))
   clear p2 fp2 c4 f4 hHeld
   generalize w11.drew = w12 at HS12 ⊢
   obtain ⟨t0, ft0⟩ := HS12.out.box HPT.out.2 (by omega) (by omega) 0 (.int .i64 t.f0) rfl
   obtain ⟨t1, ft1⟩ := HS12.out.box HPT.out.2 (by omega) (by omega) 1 (.int .i64 t.f1) rfl
   obtain ⟨c2, f2⟩ := HS12.out.cell 2 (.int .i64 s.sp) rfl
   by_cases hd : dblB t = true
   rotate_left
   ·have hdf : dblB t = false := by simpa using hd
    go_wp2_with (go_at_call 104; refine (impl_isDouble.calls t.f0 t.f1 false _ (congrArg some hdf)).mono ?_; rintro e w30 ⟨rfl, hb30⟩; have HB30 := Aside0.mk hb30; clear hb30)

    obtain rfl : o = _ := HO.out.symm.trans HP.out
    go_ret
    have hF := HS12.out.below HB30.out hbs (by omega)
    have e : nextS s t 1 x.f0 = ⟨s.arms.set 1 ⟨t.f0 + t.f1 - x.f0, dblB t, false⟩, s.tiles ++ [t], s.sp, s.w0, false⟩ := by first | (simp [nextS, hwi, hdf]; done) | (simp [nextS, hwi, hdf]; intro h_; omega)
    exact ⟨rfl, by rw [Option.getD_some, e]; exact St.done (s := ⟨_, _, _, _, _⟩) hF, hF.BL⟩
   by_cases hs : s.sp < 0
   rotate_left
   ·have hsb : decide (s.sp < 0) = false := decide_eq_false hs
    go_wp2_with (go_at_call 104; refine (impl_isDouble.calls t.f0 t.f1 true _ (congrArg some hd)).mono ?_; rintro e w30 ⟨rfl, hb30⟩; have c2' := cell_b c2 hb30; have HB30 := Aside0.mk hb30; clear hb30)
    obtain rfl : o = _ := HO.out.symm.trans HP.out
    go_ret
    have hF := HS12.out.below HB30.out hbs (by omega)
    have e : nextS s t 1 x.f0 = ⟨s.arms.set 1 ⟨t.f0 + t.f1 - x.f0, dblB t, false⟩, s.tiles ++ [t], s.sp, s.w0, false⟩ := by first | (simp [nextS, hwi, hd, hs]; done) | (simp [nextS, hwi, hd, hs]; intro h_; omega)
    exact ⟨rfl, by rw [Option.getD_some, e]; exact St.done (s := ⟨_, _, _, _, _⟩) hF, hF.BL⟩
   have hsb : decide (s.sp < 0) = true := decide_eq_true hs
   go_wp2_with (go_at_call 104; refine (impl_isDouble.calls t.f0 t.f1 true _ (congrArg some hd)).mono ?_; rintro e w30 ⟨rfl, hb30⟩; have c2' := cell_b c2 hb30; have t0' := cell_b t0 hb30; have t1' := cell_b t1 hb30; have f2' := froz_b HS12.out.G hb30 2; have HB30 := Aside0.mk hb30; clear hb30)
   have hS31 := (HS12.out.below HB30.out hbs (by omega)).set_rest hgl hbase 0 (.int .i64 t.f0)
   simp only [List.set_cons_zero] at hS31
   generalize w30.setCell ⟨g, 2, none⟩ (.int .i64 t.f0) = w31 at hS31 ⊢
   have HS31 := Aside0.mk hS31
   clear hS31 t0 ft0 t1 ft1 c2 f2 c2' t0' t1' f2'
   obtain ⟨p2, fp2⟩ := HS31.out.box HPT.out.1 (by omega) (by omega) 2 (.int .i64 1) (by rw [show arm = 1 from HI.out.2.1]; rfl)
   refine start_ (n := 7) (S := fun w' => w'.cell? ⟨W.heap.size, 2, none⟩ = some (.int .i64 1) ∧ Below w31.heap.size w31 w') (ds := [6]) pm114 (by kernel_rfl) rfl rfl ⟨(cell_b p2 (belowD (Below.refl _ _))), (belowD (Below.refl _ _))⟩ (fun hHeld => ?_)
   generalize w31.drew = wd at hHeld ⊢
   have HSTd := Aside0.mk (HS31.out.below hHeld.2 hbs (by omega))
   obtain ⟨cw, fw⟩ := HSTd.out.cell 4 (.bool false) rfl
   refine pure_ (i := 0) (N := some 178) (v := ?_) (a' := ?_) pm115 rfl rfl (by kernel_rfl) (fun _ _ _ h => h) (Or.inl ⟨by rfl, ?_⟩) ?_ ?_
   rotate_left
   ·intro w'
    go_simp
    with_reducible rfl
   rotate_left
   ·simp only [pmsP]
    rfl
   refine pure_ (i := 1) (N := some 179) (v := ?_) (a' := ?_) pm116 rfl rfl (by kernel_rfl) (fun _ _ _ h => h) (Or.inl ⟨by rfl, ?_⟩) ?_ ?_
   rotate_left
   ·intro w'
    go_simp
    with_reducible rfl
   rotate_left
   ·simp only [pmsP]
    rfl
   refine pure_ (i := 3) (N := some 181) (v := ?_) (a' := ?_) pm117 rfl rfl (by kernel_rfl) (fun _ _ _ h => h) (Or.inl ⟨by rfl, ?_⟩) ?_ ?_
   rotate_left
   ·intro w'
    go_simp
    with_reducible rfl
   rotate_left
   ·simp only [pmsP]
    rfl
   refine pure_ (i := 4) (N := some 182) (v := ?_) (a' := ?_) pm118 rfl rfl (by kernel_rfl) (fun _ _ _ h => h) (Or.inl ⟨by rfl, ?_⟩) ?_ ?_
   rotate_left
   ·intro w'
    go_simp
    with_reducible rfl
   rotate_left
   ·simp only [pmsP]
    rfl
   refine take_ (i := 2) (N := some 180) (v := ?_) (a' := ?_) pm119 rfl rfl (by kernel_rfl) (fun _ _ _ h => h) (Or.inl ⟨by rfl, ?_⟩) hHeld ?_ ?_
   rotate_left
   ·rintro w' ⟨s0, s1⟩
    go_simp
    with_reducible rfl
   rotate_left
   ·simp only [pmsP]
    rfl
   refine pure_ (i := 5) (N := some 183) (v := ?_) (a' := ?_) pm120 rfl rfl (by kernel_rfl) (fun _ _ _ h => h) (Or.inl ⟨by rfl, ?_⟩) ?_ ?_
   rotate_left
   ·intro w'
    go_simp
    with_reducible rfl
   rotate_left
   ·simp only [pmsP]
    rfl
   refine last_ (i := 6) (N := none) pm121 rfl rfl (by kernel_rfl) (by decide) (fun K hK => ?_)
   refine skip_ (w1 := ?_) (by rfl) rfl ?_ ?_
   rotate_left
   ·go_simp
    rfl
   refine hK.out _ _ ?_
   clear hK K
   refine done_ (by kernel_rfl) ?_
   go_wp2
   obtain rfl : o = _ := HO.out.symm.trans HP.out
   go_ret
   have hF := HSTd.out.set_rest hgl hbase 2 (.bool true)
   have e : nextS s t 1 x.f0 = ⟨s.arms.set 1 ⟨t.f0 + t.f1 - x.f0, dblB t, false⟩, s.tiles ++ [t], t.f0, s.w0, true⟩ := by first | (simp [nextS, hwi, hd, hs]; done) | (simp [nextS, hwi, hd, hs]; intro h_; omega)
   exact ⟨rfl, by rw [Option.getD_some, e]; exact St.done (s := ⟨_, _, _, _, _⟩) hF, hF.BL⟩
  ·cases hwo : s.w0
   ·rw [hwi, hwo] at HS11
    obtain ⟨p2, fp2⟩ := HS11.out.box HPT.out.1 (by omega) (by omega) 2 (.int .i64 1) (by rw [show arm = 1 from HI.out.2.1]; rfl)
    obtain ⟨c4, f4⟩ := HS11.out.cell 4 (.bool true) rfl
    refine start_ (n := 12) (S := fun w' => w'.cell? ⟨W.heap.size, 2, none⟩ = some (.int .i64 1) ∧ w'.cell? ⟨g, 4, none⟩ = some (.bool true) ∧ Below w11.heap.size w11 w') (ds := []) pm101 (by kernel_rfl) rfl rfl ⟨(cell_b p2 (belowD (Below.refl _ _))), (cell_b c4 (belowD (Below.refl _ _))), (belowD (Below.refl _ _))⟩ (fun hHeld => ?_)
    refine pure_ (i := 0) (N := some 121) (v := ?_) (a' := ?_) pm102 rfl rfl (by kernel_rfl) (fun _ _ _ h => h) (Or.inl ⟨by rfl, ?_⟩) ?_ ?_
    rotate_left
    ·intro w'
     go_simp
     with_reducible rfl
    rotate_left
    ·simp only [pmsP]
     rfl
    refine take_ (i := 1) (N := some 122) (v := ?_) (a' := ?_) pm103 rfl rfl (by kernel_rfl) (fun _ _ _ h => h) (Or.inl ⟨by rfl, ?_⟩) hHeld ?_ ?_
    rotate_left
    ·rintro w' ⟨s0, s1, s2⟩
     go_simp
     with_reducible rfl
    rotate_left
    ·simp only [pmsP]
     rfl
    refine pure_ (i := 2) (N := some 123) (v := ?_) (a' := ?_) pm104 rfl rfl (by kernel_rfl) (fun _ _ _ h => h) (Or.inl ⟨by rfl, ?_⟩) ?_ ?_
    rotate_left
    ·intro w'
     go_simp
     with_reducible rfl
    rotate_left
    ·simp only [pmsP]
     rfl
    refine pure_ (i := 3) (N := some 124) (v := ?_) (a' := ?_) pm105 rfl rfl (by kernel_rfl) (fun _ _ _ h => h) (Or.inl ⟨by rfl, ?_⟩) ?_ ?_
    rotate_left
    ·intro w'
     go_simp
     with_reducible rfl
    rotate_left
    ·simp only [pmsP]
     rfl
    refine pure_ (i := 4) (N := some 125) (v := ?_) (a' := ?_) pm106 rfl rfl (by kernel_rfl) (fun _ _ _ h => h) (Or.inl ⟨by rfl, ?_⟩) ?_ ?_
    rotate_left
    ·intro w'
     go_simp
     with_reducible rfl
    rotate_left
    ·simp only [pmsP]
     rfl
    refine pure_ (i := 5) (N := some 126) (v := ?_) (a' := ?_) pm107 rfl rfl (by kernel_rfl) (fun _ _ _ h => h) (Or.inl ⟨by rfl, ?_⟩) ?_ ?_
    rotate_left
    ·intro w'
     go_simp
     with_reducible rfl
    rotate_left
    ·simp only [pmsP]
     rfl
    refine pure_ (i := 7) (N := some 128) (v := ?_) (a' := ?_) pm108 rfl rfl (by kernel_rfl) (fun _ _ _ h => h) (Or.inl ⟨by rfl, ?_⟩) ?_ ?_
    rotate_left
    ·intro w'
     go_simp
     with_reducible rfl
    rotate_left
    ·simp only [pmsP]
     rfl
    refine pure_ (i := 8) (N := some 129) (v := ?_) (a' := ?_) pm109 rfl rfl (by kernel_rfl) (fun _ _ _ h => h) (Or.inl ⟨by rfl, ?_⟩) ?_ ?_
    rotate_left
    ·intro w'
     go_simp
     with_reducible rfl
    rotate_left
    ·simp only [pmsP]
     rfl
    refine take_ (i := 6) (N := some 127) (v := ?_) (a' := ?_) pm110 rfl rfl (by kernel_rfl) (fun _ _ _ h => h) (Or.inl ⟨by rfl, ?_⟩) hHeld ?_ ?_
    rotate_left
    ·rintro w' ⟨s0, s1, s2⟩
     go_simp
     with_reducible rfl
    rotate_left
    ·simp only [pmsP]
     rfl
    refine pure_ (i := 9) (N := some 130) (v := ?_) (a' := ?_) pm111 rfl rfl (by kernel_rfl) (fun _ _ _ h => h) (Or.inl ⟨by rfl, ?_⟩) ?_ ?_
    rotate_left
    ·intro w'
     go_simp
     with_reducible rfl
    rotate_left
    ·simp only [pmsP]
     rfl
    refine take_ (i := 10) (N := some 131) (v := ?_) (a' := ?_) pm112 rfl rfl (by kernel_rfl) (fun _ _ _ h => h) (Or.inl ⟨by rfl, ?_⟩) hHeld ?_ ?_
    rotate_left
    ·rintro w' ⟨s0, s1, s2⟩
     go_simp
     with_reducible rfl
    rotate_left
    ·simp only [pmsP]
     rfl
    refine pure_ (i := 11) (N := some 132) (v := ?_) (a' := ?_) pm113 rfl rfl (by kernel_rfl) (fun _ _ _ h => h) (Or.inl ⟨by rfl, ?_⟩) ?_ ?_
    rotate_left
    ·intro w'
     go_simp
     with_reducible rfl
    rotate_left
    ·simp only [pmsP]
     rfl
    refine done_ (by kernel_rfl) ?_
    have HS12 := Aside0.mk (HS11.out.below hHeld.2.2 hbs (by omega))
    clear p2 fp2 c4 f4 hHeld
    generalize w11.drew = w12 at HS12 ⊢
    go_wp2
    obtain ⟨p2, fp2⟩ := HS12.out.box HPT.out.1 (by omega) (by omega) 2 (.int .i64 1) (by rw [show arm = 1 from HI.out.2.1]; rfl)
    refine start_ (n := 7) (S := fun w' => w'.cell? ⟨W.heap.size, 2, none⟩ = some (.int .i64 1) ∧ Below w12.heap.size w12 w') (ds := [6]) pm114 (by kernel_rfl) rfl rfl ⟨(cell_b p2 (belowD (Below.refl _ _))), (belowD (Below.refl _ _))⟩ (fun hHeld => ?_)
    generalize w12.drew = wd at hHeld ⊢
    have HSTd := Aside0.mk (HS12.out.below hHeld.2 hbs (by omega))
    obtain ⟨cw, fw⟩ := HSTd.out.cell 4 (.bool true) rfl
    refine pure_ (i := 0) (N := some 133) (v := ?_) (a' := ?_) pm115 rfl rfl (by kernel_rfl) (fun _ _ _ h => h) (Or.inl ⟨by rfl, ?_⟩) ?_ ?_
    rotate_left
    ·intro w'
     go_simp
     with_reducible rfl
    rotate_left
    ·simp only [pmsP]
     rfl
    refine pure_ (i := 1) (N := some 134) (v := ?_) (a' := ?_) pm116 rfl rfl (by kernel_rfl) (fun _ _ _ h => h) (Or.inl ⟨by rfl, ?_⟩) ?_ ?_
    rotate_left
    ·intro w'
     go_simp
     with_reducible rfl
    rotate_left
    ·simp only [pmsP]
     rfl
    refine pure_ (i := 3) (N := some 136) (v := ?_) (a' := ?_) pm117 rfl rfl (by kernel_rfl) (fun _ _ _ h => h) (Or.inl ⟨by rfl, ?_⟩) ?_ ?_
    rotate_left
    ·intro w'
     go_simp
     with_reducible rfl
    rotate_left
    ·simp only [pmsP]
     rfl
    refine pure_ (i := 4) (N := some 137) (v := ?_) (a' := ?_) pm118 rfl rfl (by kernel_rfl) (fun _ _ _ h => h) (Or.inl ⟨by rfl, ?_⟩) ?_ ?_
    rotate_left
    ·intro w'
     go_simp
     with_reducible rfl
    rotate_left
    ·simp only [pmsP]
     rfl
    refine take_ (i := 2) (N := some 135) (v := ?_) (a' := ?_) pm119 rfl rfl (by kernel_rfl) (fun _ _ _ h => h) (Or.inl ⟨by rfl, ?_⟩) hHeld ?_ ?_
    rotate_left
    ·rintro w' ⟨s0, s1⟩
     go_simp
     with_reducible rfl
    rotate_left
    ·simp only [pmsP]
     rfl
    refine pure_ (i := 5) (N := some 138) (v := ?_) (a' := ?_) pm120 rfl rfl (by kernel_rfl) (fun _ _ _ h => h) (Or.inl ⟨by rfl, ?_⟩) ?_ ?_
    rotate_left
    ·intro w'
     go_simp
     with_reducible rfl
    rotate_left
    ·simp only [pmsP]
     rfl
    refine last_ (i := 6) (N := none) pm121 rfl rfl (by kernel_rfl) (by decide) (fun K hK => ?_)
    refine skip_ (w1 := ?_) (by rfl) rfl ?_ ?_
    rotate_left
    ·go_simp
     rfl
    refine hK.out _ _ ?_
    clear hK K
    refine done_ (by kernel_rfl) ?_
    have hS13 := HSTd.out.set_rest hgl hbase 2 (.bool false)
    simp only [List.set_cons_zero, List.set_cons_succ] at hS13
    generalize wd.setCell ⟨g, 4, none⟩ (.bool false) = w13 at hS13 ⊢
    have HS13 := Aside0.mk hS13
    clear hS13 p2 fp2 cw fw hHeld
    obtain ⟨c3, f3⟩ := HS13.out.cell 3 (.bool false) rfl
    obtain ⟨c4, f4⟩ := HS13.out.cell 4 (.bool false) rfl
    go_wp2

    clear c3 f3 c4 f4
    obtain ⟨c0, f0⟩ := HS13.out.cell 0 (.slice (some ⟨ga, 0, none⟩) s.arms.length ca) rfl
    obtain ⟨c2, f2⟩ := HS13.out.cell 2 (.int .i64 s.sp) rfl
    refine start_ (n := 20) (S := fun w' => w'.cell? ⟨g, 0, none⟩ = some (.slice (some ⟨ga, 0, none⟩) s.arms.length ca) ∧ w'.cell? ⟨g, 2, none⟩ = some (.int .i64 s.sp) ∧ Below w13.heap.size w13 w') (ds := [16, 19]) pm122 (by kernel_rfl) rfl rfl ⟨(cell_b c0 (belowD (Below.refl _ _))), (cell_b c2 (belowD (Below.refl _ _))), (belowD (Below.refl _ _))⟩ (fun hHeld => ?_)
    generalize w13.drew = wd at hHeld ⊢
    have HSTd := Aside0.mk (HS13.out.below hHeld.2.2 hbs (by omega))
    have HSTa := Aside0.mk (HSTd.out.below (belowA (Below.refl _ _) (.cells #[.int .i64 s.sp, .bool false, .bool true, .int .i64 s.sp, .bool false, .bool true] 93)) hbs (by omega))
    refine pure_ (i := 0) (N := some 145) (v := ?_) (a' := ?_) pm123 rfl rfl (by kernel_rfl) (fun _ _ _ h => h) (Or.inl ⟨by rfl, ?_⟩) ?_ ?_
    rotate_left
    ·intro w'
     go_simp
     with_reducible rfl
    rotate_left
    ·simp only [pmsP]
     rfl
    refine pure_ (i := 1) (N := some 146) (v := ?_) (a' := ?_) pm124 rfl rfl (by kernel_rfl) (fun _ _ _ h => h) (Or.inl ⟨by rfl, ?_⟩) ?_ ?_
    rotate_left
    ·intro w'
     go_simp
     with_reducible rfl
    rotate_left
    ·simp only [pmsP]
     rfl
    refine pure_ (i := 2) (N := some 147) (v := ?_) (a' := ?_) pm125 rfl rfl (by kernel_rfl) (fun _ _ _ h => h) (Or.inl ⟨by rfl, ?_⟩) ?_ ?_
    rotate_left
    ·intro w'
     go_simp
     with_reducible rfl
    rotate_left
    ·simp only [pmsP]
     rfl
    refine pure_ (i := 3) (N := some 148) (v := ?_) (a' := ?_) pm126 rfl rfl (by kernel_rfl) (fun _ _ _ h => h) (Or.inl ⟨by rfl, ?_⟩) ?_ ?_
    rotate_left
    ·intro w'
     go_simp
     with_reducible rfl
    rotate_left
    ·simp only [pmsP]
     rfl
    refine pure_ (i := 5) (N := some 150) (v := ?_) (a' := ?_) pm127 rfl rfl (by kernel_rfl) (fun _ _ _ h => h) (Or.inl ⟨by rfl, ?_⟩) ?_ ?_
    rotate_left
    ·intro w'
     go_simp
     with_reducible rfl
    rotate_left
    ·simp only [pmsP]
     rfl
    refine pure_ (i := 6) (N := some 151) (v := ?_) (a' := ?_) pm128 rfl rfl (by kernel_rfl) (fun _ _ _ h => h) (Or.inl ⟨by rfl, ?_⟩) ?_ ?_
    rotate_left
    ·intro w'
     go_simp
     with_reducible rfl
    rotate_left
    ·simp only [pmsP]
     rfl
    refine pure_ (i := 7) (N := some 152) (v := ?_) (a' := ?_) pm129 rfl rfl (by kernel_rfl) (fun _ _ _ h => h) (Or.inl ⟨by rfl, ?_⟩) ?_ ?_
    rotate_left
    ·intro w'
     go_simp
     with_reducible rfl
    rotate_left
    ·simp only [pmsP]
     rfl
    refine pure_ (i := 10) (N := some 155) (v := ?_) (a' := ?_) pm130 rfl rfl (by kernel_rfl) (fun _ _ _ h => h) (Or.inl ⟨by rfl, ?_⟩) ?_ ?_
    rotate_left
    ·intro w'
     go_simp
     with_reducible rfl
    rotate_left
    ·simp only [pmsP]
     rfl
    refine pure_ (i := 11) (N := some 156) (v := ?_) (a' := ?_) pm131 rfl rfl (by kernel_rfl) (fun _ _ _ h => h) (Or.inl ⟨by rfl, ?_⟩) ?_ ?_
    rotate_left
    ·intro w'
     go_simp
     with_reducible rfl
    rotate_left
    ·simp only [pmsP]
     rfl
    refine pure_ (i := 12) (N := some 157) (v := ?_) (a' := ?_) pm132 rfl rfl (by kernel_rfl) (fun _ _ _ h => h) (Or.inl ⟨by rfl, ?_⟩) ?_ ?_
    rotate_left
    ·intro w'
     go_simp
     with_reducible rfl
    rotate_left
    ·simp only [pmsP]
     rfl
    refine take_ (i := 4) (N := some 149) (v := ?_) (a' := ?_) pm133 rfl rfl (by kernel_rfl) (fun _ _ _ h => h) (Or.inl ⟨by rfl, ?_⟩) hHeld ?_ ?_
    rotate_left
    ·rintro w' ⟨s0, s1, s2⟩
     go_simp
     with_reducible rfl
    rotate_left
    ·simp only [pmsP]
     rfl
    refine take_ (i := 8) (N := some 153) (v := ?_) (a' := ?_) pm134 rfl rfl (by kernel_rfl) (fun _ _ _ h => h) (Or.inl ⟨by rfl, ?_⟩) hHeld ?_ ?_
    rotate_left
    ·rintro w' ⟨s0, s1, s2⟩
     go_simp
     with_reducible rfl
    rotate_left
    ·simp only [pmsP]
     rfl
    refine pure_ (i := 9) (N := some 154) (v := ?_) (a' := ?_) pm135 rfl rfl (by kernel_rfl) (fun _ _ _ h => h) (Or.inl ⟨by rfl, ?_⟩) ?_ ?_
    rotate_left
    ·intro w'
     go_simp
     with_reducible rfl
    rotate_left
    ·simp only [pmsP]
     rfl
    refine take_ (i := 13) (N := some 158) (v := ?_) (a' := ?_) pm136 rfl rfl (by kernel_rfl) (fun _ _ _ h => h) (Or.inl ⟨by rfl, ?_⟩) hHeld ?_ ?_
    rotate_left
    ·rintro w' ⟨s0, s1, s2⟩
     go_simp
     with_reducible rfl
    rotate_left
    ·simp only [pmsP]
     rfl
    refine pure_ (i := 14) (N := some 159) (v := ?_) (a' := ?_) pm137 rfl rfl (by kernel_rfl) (fun _ _ _ h => h) (Or.inl ⟨by rfl, ?_⟩) ?_ ?_
    rotate_left
    ·intro w'
     go_simp
     with_reducible rfl
    rotate_left
    ·simp only [pmsP]
     rfl
    refine one_ (i := 15) (N := some 160) pm138 rfl rfl (by kernel_rfl) (by decide) (fun K hK => ?_)
    refine value_ (w1 := ?_) (v := ?_) (by rfl) rfl ?_ ?_
    rotate_left 2
    ·go_simp
     constructor
     ·rfl
     ·rfl
    refine hK.out _ _ ⟨(cell_b c0 (belowA hHeld.2.2 _)), (cell_b c2 (belowA hHeld.2.2 _)), (belowA hHeld.2.2 _)⟩ (fun hHeld => ?_)
    clear hK K
    refine norm_ (a' := ?_) ?_ ?_
    rotate_left
    ·show Act.put _ (some 160) _ = _
     simp only [pmsP]
     rfl
    refine last_ (i := 16) (N := some 161) pm139 rfl rfl (by kernel_rfl) (by decide) (fun K hK => ?_)
    refine Kd.R_append_rows_step k93 (w0 := W) (Rr := fun x cs => cs = [.int .i64 x.f0, .bool x.f1, .bool x.f2]) base (by rfl) (.tmp 149) (.tmp 160) 66 93 (.agg #[(.int .i64 0), .bool false, .bool false]) 16 rfl Try.underlying66 infoArm rfl (by decide) (by omega) (.slice (some ⟨ga, 0, none⟩) s.arms.length ca) (s.arms.set 1 ⟨t.f0 + t.f1 - x.f0, dblB t, false⟩) [(⟨s.sp, false, true⟩ : S93), (⟨s.sp, false, true⟩ : S93)] (some ⟨wd.heap.size, 0, none⟩) 2 2 (fun k => k ≠ g ∧ (k < W.heap.size ∨ W.heap.size + 2 ≤ k)) (fun _ => False) rfl rfl ?aO ?aR ?aK (fun _ hk => hk.elim) ?aF ?aB ?aS ?aL ?_
    (case aO => exact HSTa.out.RA)
    (case aR => exact reads_arms (heap_alloc_new _ _))
    (case aK => intro x cs hx; rw [hx]; exact k93_mkM _ _ _ x)
    (case aB => exact HSTa.out.BL)
    (case aF => intro k hk; have h1 := HSTa.out.SZ; exact ⟨by omega, .inr (by omega)⟩)
    (case aS => have h1 := HSTa.out.SZ; omega)
    (case aL => have := hlen.1; rw [List.length_set]; omega)
    intro v17 w17 ho17 hb17 hg17 _
    obtain ⟨A17, c17, hv17, _, _⟩ := Kd.R_reads ho17
    generalize (s.arms.set 1 ⟨t.f0 + t.f1 - x.f0, dblB t, false⟩ ++ [(⟨s.sp, false, true⟩ : S93), (⟨s.sp, false, true⟩ : S93)]).length = n17 at hv17
    subst hv17
    refine hK.out _ _ ?_
    clear hK K
    refine norm_ (a' := ?_) ?_ ?_
    rotate_left
    ·show Act.put _ (some 161) _ = _
     simp only [pmsP]
     rfl
    refine pure_ (i := 17) (N := some 162) (v := ?_) (a' := ?_) pm140 rfl rfl (by kernel_rfl) (fun _ _ _ h => h) (Or.inl ⟨by rfl, ?_⟩) ?_ ?_
    rotate_left
    ·intro w'
     go_simp
     with_reducible rfl
    rotate_left
    ·simp only [pmsP]
     rfl
    refine pure_ (i := 18) (N := some 163) (v := ?_) (a' := ?_) pm141 rfl rfl (by kernel_rfl) (fun _ _ _ h => h) (Or.inl ⟨by rfl, ?_⟩) ?_ ?_
    rotate_left
    ·intro w'
     go_simp
     with_reducible rfl
    rotate_left
    ·simp only [pmsP]
     rfl
    refine last_ (i := 19) (N := none) pm142 rfl rfl (by kernel_rfl) (by decide) (fun K hK => ?_)
    have hG17 := (hg17.block g (Array.getElem?_eq_some_iff.1 HSTa.out.G).1 (Kd.R_away HSTa.out.RA (fun k hk => hk.1))).trans HSTa.out.G
    obtain ⟨c0', f0'⟩ := heap_cell hG17 0 (.slice (some ⟨ga, 0, none⟩) s.arms.length ca) rfl
    refine skip_ (w1 := ?_) (by rfl) rfl ?_ ?_
    rotate_left
    ·go_simp
     rfl
    refine hK.out _ _ ?_
    clear hK K
    refine done_ (by kernel_rfl) ?_
    have hS18 := HSTa.out.arms_grown hgl hbase hb17 hg17 ho17
    generalize w17.setCell ⟨g, 0, none⟩ (.slice A17 n17 c17) = w18 at hS18 ⊢
    have HS18 := Aside0.mk hS18
    clear hS18 hG17 c0' f0' c0 f0 c2 f2 ho17 hb17 hg17
    obtain ⟨t0, ft0⟩ := HS18.out.box HPT.out.2 (by omega) (by omega) 0 (.int .i64 t.f0) rfl
    obtain ⟨t1, ft1⟩ := HS18.out.box HPT.out.2 (by omega) (by omega) 1 (.int .i64 t.f1) rfl
    obtain ⟨c2, f2⟩ := HS18.out.cell 2 (.int .i64 s.sp) rfl
    by_cases hd : dblB t = true
    rotate_left
    ·have hdf : dblB t = false := by simpa using hd
     go_wp2_with (go_at_call 104; refine (impl_isDouble.calls t.f0 t.f1 false _ (congrArg some hdf)).mono ?_; rintro e w30 ⟨rfl, hb30⟩; have HB30 := Aside0.mk hb30; clear hb30)

     obtain rfl : o = _ := HO.out.symm.trans HP.out
     go_ret
     have hF := HS18.out.below HB30.out hbs (by omega)
     have e : nextS s t 1 x.f0 = ⟨s.arms.set 1 ⟨t.f0 + t.f1 - x.f0, dblB t, false⟩ ++ [(⟨s.sp, false, true⟩ : S93), (⟨s.sp, false, true⟩ : S93)], s.tiles ++ [t], s.sp, false, false⟩ := by first | (simp [nextS, hwi, hwo, hdf]; done) | (simp [nextS, hwi, hwo, hdf]; intro h_; omega)
     exact ⟨rfl, by rw [Option.getD_some, e]; exact St.done (s := ⟨_, _, _, _, _⟩) hF, hF.BL⟩
    by_cases hs : s.sp < 0
    rotate_left
    ·have hsb : decide (s.sp < 0) = false := decide_eq_false hs
     go_wp2_with (go_at_call 104; refine (impl_isDouble.calls t.f0 t.f1 true _ (congrArg some hd)).mono ?_; rintro e w30 ⟨rfl, hb30⟩; have c2' := cell_b c2 hb30; have HB30 := Aside0.mk hb30; clear hb30)
     obtain rfl : o = _ := HO.out.symm.trans HP.out
     go_ret
     have hF := HS18.out.below HB30.out hbs (by omega)
     have e : nextS s t 1 x.f0 = ⟨s.arms.set 1 ⟨t.f0 + t.f1 - x.f0, dblB t, false⟩ ++ [(⟨s.sp, false, true⟩ : S93), (⟨s.sp, false, true⟩ : S93)], s.tiles ++ [t], s.sp, false, false⟩ := by first | (simp [nextS, hwi, hwo, hd, hs]; done) | (simp [nextS, hwi, hwo, hd, hs]; intro h_; omega)
     exact ⟨rfl, by rw [Option.getD_some, e]; exact St.done (s := ⟨_, _, _, _, _⟩) hF, hF.BL⟩
    have hsb : decide (s.sp < 0) = true := decide_eq_true hs
    go_wp2_with (go_at_call 104; refine (impl_isDouble.calls t.f0 t.f1 true _ (congrArg some hd)).mono ?_; rintro e w30 ⟨rfl, hb30⟩; have c2' := cell_b c2 hb30; have t0' := cell_b t0 hb30; have t1' := cell_b t1 hb30; have f2' := froz_b HS18.out.G hb30 2; have HB30 := Aside0.mk hb30; clear hb30)
    have hS31 := (HS18.out.below HB30.out hbs (by omega)).set_rest hgl hbase 0 (.int .i64 t.f0)
    simp only [List.set_cons_zero] at hS31
    generalize w30.setCell ⟨g, 2, none⟩ (.int .i64 t.f0) = w31 at hS31 ⊢
    have HS31 := Aside0.mk hS31
    clear hS31 t0 ft0 t1 ft1 c2 f2 c2' t0' t1' f2'
    obtain ⟨p2, fp2⟩ := HS31.out.box HPT.out.1 (by omega) (by omega) 2 (.int .i64 1) (by rw [show arm = 1 from HI.out.2.1]; rfl)
    refine start_ (n := 7) (S := fun w' => w'.cell? ⟨W.heap.size, 2, none⟩ = some (.int .i64 1) ∧ Below w31.heap.size w31 w') (ds := [6]) pm114 (by kernel_rfl) rfl rfl ⟨(cell_b p2 (belowD (Below.refl _ _))), (belowD (Below.refl _ _))⟩ (fun hHeld => ?_)
    generalize w31.drew = wd at hHeld ⊢
    have HSTd := Aside0.mk (HS31.out.below hHeld.2 hbs (by omega))
    obtain ⟨cw, fw⟩ := HSTd.out.cell 4 (.bool false) rfl
    refine pure_ (i := 0) (N := some 178) (v := ?_) (a' := ?_) pm115 rfl rfl (by kernel_rfl) (fun _ _ _ h => h) (Or.inl ⟨by rfl, ?_⟩) ?_ ?_
    rotate_left
    ·intro w'
     go_simp
     with_reducible rfl
    rotate_left
    ·simp only [pmsP]
     rfl
    refine pure_ (i := 1) (N := some 179) (v := ?_) (a' := ?_) pm116 rfl rfl (by kernel_rfl) (fun _ _ _ h => h) (Or.inl ⟨by rfl, ?_⟩) ?_ ?_
    rotate_left
    ·intro w'
     go_simp
     with_reducible rfl
    rotate_left
    ·simp only [pmsP]
     rfl
    refine pure_ (i := 3) (N := some 181) (v := ?_) (a' := ?_) pm117 rfl rfl (by kernel_rfl) (fun _ _ _ h => h) (Or.inl ⟨by rfl, ?_⟩) ?_ ?_
    rotate_left
    ·intro w'
     go_simp
     with_reducible rfl
    rotate_left
    ·simp only [pmsP]
     rfl
    refine pure_ (i := 4) (N := some 182) (v := ?_) (a' := ?_) pm118 rfl rfl (by kernel_rfl) (fun _ _ _ h => h) (Or.inl ⟨by rfl, ?_⟩) ?_ ?_
    rotate_left
    ·intro w'
     go_simp
     with_reducible rfl
    rotate_left
    ·simp only [pmsP]
     rfl
    refine take_ (i := 2) (N := some 180) (v := ?_) (a' := ?_) pm119 rfl rfl (by kernel_rfl) (fun _ _ _ h => h) (Or.inl ⟨by rfl, ?_⟩) hHeld ?_ ?_
    rotate_left
    ·rintro w' ⟨s0, s1⟩
     go_simp
     with_reducible rfl
    rotate_left
    ·simp only [pmsP]
     rfl
    refine pure_ (i := 5) (N := some 183) (v := ?_) (a' := ?_) pm120 rfl rfl (by kernel_rfl) (fun _ _ _ h => h) (Or.inl ⟨by rfl, ?_⟩) ?_ ?_
    rotate_left
    ·intro w'
     go_simp
     with_reducible rfl
    rotate_left
    ·simp only [pmsP]
     rfl
    refine last_ (i := 6) (N := none) pm121 rfl rfl (by kernel_rfl) (by decide) (fun K hK => ?_)
    refine skip_ (w1 := ?_) (by rfl) rfl ?_ ?_
    rotate_left
    ·go_simp
     rfl
    refine hK.out _ _ ?_
    clear hK K
    refine done_ (by kernel_rfl) ?_
    go_wp2
    obtain rfl : o = _ := HO.out.symm.trans HP.out
    go_ret
    have hF := HSTd.out.set_rest hgl hbase 2 (.bool true)
    have e : nextS s t 1 x.f0 = ⟨s.arms.set 1 ⟨t.f0 + t.f1 - x.f0, dblB t, false⟩ ++ [(⟨s.sp, false, true⟩ : S93), (⟨s.sp, false, true⟩ : S93)], s.tiles ++ [t], t.f0, false, true⟩ := by first | (simp [nextS, hwi, hwo, hd, hs]; done) | (simp [nextS, hwi, hwo, hd, hs]; intro h_; omega)
    exact ⟨rfl, by rw [Option.getD_some, e]; exact St.done (s := ⟨_, _, _, _, _⟩) hF, hF.BL⟩
   ·rw [hwi, hwo] at HS11
    obtain ⟨p2, fp2⟩ := HS11.out.box HPT.out.1 (by omega) (by omega) 2 (.int .i64 1) (by rw [show arm = 1 from HI.out.2.1]; rfl)
    obtain ⟨c4, f4⟩ := HS11.out.cell 4 (.bool true) rfl
    refine start_ (n := 12) (S := fun w' => w'.cell? ⟨W.heap.size, 2, none⟩ = some (.int .i64 1) ∧ w'.cell? ⟨g, 4, none⟩ = some (.bool true) ∧ Below w11.heap.size w11 w') (ds := []) pm101 (by kernel_rfl) rfl rfl ⟨(cell_b p2 (belowD (Below.refl _ _))), (cell_b c4 (belowD (Below.refl _ _))), (belowD (Below.refl _ _))⟩ (fun hHeld => ?_)
    refine pure_ (i := 0) (N := some 121) (v := ?_) (a' := ?_) pm102 rfl rfl (by kernel_rfl) (fun _ _ _ h => h) (Or.inl ⟨by rfl, ?_⟩) ?_ ?_
    rotate_left
    ·intro w'
     go_simp
     with_reducible rfl
    rotate_left
    ·simp only [pmsP]
     rfl
    refine take_ (i := 1) (N := some 122) (v := ?_) (a' := ?_) pm103 rfl rfl (by kernel_rfl) (fun _ _ _ h => h) (Or.inl ⟨by rfl, ?_⟩) hHeld ?_ ?_
    rotate_left
    ·rintro w' ⟨s0, s1, s2⟩
     go_simp
     with_reducible rfl
    rotate_left
    ·simp only [pmsP]
     rfl
    refine pure_ (i := 2) (N := some 123) (v := ?_) (a' := ?_) pm104 rfl rfl (by kernel_rfl) (fun _ _ _ h => h) (Or.inl ⟨by rfl, ?_⟩) ?_ ?_
    rotate_left
    ·intro w'
     go_simp
     with_reducible rfl
    rotate_left
    ·simp only [pmsP]
     rfl
    refine pure_ (i := 3) (N := some 124) (v := ?_) (a' := ?_) pm105 rfl rfl (by kernel_rfl) (fun _ _ _ h => h) (Or.inl ⟨by rfl, ?_⟩) ?_ ?_
    rotate_left
    ·intro w'
     go_simp
     with_reducible rfl
    rotate_left
    ·simp only [pmsP]
     rfl
    refine pure_ (i := 4) (N := some 125) (v := ?_) (a' := ?_) pm106 rfl rfl (by kernel_rfl) (fun _ _ _ h => h) (Or.inl ⟨by rfl, ?_⟩) ?_ ?_
    rotate_left
    ·intro w'
     go_simp
     with_reducible rfl
    rotate_left
    ·simp only [pmsP]
     rfl
    refine pure_ (i := 5) (N := some 126) (v := ?_) (a' := ?_) pm107 rfl rfl (by kernel_rfl) (fun _ _ _ h => h) (Or.inl ⟨by rfl, ?_⟩) ?_ ?_
    rotate_left
    ·intro w'
     go_simp
     with_reducible rfl
    rotate_left
    ·simp only [pmsP]
     rfl
    refine pure_ (i := 7) (N := some 128) (v := ?_) (a' := ?_) pm108 rfl rfl (by kernel_rfl) (fun _ _ _ h => h) (Or.inl ⟨by rfl, ?_⟩) ?_ ?_
    rotate_left
    ·intro w'
     go_simp
     with_reducible rfl
    rotate_left
    ·simp only [pmsP]
     rfl
    refine pure_ (i := 8) (N := some 129) (v := ?_) (a' := ?_) pm109 rfl rfl (by kernel_rfl) (fun _ _ _ h => h) (Or.inl ⟨by rfl, ?_⟩) ?_ ?_
    rotate_left
    ·intro w'
     go_simp
     with_reducible rfl
    rotate_left
    ·simp only [pmsP]
     rfl
    refine take_ (i := 6) (N := some 127) (v := ?_) (a' := ?_) pm110 rfl rfl (by kernel_rfl) (fun _ _ _ h => h) (Or.inl ⟨by rfl, ?_⟩) hHeld ?_ ?_
    rotate_left
    ·rintro w' ⟨s0, s1, s2⟩
     go_simp
     with_reducible rfl
    rotate_left
    ·simp only [pmsP]
     rfl
    refine pure_ (i := 9) (N := some 130) (v := ?_) (a' := ?_) pm111 rfl rfl (by kernel_rfl) (fun _ _ _ h => h) (Or.inl ⟨by rfl, ?_⟩) ?_ ?_
    rotate_left
    ·intro w'
     go_simp
     with_reducible rfl
    rotate_left
    ·simp only [pmsP]
     rfl
    refine take_ (i := 10) (N := some 131) (v := ?_) (a' := ?_) pm112 rfl rfl (by kernel_rfl) (fun _ _ _ h => h) (Or.inl ⟨by rfl, ?_⟩) hHeld ?_ ?_
    rotate_left
    ·rintro w' ⟨s0, s1, s2⟩
     go_simp
     with_reducible rfl
    rotate_left
    ·simp only [pmsP]
     rfl
    refine pure_ (i := 11) (N := some 132) (v := ?_) (a' := ?_) pm113 rfl rfl (by kernel_rfl) (fun _ _ _ h => h) (Or.inl ⟨by rfl, ?_⟩) ?_ ?_
    rotate_left
    ·intro w'
     go_simp
     with_reducible rfl
    rotate_left
    ·simp only [pmsP]
     rfl
    refine done_ (by kernel_rfl) ?_
    have HS12 := Aside0.mk (HS11.out.below hHeld.2.2 hbs (by omega))
    clear p2 fp2 c4 f4 hHeld
    generalize w11.drew = w12 at HS12 ⊢
    go_wp2
    obtain ⟨p2, fp2⟩ := HS12.out.box HPT.out.1 (by omega) (by omega) 2 (.int .i64 1) (by rw [show arm = 1 from HI.out.2.1]; rfl)
    refine start_ (n := 7) (S := fun w' => w'.cell? ⟨W.heap.size, 2, none⟩ = some (.int .i64 1) ∧ Below w12.heap.size w12 w') (ds := [6]) pm114 (by kernel_rfl) rfl rfl ⟨(cell_b p2 (belowD (Below.refl _ _))), (belowD (Below.refl _ _))⟩ (fun hHeld => ?_)
    generalize w12.drew = wd at hHeld ⊢
    have HSTd := Aside0.mk (HS12.out.below hHeld.2 hbs (by omega))
    obtain ⟨cw, fw⟩ := HSTd.out.cell 4 (.bool true) rfl
    refine pure_ (i := 0) (N := some 133) (v := ?_) (a' := ?_) pm115 rfl rfl (by kernel_rfl) (fun _ _ _ h => h) (Or.inl ⟨by rfl, ?_⟩) ?_ ?_
    rotate_left
    ·intro w'
     go_simp
     with_reducible rfl
    rotate_left
    ·simp only [pmsP]
     rfl
    refine pure_ (i := 1) (N := some 134) (v := ?_) (a' := ?_) pm116 rfl rfl (by kernel_rfl) (fun _ _ _ h => h) (Or.inl ⟨by rfl, ?_⟩) ?_ ?_
    rotate_left
    ·intro w'
     go_simp
     with_reducible rfl
    rotate_left
    ·simp only [pmsP]
     rfl
    refine pure_ (i := 3) (N := some 136) (v := ?_) (a' := ?_) pm117 rfl rfl (by kernel_rfl) (fun _ _ _ h => h) (Or.inl ⟨by rfl, ?_⟩) ?_ ?_
    rotate_left
    ·intro w'
     go_simp
     with_reducible rfl
    rotate_left
    ·simp only [pmsP]
     rfl
    refine pure_ (i := 4) (N := some 137) (v := ?_) (a' := ?_) pm118 rfl rfl (by kernel_rfl) (fun _ _ _ h => h) (Or.inl ⟨by rfl, ?_⟩) ?_ ?_
    rotate_left
    ·intro w'
     go_simp
     with_reducible rfl
    rotate_left
    ·simp only [pmsP]
     rfl
    refine take_ (i := 2) (N := some 135) (v := ?_) (a' := ?_) pm119 rfl rfl (by kernel_rfl) (fun _ _ _ h => h) (Or.inl ⟨by rfl, ?_⟩) hHeld ?_ ?_
    rotate_left
    ·rintro w' ⟨s0, s1⟩
     go_simp
     with_reducible rfl
    rotate_left
    ·simp only [pmsP]
     rfl
    refine pure_ (i := 5) (N := some 138) (v := ?_) (a' := ?_) pm120 rfl rfl (by kernel_rfl) (fun _ _ _ h => h) (Or.inl ⟨by rfl, ?_⟩) ?_ ?_
    rotate_left
    ·intro w'
     go_simp
     with_reducible rfl
    rotate_left
    ·simp only [pmsP]
     rfl
    refine last_ (i := 6) (N := none) pm121 rfl rfl (by kernel_rfl) (by decide) (fun K hK => ?_)
    refine skip_ (w1 := ?_) (by rfl) rfl ?_ ?_
    rotate_left
    ·go_simp
     rfl
    refine hK.out _ _ ?_
    clear hK K
    refine done_ (by kernel_rfl) ?_
    have hS13 := HSTd.out.set_rest hgl hbase 2 (.bool false)
    simp only [List.set_cons_zero, List.set_cons_succ] at hS13
    generalize wd.setCell ⟨g, 4, none⟩ (.bool false) = w13 at hS13 ⊢
    have HS13 := Aside0.mk hS13
    clear hS13 p2 fp2 cw fw hHeld
    obtain ⟨c3, f3⟩ := HS13.out.cell 3 (.bool true) rfl
    obtain ⟨c4, f4⟩ := HS13.out.cell 4 (.bool false) rfl
    obtain ⟨t0, ft0⟩ := HS13.out.box HPT.out.2 (by omega) (by omega) 0 (.int .i64 t.f0) rfl
    obtain ⟨t1, ft1⟩ := HS13.out.box HPT.out.2 (by omega) (by omega) 1 (.int .i64 t.f1) rfl
    obtain ⟨c2, f2⟩ := HS13.out.cell 2 (.int .i64 s.sp) rfl
    by_cases hd : dblB t = true
    rotate_left
    ·have hdf : dblB t = false := by simpa using hd
     go_wp2_with (go_at_call 104; refine (impl_isDouble.calls t.f0 t.f1 false _ (congrArg some hdf)).mono ?_; rintro e w30 ⟨rfl, hb30⟩; have HB30 := Aside0.mk hb30; clear hb30)

     obtain rfl : o = _ := HO.out.symm.trans HP.out
     go_ret
     have hF := HS13.out.below HB30.out hbs (by omega)
     have e : nextS s t 1 x.f0 = ⟨s.arms.set 1 ⟨t.f0 + t.f1 - x.f0, dblB t, false⟩, s.tiles ++ [t], s.sp, true, false⟩ := by first | (simp [nextS, hwi, hwo, hdf]; done) | (simp [nextS, hwi, hwo, hdf]; intro h_; omega)
     exact ⟨rfl, by rw [Option.getD_some, e]; exact St.done (s := ⟨_, _, _, _, _⟩) hF, hF.BL⟩
    by_cases hs : s.sp < 0
    rotate_left
    ·have hsb : decide (s.sp < 0) = false := decide_eq_false hs
     go_wp2_with (go_at_call 104; refine (impl_isDouble.calls t.f0 t.f1 true _ (congrArg some hd)).mono ?_; rintro e w30 ⟨rfl, hb30⟩; have c2' := cell_b c2 hb30; have HB30 := Aside0.mk hb30; clear hb30)
     obtain rfl : o = _ := HO.out.symm.trans HP.out
     go_ret
     have hF := HS13.out.below HB30.out hbs (by omega)
     have e : nextS s t 1 x.f0 = ⟨s.arms.set 1 ⟨t.f0 + t.f1 - x.f0, dblB t, false⟩, s.tiles ++ [t], s.sp, true, false⟩ := by first | (simp [nextS, hwi, hwo, hd, hs]; done) | (simp [nextS, hwi, hwo, hd, hs]; intro h_; omega)
     exact ⟨rfl, by rw [Option.getD_some, e]; exact St.done (s := ⟨_, _, _, _, _⟩) hF, hF.BL⟩
    have hsb : decide (s.sp < 0) = true := decide_eq_true hs
    go_wp2_with (go_at_call 104; refine (impl_isDouble.calls t.f0 t.f1 true _ (congrArg some hd)).mono ?_; rintro e w30 ⟨rfl, hb30⟩; have c2' := cell_b c2 hb30; have t0' := cell_b t0 hb30; have t1' := cell_b t1 hb30; have f2' := froz_b HS13.out.G hb30 2; have HB30 := Aside0.mk hb30; clear hb30)
    have hS31 := (HS13.out.below HB30.out hbs (by omega)).set_rest hgl hbase 0 (.int .i64 t.f0)
    simp only [List.set_cons_zero] at hS31
    generalize w30.setCell ⟨g, 2, none⟩ (.int .i64 t.f0) = w31 at hS31 ⊢
    have HS31 := Aside0.mk hS31
    clear hS31 t0 ft0 t1 ft1 c2 f2 c2' t0' t1' f2'
    obtain ⟨p2, fp2⟩ := HS31.out.box HPT.out.1 (by omega) (by omega) 2 (.int .i64 1) (by rw [show arm = 1 from HI.out.2.1]; rfl)
    refine start_ (n := 7) (S := fun w' => w'.cell? ⟨W.heap.size, 2, none⟩ = some (.int .i64 1) ∧ Below w31.heap.size w31 w') (ds := [6]) pm114 (by kernel_rfl) rfl rfl ⟨(cell_b p2 (belowD (Below.refl _ _))), (belowD (Below.refl _ _))⟩ (fun hHeld => ?_)
    generalize w31.drew = wd at hHeld ⊢
    have HSTd := Aside0.mk (HS31.out.below hHeld.2 hbs (by omega))
    obtain ⟨cw, fw⟩ := HSTd.out.cell 4 (.bool false) rfl
    refine pure_ (i := 0) (N := some 178) (v := ?_) (a' := ?_) pm115 rfl rfl (by kernel_rfl) (fun _ _ _ h => h) (Or.inl ⟨by rfl, ?_⟩) ?_ ?_
    rotate_left
    ·intro w'
     go_simp
     with_reducible rfl
    rotate_left
    ·simp only [pmsP]
     rfl
    refine pure_ (i := 1) (N := some 179) (v := ?_) (a' := ?_) pm116 rfl rfl (by kernel_rfl) (fun _ _ _ h => h) (Or.inl ⟨by rfl, ?_⟩) ?_ ?_
    rotate_left
    ·intro w'
     go_simp
     with_reducible rfl
    rotate_left
    ·simp only [pmsP]
     rfl
    refine pure_ (i := 3) (N := some 181) (v := ?_) (a' := ?_) pm117 rfl rfl (by kernel_rfl) (fun _ _ _ h => h) (Or.inl ⟨by rfl, ?_⟩) ?_ ?_
    rotate_left
    ·intro w'
     go_simp
     with_reducible rfl
    rotate_left
    ·simp only [pmsP]
     rfl
    refine pure_ (i := 4) (N := some 182) (v := ?_) (a' := ?_) pm118 rfl rfl (by kernel_rfl) (fun _ _ _ h => h) (Or.inl ⟨by rfl, ?_⟩) ?_ ?_
    rotate_left
    ·intro w'
     go_simp
     with_reducible rfl
    rotate_left
    ·simp only [pmsP]
     rfl
    refine take_ (i := 2) (N := some 180) (v := ?_) (a' := ?_) pm119 rfl rfl (by kernel_rfl) (fun _ _ _ h => h) (Or.inl ⟨by rfl, ?_⟩) hHeld ?_ ?_
    rotate_left
    ·rintro w' ⟨s0, s1⟩
     go_simp
     with_reducible rfl
    rotate_left
    ·simp only [pmsP]
     rfl
    refine pure_ (i := 5) (N := some 183) (v := ?_) (a' := ?_) pm120 rfl rfl (by kernel_rfl) (fun _ _ _ h => h) (Or.inl ⟨by rfl, ?_⟩) ?_ ?_
    rotate_left
    ·intro w'
     go_simp
     with_reducible rfl
    rotate_left
    ·simp only [pmsP]
     rfl
    refine last_ (i := 6) (N := none) pm121 rfl rfl (by kernel_rfl) (by decide) (fun K hK => ?_)
    refine skip_ (w1 := ?_) (by rfl) rfl ?_ ?_
    rotate_left
    ·go_simp
     rfl
    refine hK.out _ _ ?_
    clear hK K
    refine done_ (by kernel_rfl) ?_
    go_wp2
    obtain rfl : o = _ := HO.out.symm.trans HP.out
    go_ret
    have hF := HSTd.out.set_rest hgl hbase 2 (.bool true)
    have e : nextS s t 1 x.f0 = ⟨s.arms.set 1 ⟨t.f0 + t.f1 - x.f0, dblB t, false⟩, s.tiles ++ [t], t.f0, true, true⟩ := by first | (simp [nextS, hwi, hwo, hd, hs]; done) | (simp [nextS, hwi, hwo, hd, hs]; intro h_; omega)
    exact ⟨rfl, by rw [Option.getD_some, e]; exact St.done (s := ⟨_, _, _, _, _⟩) hF, hF.BL⟩
 ·have h2b : decide ((i : Int) < 2) = false := decide_eq_false (by omega)
  have hn0 : ¬ i = 0 := by omega
  have hn1 : ¬ i = 1 := by omega
  obtain ⟨p2, fp2⟩ := HS11.out.box HPT.out.1 (by omega) (by omega) 2 (.int .i64 (i : Int)) (by rw [show arm = (i : Int) from HI.out.2.1]; rfl)
  refine start_ (n := 12) (S := fun w' => w'.cell? ⟨W.heap.size, 2, none⟩ = some (.int .i64 (i : Int)) ∧ Below w11.heap.size w11 w') (ds := []) pm101 (by kernel_rfl) rfl rfl ⟨(cell_b p2 (belowD (Below.refl _ _))), (belowD (Below.refl _ _))⟩ (fun hHeld => ?_)
  refine pure_ (i := 0) (N := some 121) (v := ?_) (a' := ?_) pm102 rfl rfl (by kernel_rfl) (fun _ _ _ h => h) (Or.inl ⟨by rfl, ?_⟩) ?_ ?_
  rotate_left
  ·intro w'
   go_simp
   with_reducible rfl
  rotate_left
  ·simp only [pmsP]
   rfl
  refine take_ (i := 1) (N := some 122) (v := ?_) (a' := ?_) pm103 rfl rfl (by kernel_rfl) (fun _ _ _ h => h) (Or.inl ⟨by rfl, ?_⟩) hHeld ?_ ?_
  rotate_left
  ·rintro w' ⟨s0, s1⟩
   go_simp
   with_reducible rfl
  rotate_left
  ·simp only [pmsP]
   rfl
  refine pure_ (i := 2) (N := some 123) (v := ?_) (a' := ?_) pm104 rfl rfl (by kernel_rfl) (fun _ _ _ h => h) (Or.inl ⟨by rfl, ?_⟩) ?_ ?_
  rotate_left
  ·intro w'
   go_simp
   with_reducible rfl
  rotate_left
  ·simp only [pmsP]
   rfl
  refine pure_ (i := 3) (N := some 124) (v := ?_) (a' := ?_) pm105 rfl rfl (by kernel_rfl) (fun _ _ _ h => h) (Or.inl ⟨by rfl, ?_⟩) ?_ ?_
  rotate_left
  ·intro w'
   go_simp
   with_reducible rfl
  rotate_left
  ·simp only [pmsP]
   rfl
  refine pure_ (i := 4) (N := some 125) (v := undef) (a' := ?_) pm106 rfl rfl (by kernel_rfl) (fun _ _ _ h => h) (Or.inr ⟨by rfl, rfl⟩) ?_ ?_
  rotate_left
  ·simp only [pmsP]
   rfl
  refine pure_ (i := 5) (N := some 126) (v := undef) (a' := ?_) pm107 rfl rfl (by kernel_rfl) (fun _ _ _ h => h) (Or.inr ⟨by rfl, rfl⟩) ?_ ?_
  rotate_left
  ·simp only [pmsP]
   rfl
  refine pure_ (i := 6) (N := some 127) (v := undef) (a' := ?_) pm143 rfl rfl (by kernel_rfl) (fun _ _ _ h => h) (Or.inr ⟨by rfl, rfl⟩) ?_ ?_
  rotate_left
  ·simp only [pmsP]
   rfl
  refine pure_ (i := 7) (N := some 128) (v := undef) (a' := ?_) pm144 rfl rfl (by kernel_rfl) (fun _ _ _ h => h) (Or.inr ⟨by rfl, rfl⟩) ?_ ?_
  rotate_left
  ·simp only [pmsP]
   rfl
  refine pure_ (i := 8) (N := some 129) (v := undef) (a' := ?_) pm110 rfl rfl (by kernel_rfl) (fun _ _ _ h => h) (Or.inr ⟨by rfl, rfl⟩) ?_ ?_
  rotate_left
  ·simp only [pmsP]
   rfl
  refine pure_ (i := 9) (N := some 130) (v := undef) (a' := ?_) pm111 rfl rfl (by kernel_rfl) (fun _ _ _ h => h) (Or.inr ⟨by rfl, rfl⟩) ?_ ?_
  rotate_left
  ·simp only [pmsP]
   rfl
  refine pure_ (i := 10) (N := some 131) (v := undef) (a' := ?_) pm112 rfl rfl (by kernel_rfl) (fun _ _ _ h => h) (Or.inr ⟨by rfl, rfl⟩) ?_ ?_
  rotate_left
  ·simp only [pmsP]
   rfl
  refine pure_ (i := 11) (N := some 132) (v := ?_) (a' := ?_) pm113 rfl rfl (by kernel_rfl) (fun _ _ _ h => h) (Or.inl ⟨by rfl, ?_⟩) ?_ ?_
  rotate_left
  ·intro w'
   go_simp
   with_reducible rfl
  rotate_left
  ·simp only [pmsP]
   rfl
  refine done_ (by kernel_rfl) ?_
  have HS12 := Aside0.mk (HS11.out.below hHeld.2 hbs (by omega))
  clear p2 fp2 hHeld
  generalize w11.drew = w12 at HS12 ⊢
  obtain ⟨t0, ft0⟩ := HS12.out.box HPT.out.2 (by omega) (by omega) 0 (.int .i64 t.f0) rfl
  obtain ⟨t1, ft1⟩ := HS12.out.box HPT.out.2 (by omega) (by omega) 1 (.int .i64 t.f1) rfl
  obtain ⟨c2, f2⟩ := HS12.out.cell 2 (.int .i64 s.sp) rfl
  by_cases hd : dblB t = true
  rotate_left
  ·have hdf : dblB t = false := by simpa using hd
   go_wp2_with (go_at_call 104; refine (impl_isDouble.calls t.f0 t.f1 false _ (congrArg some hdf)).mono ?_; rintro e w30 ⟨rfl, hb30⟩; have HB30 := Aside0.mk hb30; clear hb30)

   obtain rfl : o = _ := HO.out.symm.trans HP.out
   go_ret
   have hF := HS12.out.below HB30.out hbs (by omega)
   have e : nextS s t i x.f0 = ⟨s.arms.set i ⟨t.f0 + t.f1 - x.f0, dblB t, false⟩, s.tiles ++ [t], s.sp, s.w0, s.w1⟩ := by first | (simp [nextS, hn0, hn1, hdf]; done) | (simp [nextS, hn0, hn1, hdf]; intro h_; omega)
   exact ⟨rfl, by rw [Option.getD_some, e]; exact St.done (s := ⟨_, _, _, _, _⟩) hF, hF.BL⟩
  by_cases hs : s.sp < 0
  rotate_left
  ·have hsb : decide (s.sp < 0) = false := decide_eq_false hs
   go_wp2_with (go_at_call 104; refine (impl_isDouble.calls t.f0 t.f1 true _ (congrArg some hd)).mono ?_; rintro e w30 ⟨rfl, hb30⟩; have c2' := cell_b c2 hb30; have HB30 := Aside0.mk hb30; clear hb30)
   obtain rfl : o = _ := HO.out.symm.trans HP.out
   go_ret
   have hF := HS12.out.below HB30.out hbs (by omega)
   have e : nextS s t i x.f0 = ⟨s.arms.set i ⟨t.f0 + t.f1 - x.f0, dblB t, false⟩, s.tiles ++ [t], s.sp, s.w0, s.w1⟩ := by first | (simp [nextS, hn0, hn1, hd, hs]; done) | (simp [nextS, hn0, hn1, hd, hs]; intro h_; omega)
   exact ⟨rfl, by rw [Option.getD_some, e]; exact St.done (s := ⟨_, _, _, _, _⟩) hF, hF.BL⟩
  exact absurd (hinv hs) (by omega)

end Go.Proofs.Ytepccigcdbimaaa.P
