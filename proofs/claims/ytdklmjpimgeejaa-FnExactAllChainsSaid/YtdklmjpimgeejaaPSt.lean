-- Printed by a program of this session (wip/myprint.py, which drives the kit's print): what one function of the program does, and the proof that its call does so.
import Derived.Lib.SliceRun
import Derived.WalkSpells
import Derived.Test.YtdklmjpimgeejaaP0
import Derived.Test.YtdklmjpimgeejaaPSo
import Derived.Test.YtdklmjpimgeejaaPSp
import Derived.Test.YtdklmjpimgeejaaPspechaSmall
namespace Go.Proofs.Ytdklmjpimgeejaa.P
open Go.RowKit Go.Proofs.YtdklmjpimgeejaaW.PrintWords Go.Proofs.YtdklmjpimgeejaaW.PrintLast Go.Proofs.YtdklmjpimgeejaaW.PrintMore
attribute [local go_sem] max2_int min2_int max_two min_two max_three min_three max_four min_four   -- for this text's walks alone
set_option linter.unusedVariables false
set_option linter.unusedSimpArgs false

/-! ### spec_AllChains: function 7: written by hand -/
def spec_AllChains.f (k : Nat) (l0 : List S45) : Option (List (List Int) × Bool) := (spec_haSmall.f k l0).bind fun b => if b = true then ((tmsF k l0 10).bind fun ts => if l0.length ≤ 8 then some (if (allV l0 300 ts).cnt > 300 then ([], false) else ((allV l0 300 ts).lst, true)) else none) else some ([], false)
theorem spec_AllChains.mono : ∀ a0 k, LeO (spec_AllChains.f k a0) (spec_AllChains.f (k + 1) a0) := by
 intro a0 k r h
 unfold spec_AllChains.f at h ⊢
 obtain ⟨b, h1, h⟩ := Option.bind_eq_some_iff.1 h
 rw [spec_haSmall.mono _ _ _ h1, Option.bind_some]
 cases b with
 | false => exact h
 | true =>
  rw [if_pos rfl] at h ⊢
  obtain ⟨ts, h2, h⟩ := Option.bind_eq_some_iff.1 h
  rw [tmsF_mono _ _ _ _ h2, Option.bind_some]
  exact h
set_option maxHeartbeats 8000000 in
set_option maxRecDepth 100000 in
theorem spec_AllChains.calls (k : Nat) (A0 : Option Addr) (c0 : Nat) (l0 : List S45) (r1 : List (List Int)) (r2 : Bool) (w : World) (hr0 : Kd.C k45 w A0 l0.length l0) (hc0 : l0.length ≤ c0) (h : spec_AllChains.f k l0 = some (r1, r2)) :
  Calls Try.prog 7 #[.slice A0 l0.length c0] w fun e w' => ∃ v0_ : Value, e = .returned (.tuple #[v0_, .bool r2]) ∧ Kd.S (Kd.slice 3 (Kd.int .i64)) 34 w' w.heap.size (fun _ => True) v0_ r1 ∧ Below w.heap.size w w' := by
 unfold spec_AllChains.f at h
 obtain ⟨b, h1, h⟩ := Option.bind_eq_some_iff.1 h
 have hA : Calls Try.prog 22 #[.slice A0 l0.length c0] w fun e w' => e = .returned (.bool b) ∧ Below w.heap.size w w' := spec_haSmall.calls k A0 c0 l0 b w hr0 hc0 h1
 have HA := aM hA
 cases b with
 | false =>
  rw [if_neg (by decide)] at h
  simp only [Option.some.injEq, Prod.mk.injEq] at h
  obtain ⟨rfl, rfl⟩ := h
  clear hA hr0 hc0 h1
  go_enter Try.func7, Try.ntmps7
  go_wp2_with (go_at_call 22; refine HA.out.mono ?_; rintro e w1 ⟨rfl, hb1⟩)
  go_ret2
  exact ⟨_, rfl, Kd.S_nil _ _ _ _ _, hb1⟩
 | true =>
  rw [if_pos rfl] at h
  obtain ⟨ts, h2, h⟩ := Option.bind_eq_some_iff.1 h
  by_cases h8 : l0.length ≤ 8
  case neg => rw [if_neg h8] at h; cases h
  rw [if_pos h8] at h
  obtain ⟨s, hs⟩ : ∃ s, s = allV l0 300 ts := ⟨_, rfl⟩
  have HOK : Aside0 (OkS l0.length s) := ⟨by rw [hs]; exact allV_ok l0 (by decide) ts 10⟩
  rw [← hs] at h
  have HALL : Aside0 (∀ w1, Below w.heap.size w w1 → Calls Try.prog 23 #[.slice A0 l0.length c0, .int .i64 300] w1 fun e w' => ∃ g gC capC vl vg, e = .returned (.pointer (some ⟨g, 0, none⟩)) ∧ LkAt l0.length 300 A0 c0 g gC capC w.heap.size s w' vl vg ∧ w.heap.size ≤ gC ∧ capC ≤ maxLen ∧ Below w.heap.size w w') := ⟨fun w1 hb => by
   refine (spec_haAll.gcalls k l0 A0 c0 300 ts w1 (by decide) h8 hc0 h2 (Kd.C_below hr0 hb)).mono ?_
   rintro e w' ⟨g, gC, capC, vl, vg, he, hl, h3, h4, h5⟩
   rw [← hs] at hl
   exact ⟨g, gC, capC, vl, vg, he, ⟨hl.G, hl.C, Kd.S_lower hl.L hb.size, Kd.R_lower hl.R hb.size⟩, Nat.le_trans hb.size h3, h4, below_then hb hb.size h5⟩⟩
  clear hA h1 hr0 h2 hs
  by_cases hz : s.cnt > 300
  ·rw [if_pos hz] at h
   simp only [Option.some.injEq, Prod.mk.injEq] at h
   obtain ⟨rfl, rfl⟩ := h
   go_enter Try.func7, Try.ntmps7
   go_wp2_with (first | (go_at_call 22; refine HA.out.mono ?_; rintro e w1 ⟨rfl, hb1⟩; have HB1 := aM hb1; clear hb1) | (go_at_call 23; refine (HALL.out _ HB1.out).mono ?_; rintro e w2 ⟨g, gC, capC, vl, vg, rfl, hl, h3, h4, h5⟩; obtain ⟨Al, cl, rfl⟩ := Kd.S_slice hl.L; have HL := aM hl; have HG := aM (And.intro h3 (And.intro h4 h5)); obtain ⟨⟨c0_, c1_, c2_, c3_, c4_, c5_⟩, _⟩ := hl.cells; clear hl h3 h4 h5))
   go_ret2
   exact ⟨_, rfl, Kd.S_nil _ _ _ _ _, HG.out.2.2⟩
  ·rw [if_neg hz] at h
   simp only [Option.some.injEq, Prod.mk.injEq] at h
   obtain ⟨rfl, rfl⟩ := h
   go_enter Try.func7, Try.ntmps7
   go_wp2_with (first | (go_at_call 22; refine HA.out.mono ?_; rintro e w1 ⟨rfl, hb1⟩; have HB1 := aM hb1; clear hb1) | (go_at_call 23; refine (HALL.out _ HB1.out).mono ?_; rintro e w2 ⟨g, gC, capC, vl, vg, rfl, hl, h3, h4, h5⟩; obtain ⟨Al, cl, rfl⟩ := Kd.S_slice hl.L; have HL := aM hl; have HG := aM (And.intro h3 (And.intro h4 h5)); obtain ⟨⟨c0_, c1_, c2_, c3_, c4_, c5_⟩, _⟩ := hl.cells; clear hl h3 h4 h5))
   go_ret2
   exact ⟨_, rfl, Kd.S_mono HL.out.L (fun _ _ => trivial), HG.out.2.2⟩

end Go.Proofs.Ytdklmjpimgeejaa.P
