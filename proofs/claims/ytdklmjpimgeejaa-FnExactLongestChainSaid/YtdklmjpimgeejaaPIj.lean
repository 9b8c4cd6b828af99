-- Printed by a program of this session (wip/myprint.py, which drives the kit's print): what one function of the program does, and the proof that its call does so.
import Derived.Lib.SliceRun
import Derived.WalkSpells
import Derived.Test.YtdklmjpimgeejaaP0
import Derived.Test.YtdklmjpimgeejaaPId
import Derived.Test.YtdklmjpimgeejaaPIh
import Derived.Test.YtdklmjpimgeejaaPIy
import Derived.Test.YtdklmjpimgeejaaPimplisChained
namespace Go.Proofs.Ytdklmjpimgeejaa.P
open Go.RowKit Go.Proofs.YtdklmjpimgeejaaW.PrintWords Go.Proofs.YtdklmjpimgeejaaW.PrintLast Go.Proofs.YtdklmjpimgeejaaW.PrintMore
attribute [local go_sem] max2_int min2_int max_two min_two max_three min_three max_four min_four   -- for this text's walks alone
set_option linter.unusedVariables false
set_option linter.unusedSimpArgs false

/-! ### impl_CountByTiles: function 16: written by hand -/
theorem made_rowI {w : World} {base n B : Nat} {v : Value} (h : Kd.R (Kd.int .i64) 3 w base (fun _ => True) v (List.replicate ((n : Nat) : Int).toNat 0)) (hn : ∃ b, v.ownBlock = some b ∧ B ≤ b) : ∃ g cap, v = .slice (some ⟨g, 0, none⟩) n cap ∧ base ≤ g ∧ B ≤ g ∧ cap ≤ maxLen ∧ rowI w g cap (List.replicate n 0) := by
 rw [Int.toNat_natCast] at h
 obtain ⟨b, hb1, hb2⟩ := hn
 rcases rowI_of_R h with ⟨rfl, _⟩ | ⟨g, cap, rfl, hg, _, _, hc, hr⟩
 ·cases hb1
 ·rw [List.length_replicate] at hb1 ⊢
  cases hb1
  exact ⟨g, cap, rfl, hg, hb2, hc, hr⟩
def gCnt (ch cnt : List Int) : List Int × Bool := (upAt cnt (ch.length - 2), true)
def impl_CountByTiles.f (k : Nat) (l0 : List S45) : Option (List Int × Bool) := (impl_isChained.f k l0).bind fun b => if b = true then ((impl_numbers.f k l0).bind fun ns => if l0.length ≤ 8 ∧ ns.length ≤ 100 then some ((allB gCnt l0 ns (List.replicate l0.length 0)).1, true) else none) else some ([], false)
theorem impl_CountByTiles.mono : ∀ a0 k, LeO (impl_CountByTiles.f k a0) (impl_CountByTiles.f (k + 1) a0) := by
 intro a0 k r h
 unfold impl_CountByTiles.f at h ⊢
 obtain ⟨b, h1, h⟩ := Option.bind_eq_some_iff.1 h
 rw [impl_isChained.mono _ _ _ h1, Option.bind_some]
 cases b with
 | false => exact h
 | true =>
  rw [if_pos rfl] at h ⊢
  obtain ⟨ns, h2, h⟩ := Option.bind_eq_some_iff.1 h
  rw [impl_numbers.mono _ _ _ h2, Option.bind_some]
  exact h
set_option maxHeartbeats 8000000 in
set_option maxRecDepth 100000 in
theorem impl_CountByTiles.calls (k : Nat) (A0 : Option Addr) (c0 : Nat) (l0 : List S45) (r1 : List Int) (r2 : Bool) (w : World) (hr0 : Kd.C k45 w A0 l0.length l0) (hc0 : l0.length ≤ c0) (h : impl_CountByTiles.f k l0 = some (r1, r2)) :
  Calls Try.prog 16 #[.slice A0 l0.length c0] w fun e w' => ∃ v0_ : Value, e = .returned (.tuple #[v0_, .bool r2]) ∧ Kd.R (Kd.int .i64) 3 w' w.heap.size (fun _ => True) v0_ r1 ∧ Below w.heap.size w w' := by
 have eg29 : ∀ args w, (callFunc 29 args).run Try.prog w = .ok (.enter 29 args) w := enters_of Try.func29 (by kernel_rfl) rfl
 have hmf : ∀ (fn : Fn) (first cap : Array Value) (w : World), (Instr.makeFunc fn first cap).run Try.prog w = .ok (.func fn first cap) w := fun _ _ _ _ => rfl
 unfold impl_CountByTiles.f at h
 obtain ⟨b, h1, h⟩ := Option.bind_eq_some_iff.1 h
 have hA : Calls Try.prog 25 #[.slice A0 l0.length c0] w fun e w' => e = .returned (.bool b) ∧ Below w.heap.size w w' := impl_isChained.calls k A0 c0 l0 b w hr0 hc0 h1
 have HA := aM hA
 cases b with
 | false =>
  rw [if_neg (by decide)] at h
  simp only [Option.some.injEq, Prod.mk.injEq] at h
  obtain ⟨rfl, rfl⟩ := h
  clear hA hr0 hc0 h1
  go_enter Try.func16, Try.ntmps16
  go_wp2_with (go_at_call 25; refine HA.out.mono ?_; rintro e w1 ⟨rfl, hb1⟩)
  go_ret2
  exact ⟨_, rfl, Kd.R_nil _ _ _ _ _, hb1⟩
 | true =>
  rw [if_pos rfl] at h
  obtain ⟨ns, h2, h⟩ := Option.bind_eq_some_iff.1 h
  by_cases hz : l0.length ≤ 8 ∧ ns.length ≤ 100
  case neg => rw [if_neg hz] at h; cases h
  rw [if_pos hz] at h
  simp only [Option.some.injEq, Prod.mk.injEq] at h
  obtain ⟨hr1, rfl⟩ := h
  have h8 := hz.1
  have HR0 := aM hr0
  have HCH : Aside0 (∀ (w1 w2 : World) (gC cap : Nat), Below w.heap.size w w1 → Below w1.heap.size w1 w2 → w1.heap.size ≤ gC → cap ≤ maxLen → rowI w2 gC cap (List.replicate l0.length 0) →
    Calls Try.prog 26 #[.slice A0 l0.length c0, .func (.func 29) #[] #[.pointer (some ⟨w2.heap.size, 0, none⟩)]] (w2.alloc (.cells #[.slice (some ⟨gC, 0, none⟩) l0.length cap] 34)) fun e W' => ∃ b, e = .returned (.bool b) ∧ W'.cell? ⟨w2.heap.size, 0, none⟩ = some (.slice (some ⟨gC, 0, none⟩) l0.length cap) ∧ Kd.R (Kd.int .i64) 3 W' w.heap.size (fun _ => True) (.slice (some ⟨gC, 0, none⟩) l0.length cap) r1 ∧ Below w.heap.size w W') := ⟨fun w1 w2 gC cap hb1 hb2 hgC hcap hrow => by
   have hgl : gC < w2.heap.size := by obtain ⟨cur, h1, _⟩ := hrow; exact lt_heapY h1
   have h12 := below_then hb1 hb1.size hb2
   have h13 := h12.alloc h12.size (.cells #[.slice (some ⟨gC, 0, none⟩) l0.length cap] 34)
   have hs3 : (w2.alloc (.cells #[.slice (some ⟨gC, 0, none⟩) l0.length cap] 34)).heap.size = w2.heap.size + 1 := by simp
   have hgw : w.heap.size ≤ gC := Nat.le_trans hb1.size hgC
   have hY : ∀ k (o : Option Obj), k < w.heap.size → ¬ (fun k (_ : Option Obj) => k = gC) k o := fun k o hk e => by have : k = gC := e; omega
   refine (impl_chains.gcalls (fun k _ => k = gC) (fun (s : List Int) W => s.length = l0.length ∧ rowI W gC cap s ∧ W.cell? ⟨w2.heap.size, 0, none⟩ = some (.slice (some ⟨gC, 0, none⟩) l0.length cap)) 29 #[.pointer (some ⟨w2.heap.size, 0, none⟩)] gCnt k l0 ns A0 c0 (List.replicate l0.length 0) _ (by omega) h2 hz.2 hc0 eg29 (fun b _ _ hb e => by rw [hs3] at hb; have : b = gC := e; omega) (fun b _ _ hb e => by rw [hs3] at hb; have : b = gC := e; omega) (fun b _ hb => ⟨fun e => by rw [hs3] at hb; have : b = gC := e; omega, fun e => by rw [hs3] at hb; have : b = gC := e; omega⟩)
    (fun s W W' hp hb => ⟨hp.1, rowI_below hp.2.1 hb, cell_bY hp.2.2 hb⟩) ⟨by simp, rowI_below hrow ((Below.refl _ _).alloc (Nat.le_refl _) _), by simp only [World.cell?, heap_alloc_new]; rfl⟩ (fun W' hW => Kd.C_below hr0 (h13.trans (hW.belowB hY h13.size))) ?_).mono ?_
   ·intro s chain W0 W1 A c hp _ hB _ h2c hlc
    have hp1 := rowI_below hp.2.1 hB
    have hp2 := cell_bY hp.2.2 hB
    refine (impl_CountByTiles_1.gcalls chain A c s gC cap w2.heap.size W1 h2c (by rw [hp.1]; exact hlc) (by rw [hp.1]; omega) (by rw [hp.1]; exact hp2) hp1).mono ?_
    rintro e W' ⟨he, hr, hg⟩
    exact ⟨he, fun _ => ⟨(upAt_length _ _).trans hp.1, hr, hg.cell hp2 (by simp; omega)⟩, ChgY.of_grown hg (fun _ => rfl)⟩
   ·rintro e W' ⟨rfl, hp, hg⟩
    have hp := hp (allB_true (fun _ _ => rfl) _ _ _)
    rw [hr1] at hp
    refine ⟨_, rfl, hp.2.2, ?_, h13.trans (hg.belowB hY h13.size)⟩
    rw [← hp.1]
    exact R_of_rowI hp.2.1 hgw trivial hcap⟩
  clear hA h1 hr0 h2 hz hr1 eg29
  go_enter Try.func16, Try.ntmps16
  go_wp2_with (first | (go_at_call 25; refine HA.out.mono ?_; rintro e w1 ⟨rfl, hb1⟩; have HB1 := aM hb1; clear hb1) | ((with_reducible refine gate_dst (N := 10) rfl ?_); refine Kd.R_make (Kd.int .i64) _ 3 rfl (N := 10) rfl 34 _ _ rfl (l0.length : Int) rfl rfl Try.underlying34 (.int .i64 0) 8 info3 rfl (by decide) (by omega) (0 : Int) (ok := fun _ => True) (okp := fun _ => True) rfl (fun _ hk => hk) trivial (by omega) (by simp; omega) (Below.refl _ _) (Nat.le_refl _) ?_; intro v2 w2 ho2 hb2 hg2 hnew2; obtain ⟨gC, cap, rfl, hgC, _, hcap, hrow⟩ := made_rowI ho2 hnew2; have HB2 := aM (And.intro hb2 (And.intro hgC (And.intro hcap hrow))); clear ho2 hb2 hg2 hnew2 hgC hcap hrow) | (go_at_call 26; refine (HCH.out _ _ _ _ HB1.out HB2.out.1 HB2.out.2.1 HB2.out.2.2.1 HB2.out.2.2.2).mono ?_; rintro e w3 ⟨b3, rfl, hc3, ho3, hb3⟩; have HO3 := aM (And.intro ho3 hb3); clear ho3 hb3))
  go_ret2
  exact ⟨_, rfl, HO3.out.1, HO3.out.2⟩

end Go.Proofs.Ytdklmjpimgeejaa.P
