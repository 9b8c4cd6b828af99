-- Printed by a program of this session (wip/myprint.py, which drives the kit's print): what one function of the program does, and the proof that its call does so.
import Derived.Lib.SliceRun
import Derived.WalkSpells
import Derived.Test.YtdklmjpimgeejaaP0
import Derived.Test.YtdklmjpimgeejaaPId
import Derived.Test.YtdklmjpimgeejaaPIg
import Derived.Test.YtdklmjpimgeejaaPIh
import Derived.Test.YtdklmjpimgeejaaPIy
import Derived.Test.YtdklmjpimgeejaaPIz
import Derived.Test.YtdklmjpimgeejaaPimplisChained
namespace Go.Proofs.Ytdklmjpimgeejaa.P
open Go.RowKit Go.Proofs.YtdklmjpimgeejaaW.PrintWords Go.Proofs.YtdklmjpimgeejaaW.PrintLast Go.Proofs.YtdklmjpimgeejaaW.PrintMore
attribute [local go_sem] max2_int min2_int max_two min_two max_three min_three max_four min_four   -- for this text's walks alone
set_option linter.unusedVariables false
set_option linter.unusedSimpArgs false

/-! ### impl_LongestChain: function 21: written by hand -/
def gLng (ch best : List Int) : List Int × Bool := (if ch.length > best.length then ch else best, true)
def impl_LongestChain.f (k : Nat) (l0 : List S45) : Option (List Int × Bool) := (impl_isChained.f k l0).bind fun b => if b = true then ((impl_numbers.f k l0).bind fun ns => if l0.length ≤ 8 ∧ ns.length ≤ 100 then some ((allB gLng l0 ns [0]).1, true) else none) else some ([], false)
theorem impl_LongestChain.mono : ∀ a0 k, LeO (impl_LongestChain.f k a0) (impl_LongestChain.f (k + 1) a0) := by
 intro a0 k r h
 unfold impl_LongestChain.f at h ⊢
 obtain ⟨b, h1, h⟩ := Option.bind_eq_some_iff.1 h
 rw [impl_isChained.mono _ _ _ h1, Option.bind_some]
 cases b with
 | false => exact h
 | true =>
  rw [if_pos rfl] at h ⊢
  obtain ⟨ns, h2, h⟩ := Option.bind_eq_some_iff.1 h
  rw [impl_numbers.mono _ _ _ h2, Option.bind_some]
  exact h
set_option maxHeartbeats 8000000 in
set_option maxRecDepth 100000 in
theorem impl_LongestChain.calls (k : Nat) (A0 : Option Addr) (c0 : Nat) (l0 : List S45) (r1 : List Int) (r2 : Bool) (w : World) (hr0 : Kd.C k45 w A0 l0.length l0) (hc0 : l0.length ≤ c0) (h : impl_LongestChain.f k l0 = some (r1, r2)) :
  Calls Try.prog 21 #[.slice A0 l0.length c0] w fun e w' => ∃ v0_ : Value, e = .returned (.tuple #[v0_, .bool r2]) ∧ Kd.R (Kd.int .i64) 3 w' w.heap.size (fun _ => True) v0_ r1 ∧ Below w.heap.size w w' := by
 have eg30 : ∀ args w, (callFunc 30 args).run Try.prog w = .ok (.enter 30 args) w := enters_of Try.func30 (by kernel_rfl) rfl
 have hmf : ∀ (fn : Fn) (first cap : Array Value) (w : World), (Instr.makeFunc fn first cap).run Try.prog w = .ok (.func fn first cap) w := fun _ _ _ _ => rfl
 unfold impl_LongestChain.f at h
 obtain ⟨b, h1, h⟩ := Option.bind_eq_some_iff.1 h
 have hA : Calls Try.prog 25 #[.slice A0 l0.length c0] w fun e w' => e = .returned (.bool b) ∧ Below w.heap.size w w' := impl_isChained.calls k A0 c0 l0 b w hr0 hc0 h1
 have HA := aM hA
 cases b with
 | false =>
  rw [if_neg (by decide)] at h
  simp only [Option.some.injEq, Prod.mk.injEq] at h
  obtain ⟨rfl, rfl⟩ := h
  clear hA hr0 hc0 h1
  go_enter Try.func21, Try.ntmps21
  go_wp2_with (go_at_call 25; refine HA.out.mono ?_; rintro e w1 ⟨rfl, hb1⟩)
  go_ret2
  exact ⟨_, rfl, Kd.R_nil _ _ _ _ _, hb1⟩
 | true =>
  rw [if_pos rfl] at h
  obtain ⟨ns, h2, h⟩ := Option.bind_eq_some_iff.1 h
  by_cases hz : l0.length ≤ 8 ∧ ns.length ≤ 100
  case neg => rw [if_neg hz] at h; cases h
  rw [if_pos hz] at h
  simp only [Option.some.injEq, Prod.mk.injEq] at h
  obtain ⟨hr1, rfl⟩ := h
  have h8 := hz.1
  have HR0 := aM hr0
  have HCH : Aside0 (∀ (w1 : World), Below w.heap.size w w1 →
    Calls Try.prog 26 #[.slice A0 l0.length c0, .func (.func 30) #[] #[.pointer (some ⟨w1.heap.size + 1, 0, none⟩)]] ((w1.alloc (.cells #[.int .i64 0] 3)).alloc (.cells #[.slice (some ⟨w1.heap.size, 0, none⟩) 1 1] 34)) fun e W' => ∃ b A c, e = .returned (.bool b) ∧ W'.cell? ⟨w1.heap.size + 1, 0, none⟩ = some (.slice A r1.length c) ∧ Kd.R (Kd.int .i64) 3 W' w.heap.size (fun _ => True) (.slice A r1.length c) r1 ∧ Below w.heap.size w W') := ⟨fun w1 hb1 => by
   obtain ⟨W3, hW3⟩ : ∃ W3, W3 = (w1.alloc (.cells #[.int .i64 0] 3)).alloc (.cells #[.slice (some ⟨w1.heap.size, 0, none⟩) 1 1] 34) := ⟨_, rfl⟩
   obtain ⟨g1, g2, g3⟩ := alloc2_at w1 (.cells #[.int .i64 0] 3) (.cells #[.slice (some ⟨w1.heap.size, 0, none⟩) 1 1] 34)
   rw [← hW3] at g1 g2 g3 ⊢
   have h13 : Below w.heap.size w W3 := by rw [hW3]; exact (hb1.alloc hb1.size _).alloc (by have := hb1.size; simp; omega) _
   have hw1 := hb1.size
   have hrow : rowI W3 w1.heap.size 1 [0] := ⟨_, g1, rfl, Nat.le_refl _, fun i y hy => by
    match i, hy with
    | 0, hy => cases hy; rfl⟩
   have hR := R_of_rowI (base := w.heap.size) (ok := fun _ => True) hrow hw1 trivial (by simp [maxLen])
   have hY : ∀ k (o : Option Obj), k < w.heap.size → ¬ (fun k (_ : Option Obj) => k = w1.heap.size + 1) k o := fun k o hk e => by have : k = w1.heap.size + 1 := e; omega
   have hYn : ∀ b, W3.heap.size ≤ b → ¬ b = w1.heap.size + 1 := fun b hb e => by omega
   refine (impl_chains.gcalls (fun k _ => k = w1.heap.size + 1) (fun (s : List Int) W => ∃ A c, W.heap[w1.heap.size + 1]? = some (.cells #[.slice A s.length c] 34 (0, 0)) ∧ Kd.R (Kd.int .i64) 3 W w.heap.size (fun _ => True) (.slice A s.length c) s ∧ s.length ≤ 100) 30 #[.pointer (some ⟨w1.heap.size + 1, 0, none⟩)] gLng k l0 ns A0 c0 [0] W3 (by omega) h2 hz.2 hc0 eg30 (fun b _ _ hb => hYn b hb) (fun b _ _ hb => hYn b hb) (fun b _ hb => ⟨hYn b hb, hYn b hb⟩)
    (fun s W W' ⟨A, c, p1, p2, p3⟩ hb => ⟨A, c, (hb.block _ (lt_heapY p1)).trans p1, Kd.R_below p2 hb, p3⟩) ⟨_, _, g2, hR, by simp⟩ (fun W' hW => Kd.C_below hr0 (h13.trans (hW.belowB hY h13.size))) ?_).mono ?_
   ·intro s chain W0 W1 A c hp hWs hB hR2 h2c hlc
    obtain ⟨Ab, cb, p1, p2, p3⟩ := hp
    have q1 := (hB.block _ (lt_heapY p1)).trans p1
    have q2 := Kd.R_below p2 hB
    refine (impl_LongestChain_1.gcalls chain.length c A s.length cb Ab (w1.heap.size + 1) W1 (by omega) (by omega) q1).mono ?_
    rintro e W' ⟨he, hr, hg⟩
    refine ⟨he, fun _ => ?_, ChgY.of_grown hg (fun _ => rfl)⟩
    have hty : ∀ q, q ∈ 3 :: (Kd.int .i64).E → q ≠ 34 := by decide
    show ∃ A c, _
    by_cases hgt : chain.length > s.length
    ·rw [if_pos hgt] at hr
     simp only [gLng, if_pos hgt]
     exact ⟨A, c, hr, Kd.R_grown (Kd.R_types (Kd.R_lower hR2 (by have := h13.size; omega)) q1 hty) hg (fun k hk e => hk.2 (Option.some.inj e)) |> fun h => Kd.R_mono h (fun _ _ => trivial), by omega⟩
    ·rw [if_neg hgt] at hr
     simp only [gLng, if_neg hgt]
     exact ⟨Ab, cb, hr, Kd.R_grown (Kd.R_types q2 q1 hty) hg (fun k hk e => hk.2 (Option.some.inj e)) |> fun h => Kd.R_mono h (fun _ _ => trivial), p3⟩
   ·rintro e W' ⟨rfl, hp, hg⟩
    obtain ⟨A, c, p1, p2, p3⟩ := hp (allB_true (fun _ _ => rfl) _ _ _)
    rw [hr1] at p1 p2
    exact ⟨_, A, c, rfl, cell_hY p1, p2, h13.trans (hg.belowB hY h13.size)⟩⟩
  clear hA h1 hr0 h2 hz hr1 eg30
  go_enter Try.func21, Try.ntmps21
  go_wp2_with (first | (go_at_call 25; refine HA.out.mono ?_; rintro e w1 ⟨rfl, hb1⟩; have HB1 := aM hb1; clear hb1) | (go_at_call 26; refine (HCH.out _ HB1.out).mono ?_; rintro e w3 ⟨b3, A3, c3, rfl, hc3, ho3, hb3⟩; have HO3 := aM (And.intro ho3 hb3); clear ho3 hb3))
  go_ret2
  exact ⟨_, rfl, HO3.out.1, HO3.out.2⟩

end Go.Proofs.Ytdklmjpimgeejaa.P
