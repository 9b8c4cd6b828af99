-- Printed by a program of this session (wip/myprint.py, which drives the kit's print): what one function of the program does, and the proof that its call does so.
import Derived.Lib.SliceRun
import Derived.WalkSpells
import Derived.Test.YtdklmjpimgeejaaP0
import Derived.Test.YtdklmjpimgeejaaPId
import Derived.Test.YtdklmjpimgeejaaPIg
import Derived.Test.YtdklmjpimgeejaaPIh
import Derived.Test.YtdklmjpimgeejaaPIy
import Derived.Test.YtdklmjpimgeejaaPIz
import Derived.Test.YtdklmjpimgeejaaPimplisChained
namespace Go.Proofs.Ytdklmjpimgeejaa.P
open Go.RowKit Go.Proofs.YtdklmjpimgeejaaW.PrintWords Go.Proofs.YtdklmjpimgeejaaW.PrintLast Go.Proofs.YtdklmjpimgeejaaW.PrintMore
attribute [local go_sem] max2_int min2_int max_two min_two max_three min_three max_four min_four   -- for this text's walks alone
set_option linter.unusedVariables false
set_option linter.unusedSimpArgs false

/-! ### impl_AllChains: function 9: written by hand -/
def gAll (h : Nat) (ch : List Int) (out : List (List Int)) : List (List Int) × Bool := (if ch.length = h + 1 then out ++ [ch] else out, decide ((if ch.length = h + 1 then out ++ [ch] else out).length ≤ 300))
def impl_AllChains.f (k : Nat) (l0 : List S45) : Option (List (List Int) × Bool) := (impl_isChained.f k l0).bind fun b => if b = true then ((impl_numbers.f k l0).bind fun ns => if l0.length ≤ 8 ∧ ns.length ≤ 100 then some (if (allB (gAll l0.length) l0 ns []).2 = true then ((allB (gAll l0.length) l0 ns []).1, true) else ([], false)) else none) else some ([], false)
theorem impl_AllChains.mono : ∀ a0 k, LeO (impl_AllChains.f k a0) (impl_AllChains.f (k + 1) a0) := by
 intro a0 k r h
 unfold impl_AllChains.f at h ⊢
 obtain ⟨b, h1, h⟩ := Option.bind_eq_some_iff.1 h
 rw [impl_isChained.mono _ _ _ h1, Option.bind_some]
 cases b with
 | false => exact h
 | true =>
  rw [if_pos rfl] at h ⊢
  obtain ⟨ns, h2, h⟩ := Option.bind_eq_some_iff.1 h
  rw [impl_numbers.mono _ _ _ h2, Option.bind_some]
  exact h
set_option maxHeartbeats 8000000 in
set_option maxRecDepth 100000 in
theorem impl_AllChains.calls (k : Nat) (A0 : Option Addr) (c0 : Nat) (l0 : List S45) (r1 : List (List Int)) (r2 : Bool) (w : World) (hr0 : Kd.C k45 w A0 l0.length l0) (hc0 : l0.length ≤ c0) (h : impl_AllChains.f k l0 = some (r1, r2)) :
  Calls Try.prog 9 #[.slice A0 l0.length c0] w fun e w' => ∃ v0_ : Value, e = .returned (.tuple #[v0_, .bool r2]) ∧ Kd.S (Kd.slice 3 (Kd.int .i64)) 34 w' w.heap.size (fun _ => True) v0_ r1 ∧ Below w.heap.size w w' := by
 have eg27 : ∀ args w, (callFunc 27 args).run Try.prog w = .ok (.enter 27 args) w := enters_of Try.func27 (by kernel_rfl) rfl
 have hmf : ∀ (fn : Fn) (first cap : Array Value) (w : World), (Instr.makeFunc fn first cap).run Try.prog w = .ok (.func fn first cap) w := fun _ _ _ _ => rfl
 unfold impl_AllChains.f at h
 obtain ⟨b, h1, h⟩ := Option.bind_eq_some_iff.1 h
 have HA : Aside0 (∀ o, Calls Try.prog 25 #[.slice A0 l0.length c0] (w.alloc o) fun e w' => e = .returned (.bool b) ∧ Below (w.alloc o).heap.size (w.alloc o) w') := ⟨fun o => impl_isChained.calls k A0 c0 l0 b _ (Kd.C_below hr0 ((Below.refl _ _).alloc (Nat.le_refl _) _)) hc0 h1⟩
 cases b with
 | false =>
  rw [if_neg (by decide)] at h
  simp only [Option.some.injEq, Prod.mk.injEq] at h
  obtain ⟨rfl, rfl⟩ := h
  clear hr0 hc0 h1
  go_enter Try.func9, Try.ntmps9
  go_wp2_with (go_at_call 25; refine (HA.out _).mono ?_; rintro e w1 ⟨rfl, hb1⟩)
  go_ret2
  exact ⟨_, rfl, Kd.S_nil _ _ _ _ _, below_then ((Below.refl w.heap.size w).alloc (Nat.le_refl _) _) (by simp) hb1⟩
 | true =>
  rw [if_pos rfl] at h
  obtain ⟨ns, h2, h⟩ := Option.bind_eq_some_iff.1 h
  by_cases hz : l0.length ≤ 8 ∧ ns.length ≤ 100
  case neg => rw [if_neg hz] at h; cases h
  rw [if_pos hz] at h
  have h8 := hz.1
  obtain ⟨OH, hOH⟩ : ∃ o : Obj, o = .cells #[.slice A0 l0.length c0] 27 (0, 0) := ⟨_, rfl⟩
  obtain ⟨rr, hrr⟩ : ∃ rr, rr = allB (gAll l0.length) l0 ns [] := ⟨_, rfl⟩
  rw [← hrr] at h
  have HCH : Aside0 (∀ (w1 : World), Below (w.alloc OH).heap.size (w.alloc OH) w1 →
    Calls Try.prog 26 #[.slice A0 l0.length c0, .func (.func 27) #[] #[.pointer (some ⟨w.heap.size, 0, none⟩), .pointer (some ⟨w1.heap.size + 1, 0, none⟩)]] ((w1.alloc (.cells #[] 34)).alloc (.cells #[.slice (some ⟨w1.heap.size, 0, none⟩) 0 0] 24)) fun e W' => e = .returned (.bool rr.2) ∧ (rr.2 = true → ∃ vo, W'.heap[w1.heap.size + 1]? = some (.cells #[vo] 24 (0, 0)) ∧ Kd.S (Kd.slice 3 (Kd.int .i64)) 34 W' w.heap.size (fun _ => True) vo rr.1) ∧ Below w.heap.size w W') := ⟨fun w1 hb1 => by
   obtain ⟨W3, hW3⟩ : ∃ W3, W3 = (w1.alloc (.cells #[] 34)).alloc (.cells #[.slice (some ⟨w1.heap.size, 0, none⟩) 0 0] 24) := ⟨_, rfl⟩
   obtain ⟨g1, g2, g3⟩ := alloc2_at w1 (.cells #[] 34) (.cells #[.slice (some ⟨w1.heap.size, 0, none⟩) 0 0] 24)
   rw [← hW3] at g1 g2 g3 ⊢
   have hw1 : w.heap.size + 1 ≤ w1.heap.size := by have := hb1.size; simpa using this
   have hb0 : Below w.heap.size w w1 := below_then ((Below.refl w.heap.size w).alloc (Nat.le_refl _) _) (by simp) hb1
   have h13 : Below w.heap.size w W3 := by rw [hW3]; exact (hb0.alloc hb0.size _).alloc (by have := hb0.size; simp; omega) _
   have hH1 : w1.heap[w.heap.size]? = some OH := (hb1.block _ (by simp)).trans (heap_alloc_new w OH)
   have hH3 : W3.heap[w.heap.size]? = some OH := by
    rw [hW3]
    exact ((((Below.refl w1.heap.size w1).alloc (Nat.le_refl _) _).alloc (by simp) _).block _ (by omega)).trans hH1
   have hS0 : Kd.S (Kd.slice 3 (Kd.int .i64)) 34 W3 w.heap.size (fun _ => True) (.slice (some ⟨w1.heap.size, 0, none⟩) 0 0) ([] : List (List Int)) :=
    ⟨fun _ => 0, fun b hb => trivial, [], ⟨rfl, .inr ⟨w1.heap.size, 0, #[], rfl, by omega, g1, Nat.le_refl _, by simp [maxLen], rfl, rfl⟩⟩, rfl, fun j p hj => by simp at hj⟩
   refine (impl_chains.gcalls (YA w.heap.size) (fun (s : List (List Int)) W => W.heap[w.heap.size]? = some OH ∧ ∃ vo, W.heap[w1.heap.size + 1]? = some (.cells #[vo] 24 (0, 0)) ∧ Kd.S (Kd.slice 3 (Kd.int .i64)) 34 W w.heap.size (fun _ => True) vo s ∧ s.length ≤ 300) 27 #[.pointer (some ⟨w.heap.size, 0, none⟩), .pointer (some ⟨w1.heap.size + 1, 0, none⟩)] (gAll l0.length) k l0 ns A0 c0 [] W3 (by omega) h2 hz.2 hc0 eg27 (fun b _ _ _ h => by obtain ⟨_, cur', fr', h | h⟩ := h <;> cases h) (fun b _ _ _ h => by obtain ⟨_, cur', fr', h | h⟩ := h <;> cases h) (fun b _ _ => ⟨fun h => by (obtain ⟨_, cur', fr', h | h⟩ := h <;> cases h), fun h => by (obtain ⟨_, cur', fr', h | h⟩ := h <;> cases h)⟩)
    (fun s W W' ⟨p0, vo, p1, p2, p3⟩ hb => ⟨(hb.block _ (lt_heapY p0)).trans p0, vo, (hb.block _ (lt_heapY p1)).trans p1, Kd.S_below p2 hb, p3⟩) ⟨hH3, _, g2, hS0, by simp⟩ (fun W' hW => Kd.C_below hr0 (h13.trans (ChgY.belowB hW (fun k o hk e => by have := e.1; omega) h13.size))) ?_).mono ?_
   ·intro s chain W0 W1 A c hp hWs hB hR2 h2c hlc
    obtain ⟨p0, vo, p1, p2, p3⟩ := hp
    have q0 := (hB.block _ (lt_heapY p0)).trans p0
    have q1 := (hB.block _ (lt_heapY p1)).trans p1
    have q2 := Kd.S_below (Kd.S_mono (Kd.S_bound p2) (ok' := fun k => k < W0.heap.size) (fun k hk => hk.2.2.1)) hB
    have q3 := Kd.R_lower (Kd.R_mono (Kd.R_bound hR2) (ok' := fun k => W0.heap.size ≤ k) (fun k hk => hk.2.1)) (show w.heap.size ≤ W0.heap.size by have := h13.size; omega)
    have q4 : W1.cell? ⟨w.heap.size, 0, none⟩ = some (.slice A0 l0.length c0) := by rw [hOH] at q0; exact cell_hY q0
    refine (impl_AllChains_1.gcalls chain A c s vo w.heap.size (w1.heap.size + 1) A0 l0.length c0 w.heap.size W0.heap.size W1 q4 q1 q2 q3 (by have := h13.size; have := hB.size; omega) (by omega) (by omega) (by omega) (by omega) (by omega)).mono ?_
    rintro e W' ⟨vo', he, hr, hs, hg⟩
    refine ⟨he, fun ht => ⟨(hg.2.2.2.2 _ (lt_heapY q0) (by rw [q0, hOH]; intro h; obtain ⟨_, cur', fr', h | h⟩ := h <;> cases h)).trans q0, vo', hr, hs, ?_⟩, hg⟩
    exact oD ht
   ·rintro e W' ⟨he, hp, hg⟩
    rw [← hrr] at he hp
    refine ⟨he, fun ht => ?_, h13.trans (ChgY.belowB hg (fun k o hk e => by have := e.1; omega) h13.size)⟩
    obtain ⟨_, vo, p1, p2, _⟩ := hp ht
    exact ⟨vo, p1, p2⟩⟩
  have HCH1 : Aside0 (∀ w1, Below (w.alloc OH).heap.size (w.alloc OH) w1 → w1.cell? ⟨w.heap.size, 0, none⟩ = some (.slice A0 l0.length c0)) := ⟨fun w1 hb1 => by
   have e := (hb1.block w.heap.size (by simp)).trans (heap_alloc_new w OH)
   rw [hOH] at e
   exact cell_hY e⟩
  have hOH' := hOH
  clear h1 hr0 h2 hz hrr hOH eg27
  obtain ⟨s2, b2⟩ := rr
  cases b2 with
  | false =>
   simp only [Bool.false_eq_true, if_false, Option.some.injEq, Prod.mk.injEq] at h
   obtain ⟨rfl, rfl⟩ := h
   go_enter Try.func9, Try.ntmps9
   go_wp2_with (first | (go_at_call 25; rw [← hOH']; refine (HA.out _).mono ?_; rintro e w1 ⟨rfl, hb1⟩; have HB1 := aM hb1; have hcH := HCH1.out w1 hb1; have hcH3 := fun o1 o2 => Lib.cell?_alloc_some (W := w1.alloc o1) o2 (Lib.cell?_alloc_some o1 hcH); clear hb1) | (go_at_call 26; refine (HCH.out _ HB1.out).mono ?_; rintro e w3 ⟨rfl, hc3, hb3⟩; have HO3 := aM hb3; clear hb3))
   go_ret2
   exact ⟨_, rfl, Kd.S_nil _ _ _ _ _, HO3.out⟩
  | true =>
   simp only [if_true, Option.some.injEq, Prod.mk.injEq] at h
   obtain ⟨rfl, rfl⟩ := h
   go_enter Try.func9, Try.ntmps9
   go_wp2_with (first | (go_at_call 25; rw [← hOH']; refine (HA.out _).mono ?_; rintro e w1 ⟨rfl, hb1⟩; have HB1 := aM hb1; have hcH := HCH1.out w1 hb1; have hcH3 := fun o1 o2 => Lib.cell?_alloc_some (W := w1.alloc o1) o2 (Lib.cell?_alloc_some o1 hcH); clear hb1) | (go_at_call 26; refine (HCH.out _ HB1.out).mono ?_; rintro e w3 ⟨rfl, hc3, hb3⟩; obtain ⟨vo, hvo, hs3⟩ := hc3 (by first | rfl | trivial); obtain ⟨Ao, co, rfl⟩ := Kd.S_slice hs3; have hco := cell_hY hvo; have HO3 := aM (And.intro hs3 hb3); clear hc3 hs3 hb3 hvo))
   go_ret2
   exact ⟨_, rfl, HO3.out.1, HO3.out.2⟩

end Go.Proofs.Ytdklmjpimgeejaa.P
