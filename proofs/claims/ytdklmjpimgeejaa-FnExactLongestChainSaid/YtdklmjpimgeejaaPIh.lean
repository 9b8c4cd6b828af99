-- Printed by a program of this session (wip/myprint.py, which drives the kit's print): what one function of the program does, and the proof that its call does so.
import Derived.Lib.SliceRun
import Derived.WalkSpells
import Derived.Test.YtdklmjpimgeejaaP0
import Derived.Test.YtdklmjpimgeejaaPId
import Derived.Test.YtdklmjpimgeejaaPIg
import Derived.Test.YtdklmjpimgeejaaPIy
namespace Go.Proofs.Ytdklmjpimgeejaa.P
open Go.RowKit Go.Proofs.YtdklmjpimgeejaaW.PrintWords Go.Proofs.YtdklmjpimgeejaaW.PrintLast Go.Proofs.YtdklmjpimgeejaaW.PrintMore
attribute [local go_sem] max2_int min2_int max_two min_two max_three min_three max_four min_four   -- for this text's walks alone
set_option linter.unusedVariables false
set_option linter.unusedSimpArgs false

/-! ### impl_chains: function 26: written by hand -/
@[go_sem] theorem run_store_funcY (P : Program) (w : World) (a : Addr) (m : Mode) (f : Fn) (x y : Array Value) : (store a (.func f x y) m).run P w = stored P w a (.func f x y) m := run_store P w a _ m rfl
theorem ChgY.belowB {Y : Nat → Option Obj → Prop} {W W' : World} {base : Nat} (h : ChgY Y W W') (hY : ∀ k o, k < base → ¬ Y k o) (hb : base ≤ W.heap.size) : Below base W W' :=
 ⟨h.1, h.2.1, h.2.2.1, h.2.2.2.1, fun k hk => h.2.2.2.2 k (Nat.lt_of_lt_of_le hk hb) (hY k _ hk)⟩
theorem alloc2_at (W : World) (OE OA : Obj) : ((W.alloc OE).alloc OA).heap[W.heap.size]? = some OE ∧ ((W.alloc OE).alloc OA).heap[W.heap.size + 1]? = some OA ∧ ((W.alloc OE).alloc OA).heap.size = W.heap.size + 2 := by
 have hs : (W.alloc OE).heap.size = W.heap.size + 1 := by simp
 refine ⟨(((Below.refl (W.alloc OE).heap.size (W.alloc OE)).alloc (Nat.le_refl _) OA).block W.heap.size (by rw [hs]; omega)).trans (heap_alloc_new W OE), ?_, by simp⟩
 have := heap_alloc_new (W.alloc OE) OA
 rw [hs] at this
 exact this
/-- All chains of tiles, from these numbers on, till one says no. -/
def allB {σ : Type} (g : List Int → σ → σ × Bool) (l : List S45) (ns : List Int) (s : σ) : σ × Bool := seqB (fun (n : Int) s => chB g (l.length + 1) [n] l s) ns s
theorem seqB_true {ι σ : Type} {f : ι → σ → σ × Bool} (hf : ∀ n s, (f n s).2 = true) : ∀ l s, (seqB f l s).2 = true
 | [], s => rfl
 | n :: l, s => by
  simp only [seqB]
  rw [if_pos (hf n s)]
  exact seqB_true hf l _
theorem chB_true {σ : Type} {g : List Int → σ → σ × Bool} (hg : ∀ ch s, (g ch s).2 = true) : ∀ m chain left s, (chB g m chain left s).2 = true
 | 0, _, _, s => rfl
 | m + 1, chain, left, s => by
  simp only [chB]
  rw [if_neg (fun h => by rw [hg] at h; exact absurd h.2 (by decide))]
  refine seqB_true (fun n s => ?_) _ _
  split
  ·exact chB_true hg m _ _ s
  ·rfl
theorem allB_true {σ : Type} {g : List Int → σ → σ × Bool} (hg : ∀ ch s, (g ch s).2 = true) (l : List S45) (ns : List Int) (s : σ) : (allB g l ns s).2 = true :=
 seqB_true (fun n s => chB_true hg _ _ _ _) _ _
set_option maxHeartbeats 8000000 in
set_option maxRecDepth 100000 in
theorem impl_chains.gcalls {σ : Type} (Y : Nat → Option Obj → Prop) (P : σ → World → Prop) (fe : Nat) (caps : Array Value) (g : List Int → σ → σ × Bool) (k : Nat) (l : List S45) (ns : List Int) (A0 : Option Addr) (c0 : Nat) (s : σ) (W : World) (hN : l.length ≤ 100) (hns : impl_numbers.f k l = some ns) (hnl : ns.length ≤ 100) (hc0 : l.length ≤ c0)
  (eg : ∀ args w, (callFunc fe args).run Try.prog w = .ok (.enter fe args) w)
  (hYI : ∀ b cur fr, W.heap.size ≤ b → ¬ Y b (some (.cells cur 3 fr))) (hYT : ∀ b cur fr, W.heap.size ≤ b → ¬ Y b (some (.cells cur 45 fr)))
  (hYF : ∀ b v, W.heap.size ≤ b → ¬ Y b (some (.cells #[v] 49 (0, 0))) ∧ ¬ Y b (some (.cells #[v] 53 (0, 0))))
  (hP : ∀ s W W', P s W → Below W.heap.size W W' → P s W') (hPs : P s W) (hT : ∀ W', ChgY Y W W' → Kd.C k45 W' A0 l.length l)
  (HEACH : ∀ (s : σ) (chain : List Int) (W0 W1 : World) (A : Option Addr) (c : Nat), P s W0 → W.heap.size ≤ W0.heap.size → Below W0.heap.size W0 W1 → Kd.R (Kd.int .i64) 3 W1 W0.heap.size (fun _ => True) (.slice A chain.length c) chain → 2 ≤ chain.length → chain.length ≤ l.length + 1 →
   Calls Try.prog fe (#[.slice A chain.length c] ++ caps) W1 fun e W' => e = .returned (.bool (g chain s).2) ∧ ((g chain s).2 = true → P (g chain s).1 W') ∧ ChgY Y W1 W') :
  Calls Try.prog 26 #[.slice A0 l.length c0, .func (.func fe) #[] caps] W fun e W' => e = .returned (.bool (allB g l ns s).2) ∧ ((allB g l ns s).2 = true → P (allB g l ns s).1 W') ∧ ChgY Y W W' := by
 have eg35 : ∀ args w, (callFunc 35 args).run Try.prog w = .ok (.enter 35 args) w := enters_of Try.func35 (by kernel_rfl) rfl
 have hmf : ∀ (fn : Fn) (first cap : Array Value) (w : World), (Instr.makeFunc fn first cap).run Try.prog w = .ok (.func fn first cap) w := fun _ _ _ _ => rfl
 have HNUM : Aside0 (∀ w, ChgY Y W w → Calls Try.prog 41 #[.slice A0 l.length c0] w fun e w' => ∃ v0_ : Value, e = .returned v0_ ∧ Kd.R (Kd.int .i64) 3 w' w.heap.size (fun _ => True) v0_ ns ∧ Below w.heap.size w w') :=
  ⟨fun w hw => impl_numbers.calls k A0 c0 l ns w (hT w hw) hc0 hns⟩
 obtain ⟨r, hr⟩ : ∃ r, r = allB g l ns s := ⟨_, rfl⟩
 rw [← hr]
 unfold allB at hr
 obtain ⟨ff, hff⟩ : ∃ f : Int → σ → σ × Bool, f = fun (n : Int) s => chB g (l.length + 1) [n] l s := ⟨_, rfl⟩
 rw [← hff] at hr
 obtain ⟨OE, hOE⟩ : ∃ o : Obj, o = .cells #[.func (.func fe) #[] caps] 49 (0, 0) := ⟨_, rfl⟩
 obtain ⟨OA, hOA⟩ : ∃ o : Obj, o = .cells #[.func (.func 35) #[] #[.pointer (some ⟨W.heap.size, 0, none⟩), .pointer (some ⟨W.heap.size + 1, 0, none⟩)]] 53 (0, 0) := ⟨_, rfl⟩
 have hW2 : Below W.heap.size W ((W.alloc OE).alloc OA) := ((Below.refl W.heap.size W).alloc (Nat.le_refl _) _).alloc (by simp) _
 have HST : Aside0 (∀ w1, Below ((W.alloc OE).alloc OA).heap.size ((W.alloc OE).alloc OA) w1 → ChgY Y W w1 ∧ P s w1 ∧ w1.heap[W.heap.size]? = some OE ∧ w1.heap[W.heap.size + 1]? = some OA) := ⟨fun w1 hb => by
  have h1 := below_then hW2 hW2.size hb
  obtain ⟨g1, g2, g3⟩ := alloc2_at W OE OA
  exact ⟨ChgY.of_below h1, hP _ _ _ hPs h1, (hb.block W.heap.size (by rw [g3]; omega)).trans g1, (hb.block (W.heap.size + 1) (by rw [g3]; omega)).trans g2⟩⟩
 have HYE : Aside0 (∀ w1 W', w1.heap[W.heap.size]? = some OE → ChgY Y w1 W' → W'.heap[W.heap.size]? = some OE) := ⟨fun w1 W' h hW => (hW.2.2.2.2 _ (lt_heapY h) (by rw [h, hOE]; exact (hYF _ _ (Nat.le_refl _)).1)).trans h⟩
 have HYA : Aside0 (∀ w1 W', w1.heap[W.heap.size + 1]? = some OA → ChgY Y w1 W' → W'.heap[W.heap.size + 1]? = some OA) := ⟨fun w1 W' h hW => (hW.2.2.2.2 _ (lt_heapY h) (by rw [h, hOA]; exact (hYF _ _ (Nat.le_succ _)).2)).trans h⟩
 have HCELLA : Aside0 (∀ W' : World, W'.heap[W.heap.size + 1]? = some OA → W'.cell? ⟨W.heap.size + 1, 0, none⟩ = some (.func (.func 35) #[] #[.pointer (some ⟨W.heap.size, 0, none⟩), .pointer (some ⟨W.heap.size + 1, 0, none⟩)])) := ⟨fun W' h => by rw [hOA] at h; exact cell_hY h⟩
 have HREC : Aside0 (∀ (x : Int) (sl : σ) (wr : World), ChgY Y W wr → P sl wr → wr.heap[W.heap.size]? = some OE → wr.heap[W.heap.size + 1]? = some OA → Calls Try.prog 35 #[.slice (some ⟨wr.heap.size, 0, none⟩) 1 1, .slice A0 l.length c0, .pointer (some ⟨W.heap.size, 0, none⟩), .pointer (some ⟨W.heap.size + 1, 0, none⟩)] (wr.alloc (.cells #[.int .i64 x] 3)) fun e W' => e = .returned (.bool (ff x sl).2) ∧ ((ff x sl).2 = true → P (ff x sl).1 W') ∧ ChgY Y (wr.alloc (.cells #[.int .i64 x] 3)) W') := ⟨fun x sl wr hG hPl hE hA => by
  have hb1 := (Below.refl wr.heap.size wr).alloc (Nat.le_refl _) (.cells #[.int .i64 x] 3)
  have hrow : Kd.R (Kd.int .i64) 3 (wr.alloc (.cells #[.int .i64 x] 3)) wr.heap.size (fun _ => True) (.slice (some ⟨wr.heap.size, 0, none⟩) 1 1) [x] := by
   have h1 : rowI (wr.alloc (.cells #[.int .i64 x] 3)) wr.heap.size 1 [x] := ⟨_, heap_alloc_new _ _, rfl, Nat.le_refl _, fun i y hy => by
    match i, hy with
    | 0, hy => cases hy; rfl⟩
   exact R_of_rowI h1 (Nat.le_refl _) trivial (by simp [maxLen])
  rw [hff]
  rw [hOE] at hE
  rw [hOA] at hA
  exact impl_chains_1.gcalls Y P fe caps g W.heap.size (W.heap.size + 1) W.heap.size l.length _ _ hN eg hYI hYT (hYF _ _ (Nat.le_refl _)).1 (hYF _ _ (Nat.le_succ _)).2 hP HEACH (l.length + 1) l [x] sl wr _ _ _ _ _ (Nat.lt_succ_self _) (by simp) (by simp; omega) hG.2.2.2.1 hPl hb1 hrow hc0 (fun W' hW' => hT W' (hG.trans ((ChgY.of_below hb1).trans hW'))) ((hb1.block _ (lt_heapY hE)).trans hE) ((hb1.block _ (lt_heapY hA)).trans hA)⟩
 have HYI := aM hYI
 have HR := aM hr
 have HOO := aM (And.intro hOE hOA)
 have hOE' := hOE
 have hOA' := hOA
 clear hT hPs hP HEACH hYI hYT hYF hns hW2 hr hff hOE hOA eg
 go_enter Try.func26, Try.ntmps26
 go_wp2_with (go_at_call 41; rw [← hOE', ← hOA']; refine (HNUM.out _ (ChgY.of_below (((Below.refl W.heap.size W).alloc (Nat.le_refl _) _).alloc (by simp) _))).mono ?_; rintro e w1 ⟨v1, rfl, ho1, hb1⟩; obtain ⟨A1, c1, rfl, hc1, hKI⟩ := keepI (Y := Y) (base0 := W.heap.size) ho1 (by simp; omega) HYI.out; have HKI := aM hKI; have HS1 := aM (HST.out w1 hb1); clear ho1 hb1 hKI)
 go_loopg [12] ns.length (fun gg s12 wx => ∃ (i : Nat) (sl : σ), s12 = .int .i64 i ∧ i ≤ ns.length ∧ ns.length - i ≤ gg ∧ Aside0 (P sl wx) ∧ Aside0 (ChgY Y w1 wx) ∧ Aside0 (r = seqB ff (ns.drop i) sl))
 case atStart => exact ⟨0, s, rfl, Nat.zero_le _, by omega, ⟨HS1.out.2.1⟩, ⟨ChgY.refl _ _⟩, HR⟩
 case round =>
  obtain ⟨i, sl, rfl, hi, hgg, HPL, HG, HQ⟩ := hrel
  by_cases hlt : i < ns.length
  ·have hltz : (i : Int) < (ns.length : Int) := by omega
   obtain ⟨x, hx⟩ : ∃ x, ns[i]? = some x := ⟨_, List.getElem?_eq_getElem hlt⟩
   have hq := HQ.out
   rw [List.drop_eq_getElem_cons hlt, seqB, show ns[i] = x from by rw [List.getElem?_eq_getElem hlt] at hx; exact Option.some.inj hx] at hq
   obtain ⟨adc, hAc, hcell⟩ := C_cellY (HKI.out wr HG.out) i x hx
   subst hAc
   have hbl1 := World.block_lt_of_cell? _ _ hcell
   have hEr := HYE.out _ _ HS1.out.2.2.1 HG.out
   have hAr := HYA.out _ _ HS1.out.2.2.2 HG.out
   have hcA := HCELLA.out _ hAr
   have hbl2 := World.block_lt_of_cell? _ _ hcA
   have HCALL := aM (HREC.out x sl wr (HS1.out.1.trans HG.out) HPL.out hEr hAr)
   have hi100 : i ≤ 100 := by omega
   obtain ⟨cr, hcr⟩ : ∃ y, y = ff x sl := ⟨_, rfl⟩
   rw [← hcr] at hq HCALL
   have HA1 := aM (ChgY.of_below (Y := Y) ((Below.refl wr.heap.size wr).alloc (Nat.le_refl _) (.cells #[.int .i64 x] 3)))
   obtain ⟨s2, b2⟩ := cr
   clear hx hEr hAr hcr HQ
   cases b2 with
   | false =>
    rw [if_neg (by simp)] at hq
    subst hq
    go_wp2_with (go_at_fn 35; refine HCALL.out.mono ?_; rintro e w3 ⟨rfl, hp3, hg3⟩)
    go_ret
    first | exact ⟨rfl, HS1.out.1.trans (HG.out.trans (HA1.out.trans hg3))⟩ | exact ⟨rfl, fun e => absurd e (by simp), HS1.out.1.trans (HG.out.trans (HA1.out.trans hg3))⟩
   | true =>
    rw [if_pos rfl] at hq
    have HQ2 := aM hq
    clear hq
    go_wp2_with (go_at_fn 35; refine HCALL.out.mono ?_; rintro e w3 ⟨rfl, hp3, hg3⟩; have HP3 := aM (show P _ _ from by first | exact hp3 rfl | exact hp3 trivial); have HG3 := aM hg3; clear hp3 hg3)
    go_roundg (ns.length - (i + 1))
    case measure => omega
    case rel => exact ⟨i + 1, s2, by go_num, by omega, Nat.le_refl _, HP3, ⟨HG.out.trans (HA1.out.trans HG3.out)⟩, HQ2⟩
  ·obtain rfl : i = ns.length := by omega
   have hltz : ¬ (ns.length : Int) < (ns.length : Int) := by omega
   have hq := HQ.out
   rw [List.drop_of_length_le (Nat.le_refl _), seqB] at hq
   subst hq
   go_wp2
   go_ret
   first | exact ⟨rfl, HPL.out, HS1.out.1.trans HG.out⟩ | exact ⟨rfl, fun _ => HPL.out, HS1.out.1.trans HG.out⟩

end Go.Proofs.Ytdklmjpimgeejaa.P
