-- Printed by a program of this session (wip/myprint.py, which drives the kit's print): what one function of the program does, and the proof that its call does so.
import Derived.BigQuiet
import Derived.BigRegion
import Derived.ChangeKeysEq
import Derived.Deep.Cut
import Derived.Deep.RegionHeld3
import Derived.Deep.RegionLaw
import Derived.Deep.RegionWith
import Derived.Lib.SliceRun
import Derived.RegionTactic
import Derived.WalkSpells
import Derived.Test.YtdklmjpimgeejaaP0
import Derived.Test.YtdklmjpimgeejaaPIb
import Derived.Test.YtdklmjpimgeejaaPIc
import Derived.Test.YtdklmjpimgeejaaPIy
namespace Go.Proofs.Ytdklmjpimgeejaa.P
open Go.RowKit Go.Proofs.YtdklmjpimgeejaaW.PrintWords Go.Proofs.YtdklmjpimgeejaaW.PrintLast Go.Proofs.YtdklmjpimgeejaaW.PrintMore
attribute [local go_sem] max2_int min2_int max_two min_two max_three min_three max_four min_four   -- for this text's walks alone
set_option linter.unusedVariables false
set_option linter.unusedSimpArgs false
abbrev bIg_0 : Array Bool := #[false, false, false, false, false, false, false, false, false, false, false, false, false, false, false, false, false, false]
abbrev bIg_1 : Array Bool := #[true, false, false, false, false, false, false, false, false, false, false, false, false, false, false, false, false, false]
abbrev bIg_2 : Array Bool := #[true, true, false, false, false, false, false, false, false, false, false, false, false, false, false, false, false, false]
abbrev bIg_3 : Array Bool := #[true, true, true, false, false, false, false, false, false, false, false, false, false, false, false, false, false, false]
abbrev bIg_4 : Array Bool := #[true, true, true, true, false, false, false, false, false, false, false, false, false, false, false, false, false, false]
abbrev bIg_5 : Array Bool := #[true, true, true, true, true, false, false, false, false, false, false, false, false, false, false, false, false, false]
abbrev bIg_6 : Array Bool := #[true, true, true, true, true, true, false, false, false, false, false, false, false, false, false, false, false, false]
abbrev bIg_7 : Array Bool := #[true, true, true, true, true, true, true, false, false, false, false, false, false, false, false, false, false, false]
abbrev bIg_8 : Array Bool := #[true, true, true, true, true, true, true, true, false, false, false, false, false, false, false, false, false, false]
abbrev bIg_9 : Array Bool := #[true, true, true, true, true, true, true, true, true, false, false, false, false, false, false, false, false, false]
abbrev bIg_10 : Array Bool := #[true, true, true, true, true, true, true, true, true, true, false, false, false, false, false, false, false, false]
abbrev bIg_11 : Array Bool := #[true, true, true, true, true, true, true, true, true, true, true, false, false, false, false, false, false, false]
abbrev bIg_12 : Array Bool := #[true, true, true, true, true, true, true, true, true, true, true, true, false, false, false, false, false, false]
abbrev bIg_13 : Array Bool := #[true, true, true, true, true, true, true, true, true, true, true, true, true, false, false, false, false, false]
abbrev bIg_14 : Array Bool := #[true, true, true, true, true, true, true, true, true, true, true, true, true, true, false, false, false, false]
abbrev bIg_15 : Array Bool := #[true, true, true, true, true, true, true, true, true, true, true, true, true, true, true, false, false, false]
abbrev bIg_16 : Array Bool := #[true, true, true, true, true, true, true, true, true, true, true, true, true, true, true, true, false, false]
abbrev bIg_17 : Array Bool := #[true, true, true, true, true, true, true, true, true, true, true, true, true, true, true, true, true, false]
abbrev bIg_18 : Array Bool := #[true, true, true, true, true, true, true, true, true, true, true, true, true, true, true, true, true, true]
abbrev bIg_19 : Array Bool := #[true, true, true, false, true, false, false, false, false, false, false, false, false, false, false, false, false, false]
abbrev bIg_20 : Array Bool := #[true, true, true, false, true, false, true, false, false, false, false, false, false, false, false, false, false, false]
abbrev bIg_21 : Array Bool := #[true, true, true, false, true, false, true, false, false, true, false, false, false, false, false, false, false, false]
abbrev bIg_22 : Array Bool := #[true, true, true, false, true, false, true, false, false, true, false, true, false, false, false, false, false, false]
abbrev bIg_23 : Array Bool := #[true, true, true, false, true, false, true, false, false, true, false, true, true, false, false, false, false, false]
abbrev bIg_24 : Array Bool := #[true, true, true, false, true, false, true, false, false, true, false, true, true, true, false, false, false, false]
abbrev bIg_25 : Array Bool := #[true, true, true, true, true, false, true, false, false, true, false, true, true, true, false, false, false, false]
abbrev bIg_26 : Array Bool := #[true, true, true, true, true, true, true, true, false, true, false, true, true, true, false, false, false, false]
abbrev bIg_27 : Array Bool := #[true, true, true, true, true, true, true, false, false, true, false, true, true, true, false, false, false, false]
abbrev bIg_28 : Array Bool := #[true, true, true, true, true, false, true, true, false, true, false, true, true, true, false, false, false, false]
abbrev bIg_29 : Array Bool := #[true, true, true, true, true, true, true, true, true, true, false, true, true, true, false, false, false, false]

/-! ### impl_chains_1: function 35: written by hand -/
def fwTile (a b : Int) : S45 := ⟨mn a b, mx a b⟩
theorem erase_first : ∀ (l : List S45) (i : Nat) (t : S45), l[i]? = some t → (∀ j, j < i → ∀ x, l[j]? = some x → x ≠ t) → l.eraseIdx i = l.erase t
 | [], i, t, h, _ => by simp at h
 | x :: l, 0, t, h, _ => by
  obtain rfl : x = t := by simpa using h
  rw [List.erase_cons_head]; rfl
 | x :: l, i + 1, t, h, hb => by
  have hx : x ≠ t := hb 0 (by omega) x rfl
  rw [List.erase_cons_tail (by simpa using hx), List.eraseIdx_cons_succ, erase_first l i t (by simpa using h) (fun j hj y hy => hb (j + 1) (by omega) y (by simpa using hy))]
theorem idx_loop (l : List S45) (hl : l.length ≤ 1000) (t : S45) : ∀ (d i k : Nat), i + d = l.length → d + 1 ≤ k → (∀ j, j < i → ∀ x, l[j]? = some x → x ≠ t) → ∃ r : Int, slices_Index_Tile.l0 k l (l.length : Int) (i : Int) t.f0 t.f1 = some r ∧ ((r = -1 ∧ t ∉ l) ∨ ∃ m : Nat, r = m ∧ m < l.length ∧ t ∈ l ∧ l.eraseIdx m = l.erase t) := by
 intro d
 induction d with
 | zero =>
  intro i k hi hk hb
  obtain ⟨k, rfl⟩ : ∃ m, k = m + 1 := ⟨k - 1, by omega⟩
  refine ⟨-1, by simp only [slices_Index_Tile.l0]; rw [if_neg (by omega)], .inl ⟨rfl, fun hm => ?_⟩⟩
  obtain ⟨j, hj⟩ := List.getElem?_of_mem hm
  have := (List.getElem?_eq_some_iff.1 hj).1
  exact hb j (by omega) t hj rfl
 | succ d ih =>
  intro i k hi hk hb
  obtain ⟨k, rfl⟩ : ∃ m, k = m + 1 := ⟨k - 1, by omega⟩
  obtain ⟨x, hx⟩ : ∃ x, l[i]? = some x := ⟨_, List.getElem?_eq_getElem (by omega)⟩
  have hrd : rd_T45 l (i : Int) = x := by
   show l.getD (i : Int).toNat _ = x
   rw [Int.toNat_natCast, List.getD_eq_getElem?_getD, hx]; rfl
  have hw : wrap64 ((i : Int) + 1) = ((i + 1 : Nat) : Int) := by unfold wrap64; omega
  by_cases c : t = x
  ·subst c
   refine ⟨(i : Int), ?_, .inr ⟨i, rfl, by omega, List.mem_of_getElem? hx, erase_first l i t hx hb⟩⟩
   simp only [slices_Index_Tile.l0]
   rw [if_pos (by omega), if_pos (by omega), if_pos (by omega), hrd, if_pos (by simp)]
  ·obtain ⟨r, h1, h2⟩ := ih (i + 1) k (by omega) (by omega) (fun j hj y hy => by
    by_cases e : j = i
    ·subst e; rw [hx] at hy; cases hy; exact fun e => c e.symm
    ·exact hb j (by omega) y hy)
   refine ⟨r, ?_, h2⟩
   simp only [slices_Index_Tile.l0]
   rw [if_pos (by omega), if_pos (by omega), if_pos (by omega), hrd, if_neg (fun e => c (by rw [Bool.and_eq_true, beq_iff_eq, beq_iff_eq] at e; cases t; cases x; simp only at e; rw [e.1, e.2])), hw]
   exact h1
theorem idxT (l : List S45) (hl : l.length ≤ 1000) (t : S45) : ∃ r : Int, slices_Index_Tile.f 2000 l t.f0 t.f1 = some r ∧ ((r = -1 ∧ t ∉ l) ∨ ∃ m : Nat, r = m ∧ m < l.length ∧ t ∈ l ∧ l.eraseIdx m = l.erase t) :=
 idx_loop l hl t l.length 0 2000 (by omega) (by omega) (fun j hj => absurd hj (Nat.not_lt_zero _))
theorem keepI {Y : Nat → Option Obj → Prop} {W : World} {base base0 : Nat} {v : Value} {l : List Int} (h : Kd.R (Kd.int .i64) 3 W base (fun _ => True) v l) (hb : base0 ≤ base) (hY : ∀ k cur fr, base0 ≤ k → ¬ Y k (some (.cells cur 3 fr))) : ∃ A c, v = .slice A l.length c ∧ l.length ≤ c ∧ ∀ W', ChgY Y W W' → Kd.C (Kd.int .i64) W' A l.length l := by
 have hrd := Kd.R_reads h
 rcases rowI_of_R h with ⟨rfl, rfl⟩ | ⟨g, cap, rfl, hg, hok, hlc, hcap, hrow⟩
 ·exact ⟨none, 0, rfl, Nat.le_refl _, fun W' _ => (Kd.R_reads' (Kd.R_nil (Kd.int .i64) 3 W' base (fun _ => True))).2.2⟩
 ·refine ⟨_, cap, rfl, hlc, fun W' hW => ?_⟩
  obtain ⟨cur, h1, h2⟩ := hrow
  have h3 := (hW.2.2.2.2 g (lt_heapY h1) (by rw [h1]; exact hY g cur _ (Nat.le_trans hb hg))).trans h1
  exact (Kd.R_reads' (R_of_rowI (ok := fun _ => True) (base := base) ⟨cur, h3, h2⟩ hg trivial hcap)).2.2
theorem keepT {Y : Nat → Option Obj → Prop} {W : World} {base base0 : Nat} {v : Value} {l : List S45} (h : Kd.R k45 45 W base (fun _ => True) v l) (hb : base0 ≤ base) (hY : ∀ k cur fr, base0 ≤ k → ¬ Y k (some (.cells cur 45 fr))) : ∃ A c, v = .slice A l.length c ∧ l.length ≤ c ∧ ∀ W', ChgY Y W W' → Kd.C k45 W' A l.length l := by
 have hrd := Kd.R_reads h
 rcases rowIs_of_R h with ⟨rfl, rfl⟩ | ⟨g, cap, rfl, hg, hok, hlc, hcap, hrow⟩
 ·exact ⟨none, 0, rfl, Nat.le_refl _, fun W' _ => (Kd.R_reads' (Kd.R_nil k45 45 W' base (fun _ => True))).2.2⟩
 ·refine ⟨_, cap, rfl, hlc, fun W' hW => ?_⟩
  obtain ⟨cur, h1, h2⟩ := hrow
  have h3 := (hW.2.2.2.2 g (lt_heapY h1) (by rw [h1]; exact hY g cur _ (Nat.le_trans hb hg))).trans h1
  exact (Kd.R_reads' (R_of_rowIs (ok := fun _ => True) (base := base) ⟨cur, h3, h2⟩ hg trivial hcap)).2.2
theorem C_cellY {W : World} {A : Option Addr} {l : List Int} (h : Kd.C (Kd.int .i64) W A l.length l) (i : Nat) (x : Int) (hx : l[i]? = some x) : ∃ ad, A = some ad ∧ W.cell? (ad.add i) = some (.int .i64 x) := by
 have hlt := (List.getElem?_eq_some_iff.1 hx).1
 obtain ⟨ad, c, e, hs, hK, hc⟩ := ReadsRow.get_ h (0 : Int) (i : Int) (by omega) (by omega)
 have h2 := hc 0 (.int .i64 (l.getD (i : Int).toNat 0)) (by rw [show c = [.int .i64 (l.getD (i : Int).toNat 0)] from hK]; rfl)
 have e2 : l.getD (i : Int).toNat 0 = x := by rw [Int.toNat_natCast, List.getD_eq_getElem?_getD, hx]; rfl
 rw [e2] at h2
 exact ⟨ad, e, by simpa [show (Kd.int .i64).sz = 1 from rfl] using h2⟩
theorem range_drop (n : Nat) (h : n < 10) : (List.range 10).drop n = n :: (List.range 10).drop (n + 1) := by
 rw [List.drop_eq_getElem_cons (by simpa using h)]
 simp
theorem cell_hY {W : World} {b : Nat} {v : Value} {T : TypeId} (h : W.heap[b]? = some (.cells #[v] T (0, 0))) : W.cell? ⟨b, 0, none⟩ = some v := by
 simp only [World.cell?, h]; rfl
/-- One after the other, till one says no. -/
def seqB {ι σ : Type} (f : ι → σ → σ × Bool) : List ι → σ → σ × Bool
 | [], s => (s, true)
 | n :: l, s => if (f n s).2 = true then seqB f l (f n s).1 else ((f n s).1, false)
/-- All chains that begin so, in order, till one says no. -/
def chB {σ : Type} (g : List Int → σ → σ × Bool) : Nat → List Int → List S45 → σ → σ × Bool
 | 0, _, _, s => (s, true)
 | m + 1, chain, left, s =>
  if chain.length > 1 ∧ (g chain s).2 = false then ((g chain s).1, false) else
   seqB (fun (n : Nat) s => if fwTile (chain.getLast?.getD 0) (n : Int) ∈ left then chB g m (chain ++ [(n : Int)]) (left.erase (fwTile (chain.getLast?.getD 0) (n : Int))) s else (s, true)) (List.range 10) (if chain.length > 1 then (g chain s).1 else s)
set_option maxHeartbeats 8000000 in
set_option maxRecDepth 100000 in
theorem impl_chains_1.gcalls {σ : Type} (Y : Nat → Option Obj → Prop) (P : σ → World → Prop) (fe : Nat) (caps : Array Value) (g : List Int → σ → σ × Bool) (bE bA base0 N : Nat) (tE tA : TypeId) (hN : N ≤ 100)
  (eg : ∀ args w, (callFunc fe args).run Try.prog w = .ok (.enter fe args) w)
  (hYI : ∀ b cur fr, base0 ≤ b → ¬ Y b (some (.cells cur 3 fr))) (hYT : ∀ b cur fr, base0 ≤ b → ¬ Y b (some (.cells cur 45 fr)))
  (hYE : ¬ Y bE (some (.cells #[.func (.func fe) #[] caps] tE (0, 0)))) (hYA : ¬ Y bA (some (.cells #[.func (.func 35) #[] #[.pointer (some ⟨bE, 0, none⟩), .pointer (some ⟨bA, 0, none⟩)]] tA (0, 0))))
  (hP : ∀ s W W', P s W → Below W.heap.size W W' → P s W')
  (HEACH : ∀ (s : σ) (chain : List Int) (W0 W : World) (A : Option Addr) (c : Nat), P s W0 → base0 ≤ W0.heap.size → Below W0.heap.size W0 W → Kd.R (Kd.int .i64) 3 W W0.heap.size (fun _ => True) (.slice A chain.length c) chain → 2 ≤ chain.length → chain.length ≤ N + 1 →
   Calls Try.prog fe (#[.slice A chain.length c] ++ caps) W fun e W' => e = .returned (.bool (g chain s).2) ∧ ((g chain s).2 = true → P (g chain s).1 W') ∧ ChgY Y W W') :
  ∀ (m : Nat) (left : List S45) (chain : List Int) (s : σ) (W0 W : World) (Ac : Option Addr) (cc : Nat) (Al : Option Addr) (cl : Nat), left.length < m → chain ≠ [] → chain.length + left.length ≤ N + 1 → base0 ≤ W0.heap.size → P s W0 → Below W0.heap.size W0 W →
   Kd.R (Kd.int .i64) 3 W W0.heap.size (fun _ => True) (.slice Ac chain.length cc) chain → left.length ≤ cl → (∀ W', ChgY Y W W' → Kd.C k45 W' Al left.length left) →
   W.heap[bE]? = some (.cells #[.func (.func fe) #[] caps] tE (0, 0)) → W.heap[bA]? = some (.cells #[.func (.func 35) #[] #[.pointer (some ⟨bE, 0, none⟩), .pointer (some ⟨bA, 0, none⟩)]] tA (0, 0)) →
   Calls Try.prog 35 #[.slice Ac chain.length cc, .slice Al left.length cl, .pointer (some ⟨bE, 0, none⟩), .pointer (some ⟨bA, 0, none⟩)] W fun e W' => e = .returned (.bool (chB g m chain left s).2) ∧ ((chB g m chain left s).2 = true → P (chB g m chain left s).1 W') ∧ ChgY Y W W' := by
 have eg35 : ∀ args w, (callFunc 35 args).run Try.prog w = .ok (.enter 35 args) w := enters_of Try.func35 (by kernel_rfl) rfl
 intro m
 induction m with
 | zero => intro left chain s W0 W Ac cc Al cl h; exact absurd h (Nat.not_lt_zero _)
 | succ m ih =>
  intro left chain s W0 W Ac cc Al cl hm hne hsum hb0 hPs hB hR hcl hT hE hA
  obtain ⟨p, hp⟩ : ∃ p, chain.length = p + 1 := ⟨chain.length - 1, by have := List.length_pos_iff.2 hne; omega⟩
  obtain ⟨la, hla⟩ : ∃ x, chain[p]? = some x := ⟨_, List.getElem?_eq_getElem (by omega)⟩
  have hlast : chain.getLast?.getD 0 = la := by rw [List.getLast?_eq_getElem?, hp, Nat.add_sub_cancel, hla]; rfl
  obtain ⟨A1, c1, e1, hc1, hKI⟩ := keepI (Y := Y) hR hb0 hYI
  cases e1
  obtain ⟨ff, hff⟩ : ∃ f : Nat → σ → σ × Bool, f = fun (n : Nat) s => if fwTile la (n : Int) ∈ left then chB g m (chain ++ [(n : Int)]) (left.erase (fwTile la (n : Int))) s else (s, true) := ⟨_, rfl⟩
  obtain ⟨r, hr⟩ : ∃ r, r = chB g (m + 1) chain left s := ⟨_, rfl⟩
  rw [← hr]
  simp only [chB] at hr
  rw [hlast, ← hff] at hr
  have HFF := aM hff
  have HKI := aM hKI
  have HT := aM hT
  have HEA := aM (And.intro hE hA)
  have HYA := aM (show (∀ W', ChgY Y W W' → W'.cell? ⟨bE, 0, none⟩ = some (.func (.func fe) #[] caps) ∧ W'.heap[bE]? = some (.cells #[.func (.func fe) #[] caps] tE (0, 0))) ∧ (∀ W', ChgY Y W W' → W'.cell? ⟨bA, 0, none⟩ = some (.func (.func 35) #[] #[.pointer (some ⟨bE, 0, none⟩), .pointer (some ⟨bA, 0, none⟩)]) ∧ W'.heap[bA]? = some (.cells #[.func (.func 35) #[] #[.pointer (some ⟨bE, 0, none⟩), .pointer (some ⟨bA, 0, none⟩)]] tA (0, 0))) from
   ⟨fun W' hW => by have e := (hW.2.2.2.2 bE (lt_heapY hE) (by rw [hE]; exact hYE)).trans hE; exact ⟨cell_hY e, e⟩, fun W' hW => by have e := (hW.2.2.2.2 bA (lt_heapY hA) (by rw [hA]; exact hYA)).trans hA; exact ⟨cell_hY e, e⟩⟩)
  have HIH := aM ih
  have HYT := aM hYT
  have HPP := aM hP
  have HSUM := aM (And.intro hsum (And.intro hm (And.intro hc1 (And.intro hcl (And.intro hb0 (And.intro hB.size hN))))))
  have HLA := aM (And.intro hla (And.intro hlast hp))
  have hp900 : p ≤ 900 := by omega
  by_cases h1 : chain.length > 1
  ·have HCALL := aM (HEACH s chain W0 W Ac cc hPs hb0 hB hR (by omega) (by omega))
   have hz1 : (p : Int) + 1 > 1 := by omega
   obtain ⟨gr, hgr⟩ : ∃ x, x = g chain s := ⟨_, rfl⟩
   rw [← hgr] at HCALL hr
   obtain ⟨s1, b1⟩ := gr
   have hcE := (HYA.out.1 W (ChgY.refl _ _)).1
   cases b1 with
   | false =>
    rw [if_pos ⟨h1, rfl⟩] at hr
    subst hr
    rw [hp] at HCALL ⊢
    clear hKI hT hE hA ih hPs hB hb0 hsum hla hlast hff hR HEACH hP hYI hYT hYE hYA hm hgr
    go_enter Try.func35, Try.ntmps35
    go_wp2_with (go_at_fn fe; refine HCALL.out.mono ?_; rintro e w1 ⟨rfl, hp1, hg1⟩)
    go_ret
    exact ⟨rfl, fun e => absurd e (by simp), hg1⟩
   | true =>
    rw [if_neg (by simp), if_pos h1] at hr
    have HR := aM hr
    rw [hp] at HCALL ⊢
    clear hr hKI hT hE hA ih hPs hB hb0 hsum hla hlast hff hR HEACH hP hYI hYT hYE hYA hm hgr
    go_enter Try.func35, Try.ntmps35
    go_wp2_with (go_at_fn fe; refine HCALL.out.mono ?_; rintro e w1 ⟨rfl, hp1, hg1⟩; have HPS := aM (hp1 rfl); have HG0 := aM hg1; clear hp1 hg1)
    go_loopg [18] 10 (fun gg s18 wx => ∃ (n : Nat) (sl : σ), s18 = .int .i64 n ∧ n ≤ 10 ∧ 10 - n ≤ gg ∧ Aside0 (P sl wx) ∧ Aside0 (ChgY Y W wx) ∧ Aside0 (r = seqB ff ((List.range 10).drop n) sl))
    case atStart => exact ⟨0, s1, rfl, Nat.zero_le _, by omega, HPS, HG0, HR⟩
    case round =>
     clear HPS HR HG0
     obtain ⟨n, sl, rfl, hn, hgg, HPL, HG, HQ⟩ := hrel
     by_cases hlt : n < 10
     ·have hltz : (n : Int) < 10 := by omega
      have hq := HQ.out
      rw [range_drop n hlt, seqB] at hq
      obtain ⟨adc, hAc, hcell⟩ := C_cellY (HKI.out wr HG.out) p la HLA.out.1
      subst hAc
      have hbl1 := World.block_lt_of_cell? _ _ hcell
      have HTILE : Aside0 (∀ w, Calls Try.prog 37 #[.int .i64 la, .int .i64 (n : Int)] w fun e w' => e = .returned (.agg #[.int .i64 (mn la n), .int .i64 (mx la n)]) ∧ Below w.heap.size w w') := ⟨fun w => impl_tile.calls la n _ _ w rfl⟩
      obtain ⟨rr, hi1, hi2⟩ := idxT left (by have := HSUM.out.1; have := HSUM.out.2.2.2.2.2.2; omega) (fwTile la n)
      have HIDX : Aside0 (∀ w, Below wr.heap.size wr w → Calls Try.prog 36 #[.slice Al left.length cl, .agg #[.int .i64 (mn la n), .int .i64 (mx la n)]] w fun e w' => e = .returned (.int .i64 rr) ∧ Below w.heap.size w w') :=
       ⟨fun w hb => slices_Index_Tile.calls 2000 Al cl left _ _ rr w (HT.out w (HG.out.trans (ChgY.of_below hb))) HSUM.out.2.2.2.1 hi1⟩
      rcases hi2 with ⟨rfl, hnm⟩ | ⟨mm, rfl, hml, hmem, her⟩
      ·have hfn : ff n sl = (sl, true) := by rw [HFF.out]; exact if_neg hnm
       rw [hfn, if_pos rfl] at hq
       have HQ2 := aM hq
       clear hq hfn HQ hi1 hnm
       go_wp2_with (first | (go_at_call 37; refine (HTILE.out _).mono ?_; rintro e w1_ ⟨rfl, hb1⟩; have HB1 := aM hb1; clear hb1) | (go_at_call 36; refine (HIDX.out _ HB1.out).mono ?_; rintro e w2 ⟨rfl, hb2⟩; have HB2 := aM (below_then HB1.out HB1.out.size hb2); clear hb2))
       have hmz : ¬ (-1 : Int) ≥ 0 := by omega
       refine start_ (n := 18) (S := fun w' => True) (ds := []) bIg_0 (by kernel_rfl) rfl rfl trivial (fun hHeld => ?_)
       refine pure_ (i := 0) (N := some 31) (v := ?_) (a' := ?_) bIg_1 rfl rfl (by kernel_rfl) (fun _ _ _ h => h) (Or.inl ⟨by rfl, ?_⟩) ?_ ?_
       rotate_left
       ·intro w'
        go_simp
        with_reducible rfl
       rotate_left
       ·simp only [sP]
        rfl
       refine pure_ (i := 1) (N := some 32) (v := ?_) (a' := ?_) bIg_2 rfl rfl (by kernel_rfl) (fun _ _ _ h => h) (Or.inl ⟨by rfl, ?_⟩) ?_ ?_
       rotate_left
       ·intro w'
        go_simp
        with_reducible rfl
       rotate_left
       ·simp only [sP]
        rfl
       refine pure_ (i := 2) (N := some 33) (v := ?_) (a' := ?_) bIg_3 rfl rfl (by kernel_rfl) (fun _ _ _ h => h) (Or.inl ⟨by rfl, ?_⟩) ?_ ?_
       rotate_left
       ·intro w'
        go_simp
        with_reducible rfl
       rotate_left
       ·simp only [sP]
        rfl
       refine pure_ (i := 3) (N := some 34) (v := undef) (a' := ?_) bIg_4 rfl rfl (by kernel_rfl) (fun _ _ _ h => h) (Or.inr ⟨by rfl, rfl⟩) ?_ ?_
       rotate_left
       ·simp only [sP]
        rfl
       refine pure_ (i := 4) (N := some 35) (v := undef) (a' := ?_) bIg_5 rfl rfl (by kernel_rfl) (fun _ _ _ h => h) (Or.inr ⟨by rfl, rfl⟩) ?_ ?_
       rotate_left
       ·simp only [sP]
        rfl
       refine pure_ (i := 5) (N := some 36) (v := undef) (a' := ?_) bIg_6 rfl rfl (by kernel_rfl) (fun _ _ _ h => h) (Or.inr ⟨by rfl, rfl⟩) ?_ ?_
       rotate_left
       ·simp only [sP]
        rfl
       refine pure_ (i := 6) (N := some 37) (v := undef) (a' := ?_) bIg_7 rfl rfl (by kernel_rfl) (fun _ _ _ h => h) (Or.inr ⟨by rfl, rfl⟩) ?_ ?_
       rotate_left
       ·simp only [sP]
        rfl
       refine pure_ (i := 7) (N := some 38) (v := undef) (a' := ?_) bIg_8 rfl rfl (by kernel_rfl) (fun _ _ _ h => h) (Or.inr ⟨by rfl, rfl⟩) ?_ ?_
       rotate_left
       ·simp only [sP]
        rfl
       refine pure_ (i := 8) (N := some 39) (v := undef) (a' := ?_) bIg_9 rfl rfl (by kernel_rfl) (fun _ _ _ h => h) (Or.inr ⟨by rfl, rfl⟩) ?_ ?_
       rotate_left
       ·simp only [sP]
        rfl
       refine pure_ (i := 9) (N := some 40) (v := undef) (a' := ?_) bIg_10 rfl rfl (by kernel_rfl) (fun _ _ _ h => h) (Or.inr ⟨by rfl, rfl⟩) ?_ ?_
       rotate_left
       ·simp only [sP]
        rfl
       refine pure_ (i := 10) (N := some 41) (v := undef) (a' := ?_) bIg_11 rfl rfl (by kernel_rfl) (fun _ _ _ h => h) (Or.inr ⟨by rfl, rfl⟩) ?_ ?_
       rotate_left
       ·simp only [sP]
        rfl
       refine pure_ (i := 11) (N := some 42) (v := undef) (a' := ?_) bIg_12 rfl rfl (by kernel_rfl) (fun _ _ _ h => h) (Or.inr ⟨by rfl, rfl⟩) ?_ ?_
       rotate_left
       ·simp only [sP]
        rfl
       refine pure_ (i := 12) (N := some 43) (v := undef) (a' := ?_) bIg_13 rfl rfl (by kernel_rfl) (fun _ _ _ h => h) (Or.inr ⟨by rfl, rfl⟩) ?_ ?_
       rotate_left
       ·simp only [sP]
        rfl
       refine pure_ (i := 13) (N := some 44) (v := undef) (a' := ?_) bIg_14 rfl rfl (by kernel_rfl) (fun _ _ _ h => h) (Or.inr ⟨by rfl, rfl⟩) ?_ ?_
       rotate_left
       ·simp only [sP]
        rfl
       refine pure_ (i := 14) (N := some 45) (v := undef) (a' := ?_) bIg_15 rfl rfl (by kernel_rfl) (fun _ _ _ h => h) (Or.inr ⟨by rfl, rfl⟩) ?_ ?_
       rotate_left
       ·simp only [sP]
        rfl
       refine pure_ (i := 15) (N := some 46) (v := undef) (a' := ?_) bIg_16 rfl rfl (by kernel_rfl) (fun _ _ _ h => h) (Or.inr ⟨by rfl, rfl⟩) ?_ ?_
       rotate_left
       ·simp only [sP]
        rfl
       refine pure_ (i := 16) (N := some 47) (v := undef) (a' := ?_) bIg_17 rfl rfl (by kernel_rfl) (fun _ _ _ h => h) (Or.inr ⟨by rfl, rfl⟩) ?_ ?_
       rotate_left
       ·simp only [sP]
        rfl
       refine pure_ (i := 17) (N := some 48) (v := ?_) (a' := ?_) bIg_18 rfl rfl (by kernel_rfl) (fun _ _ _ h => h) (Or.inl ⟨by rfl, ?_⟩) ?_ ?_
       rotate_left
       ·intro w'
        go_simp
        with_reducible rfl
       rotate_left
       ·simp only [sP]
        rfl
       refine done_ (by kernel_rfl) ?_
       go_wp2
       go_roundg (10 - (n + 1))
       case measure => omega
       case rel => exact ⟨n + 1, sl, by go_num, by omega, Nat.le_refl _, ⟨HPP.out _ _ _ HPL.out (bD HB2.out)⟩, ⟨HG.out.trans (ChgY.of_below (bD HB2.out))⟩, HQ2⟩
      ·have hfn : ff n sl = chB g m (chain ++ [(n : Int)]) (left.erase (fwTile la (n : Int))) sl := by rw [HFF.out]; exact if_pos hmem
       rw [hfn] at hq
       obtain ⟨rs, hrs⟩ : ∃ x, x = left.erase (fwTile la n) := ⟨_, rfl⟩
       rw [← hrs] at hq her
       have hrl : rs.length + 1 = left.length := by rw [hrs, List.length_erase_of_mem hmem]; omega
       obtain ⟨cr, hcr⟩ : ∃ x, x = chB g m (chain ++ [(n : Int)]) rs sl := ⟨_, rfl⟩
       rw [← hcr] at hq
       have HQ2 := aM hq
       have HCR := aM hcr
       have HER := aM (And.intro her (And.intro hrl hml))
       have hmm : mm ≤ 900 := by have := HSUM.out.1; have := HSUM.out.2.2.2.2.2.2; omega
       clear hq hfn HQ hi1 hmem hrs hrl hcr her hml
       cases hb : cr.2 with
       | false =>
        have HBB := aM hb
        clear hb
        go_wp2_with (first | (go_at_call 37; refine (HTILE.out _).mono ?_; rintro e w1_ ⟨rfl, hb1⟩; have HB1 := aM hb1; clear hb1) | (go_at_call 36; refine (HIDX.out _ HB1.out).mono ?_; rintro e w2 ⟨rfl, hb2⟩; have HB2 := aM (below_then HB1.out HB1.out.size hb2); clear hb2))
        have HG2 := aM (HG.out.trans (ChgY.of_below HB2.out))
        have HP2 := aM (HPP.out _ _ _ HPL.out HB2.out)
        have hcA := (HYA.out.2 w2 HG2.out).1
        have HCLC : Aside0 (∀ W, Below w2.heap.size w2 W → Calls Try.prog 38 #[.slice (some adc) (p + 1) cc] W fun e w' => ∃ v0_ : Value, e = .returned (v0_) ∧ Kd.R (Kd.int .i64) 3 w' W.heap.size (fun _ => True) v0_ chain ∧ Below W.heap.size W w') :=
         ⟨fun W hb => by
          have := slices_Clone_int.calls (some adc) cc chain chain W (HKI.out W (HG2.out.trans (ChgY.of_below hb))) HSUM.out.2.2.1 (by unfold slices_Clone_int.f; rw [if_pos (by have := HLA.out.2.2; omega)])
          rw [HLA.out.2.2] at this; exact this⟩
        have HCLT : Aside0 (∀ W, Below w2.heap.size w2 W → Calls Try.prog 40 #[.slice Al left.length cl] W fun e w' => ∃ v0_ : Value, e = .returned (v0_) ∧ Kd.R k45 45 w' W.heap.size (fun _ => True) v0_ left ∧ Below W.heap.size W w') :=
         ⟨fun W hb => slices_Clone_Tile.calls Al cl left left W (HT.out W (HG2.out.trans (ChgY.of_below hb))) HSUM.out.2.2.2.1 (by unfold slices_Clone_Tile.f; rw [if_pos (by have := HSUM.out.1; have := HSUM.out.2.2.2.2.2.2; omega)])⟩
        have HDEL : Aside0 (∀ (W : World) (v : Value), w2.heap.size ≤ W.heap.size → Kd.R k45 45 W w2.heap.size (fun _ => True) v left → Calls Try.prog 39 #[v, .int .i64 (mm : Int), .int .i64 ((mm : Int) + 1)] W fun e w' => ∃ v', e = .returned v' ∧ Kd.R k45 45 w' w2.heap.size (fun _ => True) v' rs ∧ Below w2.heap.size W w' ∧ W.grownBy w' v.ownBlock) :=
         ⟨fun W v hB ho => by rw [← HER.out.1]; exact slices_Delete_Tile.gcallsG w2.heap.size (fun _ => True) v left mm W hB ho HER.out.2.2⟩
        have HREC : Aside0 (∀ (W : World) (vch vle : Value), Kd.R (Kd.int .i64) 3 W w2.heap.size (fun _ => True) vch (chain ++ [(n : Int)]) → Kd.R k45 45 W w2.heap.size (fun _ => True) vle rs → Below w2.heap.size w2 W → Calls Try.prog 35 #[vch, vle, .pointer (some ⟨bE, 0, none⟩), .pointer (some ⟨bA, 0, none⟩)] W fun e W' => e = .returned (.bool false) ∧ (false = true → P cr.1 W') ∧ ChgY Y W W') :=
         ⟨fun W2 vch vle h1 h2 hb => by
          have hG3 := HG2.out.trans (ChgY.of_below hb)
          have hb2 : base0 ≤ w2.heap.size := Nat.le_trans HSUM.out.2.2.2.2.1 (Nat.le_trans HSUM.out.2.2.2.2.2.1 HG2.out.2.2.2.1)
          obtain ⟨A1, c1, rfl, _, _⟩ := Kd.R_reads h1
          obtain ⟨A2, c2, rfl, hc2, hk2⟩ := keepT (Y := Y) h2 hb2 HYT.out
          have := HIH.out rs (chain ++ [(n : Int)]) sl w2 W2 A1 c1 A2 c2 (by have := HSUM.out.2.1; have := HER.out.2.1; omega) (by simp) (by rw [List.length_append, List.length_singleton]; have := HSUM.out.1; have := HER.out.2.1; omega) hb2 HP2.out hb h1 hc2 hk2 (HYA.out.1 W2 hG3).2 (HYA.out.2 W2 hG3).2
          rw [← HCR.out, HBB.out] at this
          exact this⟩
        have hwr : IntKind.i64.wrap ((mm : Int) + 1) = (mm : Int) + 1 := by rw [i64_w]; unfold wrap64; omega
        have hmz : (mm : Int) ≥ 0 := by omega
        clear hltz hcell hbl1
        refine start_ (n := 18) (S := fun w' => w'.cell? ⟨bA, 0, none⟩ = some (.func (.func 35) #[] #[.pointer (some ⟨bE, 0, none⟩), .pointer (some ⟨bA, 0, none⟩)]) ∧ Below w2.heap.size w2 w') (ds := [15]) bIg_0 (by kernel_rfl) rfl rfl ⟨(cell_bY hcA (bD (Below.refl _ _))), (bD (Below.refl _ _))⟩ (fun hHeld => ?_)
        refine pure_ (i := 0) (N := some 31) (v := ?_) (a' := ?_) bIg_1 rfl rfl (by kernel_rfl) (fun _ _ _ h => h) (Or.inl ⟨by rfl, ?_⟩) ?_ ?_
        rotate_left
        ·intro w'
         go_simp
         with_reducible rfl
        rotate_left
        ·simp only [sP]
         rfl
        refine pure_ (i := 1) (N := some 32) (v := ?_) (a' := ?_) bIg_2 rfl rfl (by kernel_rfl) (fun _ _ _ h => h) (Or.inl ⟨by rfl, ?_⟩) ?_ ?_
        rotate_left
        ·intro w'
         go_simp
         with_reducible rfl
        rotate_left
        ·simp only [sP]
         rfl
        refine pure_ (i := 2) (N := some 33) (v := ?_) (a' := ?_) bIg_3 rfl rfl (by kernel_rfl) (fun _ _ _ h => h) (Or.inl ⟨by rfl, ?_⟩) ?_ ?_
        rotate_left
        ·intro w'
         go_simp
         with_reducible rfl
        rotate_left
        ·simp only [sP]
         rfl
        refine pure_ (i := 4) (N := some 35) (v := ?_) (a' := ?_) bIg_19 rfl rfl (by kernel_rfl) (fun _ _ _ h => h) (Or.inl ⟨by rfl, ?_⟩) ?_ ?_
        rotate_left
        ·intro w'
         go_simp
         with_reducible rfl
        rotate_left
        ·simp only [sP]
         rfl
        refine pure_ (i := 6) (N := some 37) (v := ?_) (a' := ?_) bIg_20 rfl rfl (by kernel_rfl) (fun _ _ _ h => h) (Or.inl ⟨by rfl, ?_⟩) ?_ ?_
        rotate_left
        ·intro w'
         go_simp
         with_reducible rfl
        rotate_left
        ·simp only [sP]
         rfl
        refine pure_ (i := 9) (N := some 40) (v := ?_) (a' := ?_) bIg_21 rfl rfl (by kernel_rfl) (fun _ _ _ h => h) (Or.inl ⟨by rfl, ?_⟩) ?_ ?_
        rotate_left
        ·intro w'
         go_simp
         with_reducible rfl
        rotate_left
        ·simp only [sP]
         rfl
        refine pure_ (i := 11) (N := some 42) (v := ?_) (a' := ?_) bIg_22 rfl rfl (by kernel_rfl) (fun _ _ _ h => h) (Or.inl ⟨by rfl, ?_⟩) ?_ ?_
        rotate_left
        ·intro w'
         go_simp
         with_reducible rfl
        rotate_left
        ·simp only [sP]
         rfl
        refine pure_ (i := 12) (N := some 43) (v := ?_) (a' := ?_) bIg_23 rfl rfl (by kernel_rfl) (fun _ _ _ h => h) (Or.inl ⟨by rfl, ?_⟩) ?_ ?_
        rotate_left
        ·intro w'
         go_simp
         with_reducible rfl
        rotate_left
        ·simp only [sP]
         rfl
        refine pure_ (i := 13) (N := some 44) (v := ?_) (a' := ?_) bIg_24 rfl rfl (by kernel_rfl) (fun _ _ _ h => h) (Or.inl ⟨by rfl, ?_⟩) ?_ ?_
        rotate_left
        ·intro w'
         go_simp
         with_reducible rfl
        rotate_left
        ·simp only [sP]
         rfl
        refine take_ (i := 3) (N := some 34) (v := ?_) (a' := ?_) bIg_25 rfl rfl (by kernel_rfl) (fun _ _ _ h => h) (Or.inl ⟨by rfl, ?_⟩) hHeld ?_ ?_
        rotate_left
        ·rintro w' ⟨s0, s1⟩
         go_simp
         with_reducible rfl
        rotate_left
        ·simp only [sP]
         rfl
        refine join_ (σ := Value × Option Addr × Nat) 6 bIg_26 (fun s_ => [(36, s_.1), (38, .slice s_.2.1 1 s_.2.2)]) (fun s_ w' => (w'.cell? ⟨bA, 0, none⟩ = some (.func (.func 35) #[] #[.pointer (some ⟨bE, 0, none⟩), .pointer (some ⟨bA, 0, none⟩)]) ∧ Below w2.heap.size w2 w') ∧ RS w2 chain left rs (n : Int) true true false false false w' s_.1 (.slice s_.2.1 1 s_.2.2) (.slice none 0 0) (.slice none 0 0) (.slice none 0 0)) ?_ ?_
        rotate_left
        ·intro hCont
         refine two_ (i := 5) (j := 7) (Ni := some 36) (Nj := some 38) bIg_27 bIg_28 rfl rfl rfl rfl (by kernel_rfl) (by decide) (by decide) (fun K hK => ?_) (fun K hK => ?_)
         ·skip
          refine goes_ Try.func38 (by kernel_rfl) rfl #[.slice (some adc) (p + 1) cc] (by rfl) rfl rfl (by simp only [List.map_toArray, List.map_cons, List.map_nil]; rfl) ?_
          with_reducible refine (HCLC.out _ hHeld.2).mono ?_
          rintro e x2 ⟨v2, rfl, ho2, hb2⟩
          refine ⟨_, rfl, ?_⟩
          have R2 := aM (RS.clone_c (RS.start (vc := .slice none 0 0) (vl := .slice none 0 0) (va := .slice none 0 0) (vx := .slice none 0 0) (vd := .slice none 0 0) (chain := chain) (left := left) (dl := rs) (o := (n : Int)) hHeld.2) ho2 hb2)
          clear ho2 hb2
          refine hK.out _ _ ⟨(cell_bY hcA R2.out.B), R2.out.B⟩ (fun hHeld => ?_)
          clear hK K
          refine norm_ (a' := ?_) ?_ ?_
          rotate_left
          ·show Act.put _ (some 36) _ = _
           simp only [sP]
           rfl
          refine one_ (i := 7) (N := some 38) bIg_26 rfl rfl (by kernel_rfl) (by decide) (fun K hK => ?_)
          refine value_ (w1 := ?_) (v := ?_) (by rfl) rfl ?_ ?_
          rotate_left 2
          ·go_simp
           constructor
           ·rfl
           ·rfl
          have R6 := aM (RS.lit R2.out)
          refine hK.out _ _ ⟨(cell_bY hcA R6.out.B), R6.out.B⟩ (fun hHeld => ?_)
          clear hK K
          refine norm_ (a' := ?_) ?_ ?_
          rotate_left
          ·show Act.put _ (some 38) _ = _
           simp only [sP]
           rfl
          exact norm_ (by first | (simp only [putAll, Act.put, List.setIfInBounds_toArray, List.set_cons_zero, List.set_cons_succ]; done) | (simp only [putAll, Act.put, List.setIfInBounds_toArray, List.set_cons_zero, List.set_cons_succ]; rfl)) (hCont (v2, _, _) _ ⟨hHeld, R6.out⟩)
         ·skip
          refine value_ (w1 := ?_) (v := ?_) (by rfl) rfl ?_ ?_
          rotate_left 2
          ·go_simp
           constructor
           ·rfl
           ·rfl
          have R6 := aM (RS.lit (RS.start (vc := .slice none 0 0) (vl := .slice none 0 0) (va := .slice none 0 0) (vx := .slice none 0 0) (vd := .slice none 0 0) (chain := chain) (left := left) (dl := rs) (o := (n : Int)) hHeld.2))
          refine hK.out _ _ ⟨(cell_bY hcA R6.out.B), R6.out.B⟩ (fun hHeld => ?_)
          clear hK K
          refine norm_ (a' := ?_) ?_ ?_
          rotate_left
          ·show Act.put _ (some 38) _ = _
           simp only [sP]
           rfl
          refine one_ (i := 5) (N := some 36) bIg_26 rfl rfl (by kernel_rfl) (by decide) (fun K hK => ?_)
          refine goes_ Try.func38 (by kernel_rfl) rfl #[.slice (some adc) (p + 1) cc] (by rfl) rfl rfl (by simp only [List.map_toArray, List.map_cons, List.map_nil]; rfl) ?_
          with_reducible refine (HCLC.out _ hHeld.2).mono ?_
          rintro e x2 ⟨v2, rfl, ho2, hb2⟩
          refine ⟨_, rfl, ?_⟩
          have R2 := aM (RS.clone_c R6.out ho2 hb2)
          clear ho2 hb2
          refine hK.out _ _ ⟨(cell_bY hcA R2.out.B), R2.out.B⟩ (fun hHeld => ?_)
          clear hK K
          refine norm_ (a' := ?_) ?_ ?_
          rotate_left
          ·show Act.put _ (some 36) _ = _
           simp only [sP]
           rfl
          exact norm_ (by first | (simp only [putAll, Act.put, List.setIfInBounds_toArray, List.set_cons_zero, List.set_cons_succ]; done) | (simp only [putAll, Act.put, List.setIfInBounds_toArray, List.set_cons_zero, List.set_cons_succ]; rfl)) (hCont (v2, _, _) _ ⟨hHeld, R2.out⟩)
        rintro ⟨v2, A6, c6⟩ x6 ⟨hS_, hr6⟩
        have R6 : Aside0 (RS w2 chain left rs (n : Int) true true false false false x6 v2 (.slice A6 1 c6) (.slice none 0 0) (.slice none 0 0) (.slice none 0 0)) := ⟨hr6⟩
        clear hr6
        have hHeld : x6.cell? ⟨bA, 0, none⟩ = some (.func (.func 35) #[] #[.pointer (some ⟨bE, 0, none⟩), .pointer (some ⟨bA, 0, none⟩)]) ∧ Below w2.heap.size w2 x6 := hS_
        refine norm_ (a' := ?_) ?_ ?_
        rotate_left
        ·simp only [putAll, Act.put, List.setIfInBounds_toArray, List.set_cons_zero, List.set_cons_succ]
         rfl
        refine one_ (i := 8) (N := some 39) bIg_29 rfl rfl (by kernel_rfl) (by decide) (fun K hK => ?_)
        refine Kd.R_append_rows_step (Kd.int .i64) (w0 := w2) w2.heap.size (by rfl) (.tmp 36) (.tmp 38) 34 3 (.int .i64 0) 8 rfl Try.underlying34 info3 rfl (by decide) (by omega) v2 chain [(n : Int)] _ _ _ (fun k => true = true → some k ≠ (Value.slice A6 1 c6).ownBlock) (fun _ => False) rfl rfl ?aO ?aR (fun _ _ h => h) (fun _ h => h.elim) ?aF ?aB ?aS ?aL ?_
        (case aR => exact (Kd.R_reads' (R6.out.l rfl)).2.2)
        (case aB => exact R6.out.B)
        (case aF => exact fun k hk _ e => by have h1 := Kd.R_lt (R6.out.l rfl) k e.symm; omega)
        (case aO => exact R6.out.c rfl)
        (case aS => exact R6.out.B.size)
        (case aL => have h1 := HSUM.out.1; have h2 : [(n : Int)].length = 1 := rfl; have h3 := HLA.out.2.2; omega)
        intro v7 x7 ho7 hb7 hg7 hat7
        have R7 := aM (RS.app R6.out ho7 hb7 hg7)
        clear ho7 hb7 hg7 hat7
        refine hK.out _ _ ⟨(cell_bY hcA R7.out.B), R7.out.B⟩ (fun hHeld => ?_)
        clear hK K
        refine norm_ (a' := ?_) ?_ ?_
        rotate_left
        ·show Act.put _ (some 39) _ = _
         simp only [sP]
         rfl
        refine one_ (i := 10) (N := some 41) bIg_14 rfl rfl (by kernel_rfl) (by decide) (fun K hK => ?_)
        refine goes_ Try.func40 (by kernel_rfl) rfl #[.slice Al left.length cl] (by rfl) rfl rfl (by simp only [List.map_toArray, List.map_cons, List.map_nil]; rfl) ?_
        with_reducible refine (HCLT.out _ hHeld.2).mono ?_
        rintro e x9 ⟨v9, rfl, ho9, hb9⟩
        refine ⟨_, rfl, ?_⟩
        have R9 := aM (RS.clone_x R7.out ho9 hb9)
        clear ho9 hb9
        refine hK.out _ _ ⟨(cell_bY hcA R9.out.B), R9.out.B⟩ (fun hHeld => ?_)
        clear hK K
        refine norm_ (a' := ?_) ?_ ?_
        rotate_left
        ·show Act.put _ (some 41) _ = _
         simp only [sP]
         rfl
        refine one_ (i := 14) (N := some 45) bIg_15 rfl rfl (by kernel_rfl) (by decide) (fun K hK => ?_)
        refine goes_ Try.func39 (by kernel_rfl) rfl #[v9, .int .i64 (mm : Int), .int .i64 ((mm : Int) + 1)] (by rfl) rfl rfl (by simp only [List.map_toArray, List.map_cons, List.map_nil]; rfl) ?_
        with_reducible refine (HDEL.out _ _ R9.out.B.size (R9.out.x rfl)).mono ?_
        rintro e x13 ⟨v13, rfl, ho13, hb13, hg13⟩
        refine ⟨_, rfl, ?_⟩
        have R13 := aM (RS.del R9.out ho13 hb13 hg13)
        clear ho13 hb13 hg13
        refine hK.out _ _ ⟨(cell_bY hcA R13.out.B), R13.out.B⟩ (fun hHeld => ?_)
        clear hK K
        refine norm_ (a' := ?_) ?_ ?_
        rotate_left
        ·show Act.put _ (some 45) _ = _
         simp only [sP]
         rfl
        refine last_ (i := 15) (N := some 46) bIg_16 rfl rfl (by kernel_rfl) (by decide) (fun K hK => ?_)
        refine call_ 35 #[v7, v13, .pointer (some ⟨bE, 0, none⟩), .pointer (some ⟨bA, 0, none⟩)] (by rfl) rfl ?_ ?_
        ·go_simp
        refine (HREC.out _ _ _ (R13.out.a rfl) (R13.out.d rfl) R13.out.B).mono ?_
        rintro e x14 ⟨rfl, hp14, hg14⟩
        refine ⟨_, rfl, ?_⟩
        have HP14 := aM hp14
        have HG14 := aM ((ChgY.of_below R13.out.B).trans hg14)
        clear hp14 hg14
        refine hK.out _ _ ?_
        clear hK K
        refine norm_ (a' := ?_) ?_ ?_
        rotate_left
        ·show Act.put _ (some 46) _ = _
         simp only [sP]
         rfl
        refine pure_ (i := 16) (N := some 47) (v := ?_) (a' := ?_) bIg_17 rfl rfl (by kernel_rfl) (fun _ _ _ h => h) (Or.inl ⟨by rfl, ?_⟩) ?_ ?_
        rotate_left
        ·intro w'
         go_simp
         with_reducible rfl
        rotate_left
        ·simp only [sP]
         rfl
        refine pure_ (i := 17) (N := some 48) (v := ?_) (a' := ?_) bIg_18 rfl rfl (by kernel_rfl) (fun _ _ _ h => h) (Or.inl ⟨by rfl, ?_⟩) ?_ ?_
        rotate_left
        ·intro w'
         go_simp
         with_reducible rfl
        rotate_left
        ·simp only [sP]
         rfl
        refine done_ (by kernel_rfl) ?_
        have hq2 := HQ2.out
        rw [if_neg (by rw [HBB.out]; decide)] at hq2
        subst hq2
        go_wp2
        go_ret
        first | exact ⟨rfl, HG2.out.trans HG14.out⟩ | exact ⟨rfl, fun e => absurd e (by simp), HG2.out.trans HG14.out⟩
       | true =>
        have HBB := aM hb
        clear hb
        go_wp2_with (first | (go_at_call 37; refine (HTILE.out _).mono ?_; rintro e w1_ ⟨rfl, hb1⟩; have HB1 := aM hb1; clear hb1) | (go_at_call 36; refine (HIDX.out _ HB1.out).mono ?_; rintro e w2 ⟨rfl, hb2⟩; have HB2 := aM (below_then HB1.out HB1.out.size hb2); clear hb2))
        have HG2 := aM (HG.out.trans (ChgY.of_below HB2.out))
        have HP2 := aM (HPP.out _ _ _ HPL.out HB2.out)
        have hcA := (HYA.out.2 w2 HG2.out).1
        have HCLC : Aside0 (∀ W, Below w2.heap.size w2 W → Calls Try.prog 38 #[.slice (some adc) (p + 1) cc] W fun e w' => ∃ v0_ : Value, e = .returned (v0_) ∧ Kd.R (Kd.int .i64) 3 w' W.heap.size (fun _ => True) v0_ chain ∧ Below W.heap.size W w') :=
         ⟨fun W hb => by
          have := slices_Clone_int.calls (some adc) cc chain chain W (HKI.out W (HG2.out.trans (ChgY.of_below hb))) HSUM.out.2.2.1 (by unfold slices_Clone_int.f; rw [if_pos (by have := HLA.out.2.2; omega)])
          rw [HLA.out.2.2] at this; exact this⟩
        have HCLT : Aside0 (∀ W, Below w2.heap.size w2 W → Calls Try.prog 40 #[.slice Al left.length cl] W fun e w' => ∃ v0_ : Value, e = .returned (v0_) ∧ Kd.R k45 45 w' W.heap.size (fun _ => True) v0_ left ∧ Below W.heap.size W w') :=
         ⟨fun W hb => slices_Clone_Tile.calls Al cl left left W (HT.out W (HG2.out.trans (ChgY.of_below hb))) HSUM.out.2.2.2.1 (by unfold slices_Clone_Tile.f; rw [if_pos (by have := HSUM.out.1; have := HSUM.out.2.2.2.2.2.2; omega)])⟩
        have HDEL : Aside0 (∀ (W : World) (v : Value), w2.heap.size ≤ W.heap.size → Kd.R k45 45 W w2.heap.size (fun _ => True) v left → Calls Try.prog 39 #[v, .int .i64 (mm : Int), .int .i64 ((mm : Int) + 1)] W fun e w' => ∃ v', e = .returned v' ∧ Kd.R k45 45 w' w2.heap.size (fun _ => True) v' rs ∧ Below w2.heap.size W w' ∧ W.grownBy w' v.ownBlock) :=
         ⟨fun W v hB ho => by rw [← HER.out.1]; exact slices_Delete_Tile.gcallsG w2.heap.size (fun _ => True) v left mm W hB ho HER.out.2.2⟩
        have HREC : Aside0 (∀ (W : World) (vch vle : Value), Kd.R (Kd.int .i64) 3 W w2.heap.size (fun _ => True) vch (chain ++ [(n : Int)]) → Kd.R k45 45 W w2.heap.size (fun _ => True) vle rs → Below w2.heap.size w2 W → Calls Try.prog 35 #[vch, vle, .pointer (some ⟨bE, 0, none⟩), .pointer (some ⟨bA, 0, none⟩)] W fun e W' => e = .returned (.bool true) ∧ (true = true → P cr.1 W') ∧ ChgY Y W W') :=
         ⟨fun W2 vch vle h1 h2 hb => by
          have hG3 := HG2.out.trans (ChgY.of_below hb)
          have hb2 : base0 ≤ w2.heap.size := Nat.le_trans HSUM.out.2.2.2.2.1 (Nat.le_trans HSUM.out.2.2.2.2.2.1 HG2.out.2.2.2.1)
          obtain ⟨A1, c1, rfl, _, _⟩ := Kd.R_reads h1
          obtain ⟨A2, c2, rfl, hc2, hk2⟩ := keepT (Y := Y) h2 hb2 HYT.out
          have := HIH.out rs (chain ++ [(n : Int)]) sl w2 W2 A1 c1 A2 c2 (by have := HSUM.out.2.1; have := HER.out.2.1; omega) (by simp) (by rw [List.length_append, List.length_singleton]; have := HSUM.out.1; have := HER.out.2.1; omega) hb2 HP2.out hb h1 hc2 hk2 (HYA.out.1 W2 hG3).2 (HYA.out.2 W2 hG3).2
          rw [← HCR.out, HBB.out] at this
          exact this⟩
        have hwr : IntKind.i64.wrap ((mm : Int) + 1) = (mm : Int) + 1 := by rw [i64_w]; unfold wrap64; omega
        have hmz : (mm : Int) ≥ 0 := by omega
        clear hltz hcell hbl1
        refine start_ (n := 18) (S := fun w' => w'.cell? ⟨bA, 0, none⟩ = some (.func (.func 35) #[] #[.pointer (some ⟨bE, 0, none⟩), .pointer (some ⟨bA, 0, none⟩)]) ∧ Below w2.heap.size w2 w') (ds := [15]) bIg_0 (by kernel_rfl) rfl rfl ⟨(cell_bY hcA (bD (Below.refl _ _))), (bD (Below.refl _ _))⟩ (fun hHeld => ?_)
        refine pure_ (i := 0) (N := some 31) (v := ?_) (a' := ?_) bIg_1 rfl rfl (by kernel_rfl) (fun _ _ _ h => h) (Or.inl ⟨by rfl, ?_⟩) ?_ ?_
        rotate_left
        ·intro w'
         go_simp
         with_reducible rfl
        rotate_left
        ·simp only [sP]
         rfl
        refine pure_ (i := 1) (N := some 32) (v := ?_) (a' := ?_) bIg_2 rfl rfl (by kernel_rfl) (fun _ _ _ h => h) (Or.inl ⟨by rfl, ?_⟩) ?_ ?_
        rotate_left
        ·intro w'
         go_simp
         with_reducible rfl
        rotate_left
        ·simp only [sP]
         rfl
        refine pure_ (i := 2) (N := some 33) (v := ?_) (a' := ?_) bIg_3 rfl rfl (by kernel_rfl) (fun _ _ _ h => h) (Or.inl ⟨by rfl, ?_⟩) ?_ ?_
        rotate_left
        ·intro w'
         go_simp
         with_reducible rfl
        rotate_left
        ·simp only [sP]
         rfl
        refine pure_ (i := 4) (N := some 35) (v := ?_) (a' := ?_) bIg_19 rfl rfl (by kernel_rfl) (fun _ _ _ h => h) (Or.inl ⟨by rfl, ?_⟩) ?_ ?_
        rotate_left
        ·intro w'
         go_simp
         with_reducible rfl
        rotate_left
        ·simp only [sP]
         rfl
        refine pure_ (i := 6) (N := some 37) (v := ?_) (a' := ?_) bIg_20 rfl rfl (by kernel_rfl) (fun _ _ _ h => h) (Or.inl ⟨by rfl, ?_⟩) ?_ ?_
        rotate_left
        ·intro w'
         go_simp
         with_reducible rfl
        rotate_left
        ·simp only [sP]
         rfl
        refine pure_ (i := 9) (N := some 40) (v := ?_) (a' := ?_) bIg_21 rfl rfl (by kernel_rfl) (fun _ _ _ h => h) (Or.inl ⟨by rfl, ?_⟩) ?_ ?_
        rotate_left
        ·intro w'
         go_simp
         with_reducible rfl
        rotate_left
        ·simp only [sP]
         rfl
        refine pure_ (i := 11) (N := some 42) (v := ?_) (a' := ?_) bIg_22 rfl rfl (by kernel_rfl) (fun _ _ _ h => h) (Or.inl ⟨by rfl, ?_⟩) ?_ ?_
        rotate_left
        ·intro w'
         go_simp
         with_reducible rfl
        rotate_left
        ·simp only [sP]
         rfl
        refine pure_ (i := 12) (N := some 43) (v := ?_) (a' := ?_) bIg_23 rfl rfl (by kernel_rfl) (fun _ _ _ h => h) (Or.inl ⟨by rfl, ?_⟩) ?_ ?_
        rotate_left
        ·intro w'
         go_simp
         with_reducible rfl
        rotate_left
        ·simp only [sP]
         rfl
        refine pure_ (i := 13) (N := some 44) (v := ?_) (a' := ?_) bIg_24 rfl rfl (by kernel_rfl) (fun _ _ _ h => h) (Or.inl ⟨by rfl, ?_⟩) ?_ ?_
        rotate_left
        ·intro w'
         go_simp
         with_reducible rfl
        rotate_left
        ·simp only [sP]
         rfl
        refine take_ (i := 3) (N := some 34) (v := ?_) (a' := ?_) bIg_25 rfl rfl (by kernel_rfl) (fun _ _ _ h => h) (Or.inl ⟨by rfl, ?_⟩) hHeld ?_ ?_
        rotate_left
        ·rintro w' ⟨s0, s1⟩
         go_simp
         with_reducible rfl
        rotate_left
        ·simp only [sP]
         rfl
        refine join_ (σ := Value × Option Addr × Nat) 6 bIg_26 (fun s_ => [(36, s_.1), (38, .slice s_.2.1 1 s_.2.2)]) (fun s_ w' => (w'.cell? ⟨bA, 0, none⟩ = some (.func (.func 35) #[] #[.pointer (some ⟨bE, 0, none⟩), .pointer (some ⟨bA, 0, none⟩)]) ∧ Below w2.heap.size w2 w') ∧ RS w2 chain left rs (n : Int) true true false false false w' s_.1 (.slice s_.2.1 1 s_.2.2) (.slice none 0 0) (.slice none 0 0) (.slice none 0 0)) ?_ ?_
        rotate_left
        ·intro hCont
         refine two_ (i := 5) (j := 7) (Ni := some 36) (Nj := some 38) bIg_27 bIg_28 rfl rfl rfl rfl (by kernel_rfl) (by decide) (by decide) (fun K hK => ?_) (fun K hK => ?_)
         ·skip
          refine goes_ Try.func38 (by kernel_rfl) rfl #[.slice (some adc) (p + 1) cc] (by rfl) rfl rfl (by simp only [List.map_toArray, List.map_cons, List.map_nil]; rfl) ?_
          with_reducible refine (HCLC.out _ hHeld.2).mono ?_
          rintro e x2 ⟨v2, rfl, ho2, hb2⟩
          refine ⟨_, rfl, ?_⟩
          have R2 := aM (RS.clone_c (RS.start (vc := .slice none 0 0) (vl := .slice none 0 0) (va := .slice none 0 0) (vx := .slice none 0 0) (vd := .slice none 0 0) (chain := chain) (left := left) (dl := rs) (o := (n : Int)) hHeld.2) ho2 hb2)
          clear ho2 hb2
          refine hK.out _ _ ⟨(cell_bY hcA R2.out.B), R2.out.B⟩ (fun hHeld => ?_)
          clear hK K
          refine norm_ (a' := ?_) ?_ ?_
          rotate_left
          ·show Act.put _ (some 36) _ = _
           simp only [sP]
           rfl
          refine one_ (i := 7) (N := some 38) bIg_26 rfl rfl (by kernel_rfl) (by decide) (fun K hK => ?_)
          refine value_ (w1 := ?_) (v := ?_) (by rfl) rfl ?_ ?_
          rotate_left 2
          ·go_simp
           constructor
           ·rfl
           ·rfl
          have R6 := aM (RS.lit R2.out)
          refine hK.out _ _ ⟨(cell_bY hcA R6.out.B), R6.out.B⟩ (fun hHeld => ?_)
          clear hK K
          refine norm_ (a' := ?_) ?_ ?_
          rotate_left
          ·show Act.put _ (some 38) _ = _
           simp only [sP]
           rfl
          exact norm_ (by first | (simp only [putAll, Act.put, List.setIfInBounds_toArray, List.set_cons_zero, List.set_cons_succ]; done) | (simp only [putAll, Act.put, List.setIfInBounds_toArray, List.set_cons_zero, List.set_cons_succ]; rfl)) (hCont (v2, _, _) _ ⟨hHeld, R6.out⟩)
         ·skip
          refine value_ (w1 := ?_) (v := ?_) (by rfl) rfl ?_ ?_
          rotate_left 2
          ·go_simp
           constructor
           ·rfl
           ·rfl
          have R6 := aM (RS.lit (RS.start (vc := .slice none 0 0) (vl := .slice none 0 0) (va := .slice none 0 0) (vx := .slice none 0 0) (vd := .slice none 0 0) (chain := chain) (left := left) (dl := rs) (o := (n : Int)) hHeld.2))
          refine hK.out _ _ ⟨(cell_bY hcA R6.out.B), R6.out.B⟩ (fun hHeld => ?_)
          clear hK K
          refine norm_ (a' := ?_) ?_ ?_
          rotate_left
          ·show Act.put _ (some 38) _ = _
           simp only [sP]
           rfl
          refine one_ (i := 5) (N := some 36) bIg_26 rfl rfl (by kernel_rfl) (by decide) (fun K hK => ?_)
          refine goes_ Try.func38 (by kernel_rfl) rfl #[.slice (some adc) (p + 1) cc] (by rfl) rfl rfl (by simp only [List.map_toArray, List.map_cons, List.map_nil]; rfl) ?_
          with_reducible refine (HCLC.out _ hHeld.2).mono ?_
          rintro e x2 ⟨v2, rfl, ho2, hb2⟩
          refine ⟨_, rfl, ?_⟩
          have R2 := aM (RS.clone_c R6.out ho2 hb2)
          clear ho2 hb2
          refine hK.out _ _ ⟨(cell_bY hcA R2.out.B), R2.out.B⟩ (fun hHeld => ?_)
          clear hK K
          refine norm_ (a' := ?_) ?_ ?_
          rotate_left
          ·show Act.put _ (some 36) _ = _
           simp only [sP]
           rfl
          exact norm_ (by first | (simp only [putAll, Act.put, List.setIfInBounds_toArray, List.set_cons_zero, List.set_cons_succ]; done) | (simp only [putAll, Act.put, List.setIfInBounds_toArray, List.set_cons_zero, List.set_cons_succ]; rfl)) (hCont (v2, _, _) _ ⟨hHeld, R2.out⟩)
        rintro ⟨v2, A6, c6⟩ x6 ⟨hS_, hr6⟩
        have R6 : Aside0 (RS w2 chain left rs (n : Int) true true false false false x6 v2 (.slice A6 1 c6) (.slice none 0 0) (.slice none 0 0) (.slice none 0 0)) := ⟨hr6⟩
        clear hr6
        have hHeld : x6.cell? ⟨bA, 0, none⟩ = some (.func (.func 35) #[] #[.pointer (some ⟨bE, 0, none⟩), .pointer (some ⟨bA, 0, none⟩)]) ∧ Below w2.heap.size w2 x6 := hS_
        refine norm_ (a' := ?_) ?_ ?_
        rotate_left
        ·simp only [putAll, Act.put, List.setIfInBounds_toArray, List.set_cons_zero, List.set_cons_succ]
         rfl
        refine one_ (i := 8) (N := some 39) bIg_29 rfl rfl (by kernel_rfl) (by decide) (fun K hK => ?_)
        refine Kd.R_append_rows_step (Kd.int .i64) (w0 := w2) w2.heap.size (by rfl) (.tmp 36) (.tmp 38) 34 3 (.int .i64 0) 8 rfl Try.underlying34 info3 rfl (by decide) (by omega) v2 chain [(n : Int)] _ _ _ (fun k => true = true → some k ≠ (Value.slice A6 1 c6).ownBlock) (fun _ => False) rfl rfl ?aO ?aR (fun _ _ h => h) (fun _ h => h.elim) ?aF ?aB ?aS ?aL ?_
        (case aR => exact (Kd.R_reads' (R6.out.l rfl)).2.2)
        (case aB => exact R6.out.B)
        (case aF => exact fun k hk _ e => by have h1 := Kd.R_lt (R6.out.l rfl) k e.symm; omega)
        (case aO => exact R6.out.c rfl)
        (case aS => exact R6.out.B.size)
        (case aL => have h1 := HSUM.out.1; have h2 : [(n : Int)].length = 1 := rfl; have h3 := HLA.out.2.2; omega)
        intro v7 x7 ho7 hb7 hg7 hat7
        have R7 := aM (RS.app R6.out ho7 hb7 hg7)
        clear ho7 hb7 hg7 hat7
        refine hK.out _ _ ⟨(cell_bY hcA R7.out.B), R7.out.B⟩ (fun hHeld => ?_)
        clear hK K
        refine norm_ (a' := ?_) ?_ ?_
        rotate_left
        ·show Act.put _ (some 39) _ = _
         simp only [sP]
         rfl
        refine one_ (i := 10) (N := some 41) bIg_14 rfl rfl (by kernel_rfl) (by decide) (fun K hK => ?_)
        refine goes_ Try.func40 (by kernel_rfl) rfl #[.slice Al left.length cl] (by rfl) rfl rfl (by simp only [List.map_toArray, List.map_cons, List.map_nil]; rfl) ?_
        with_reducible refine (HCLT.out _ hHeld.2).mono ?_
        rintro e x9 ⟨v9, rfl, ho9, hb9⟩
        refine ⟨_, rfl, ?_⟩
        have R9 := aM (RS.clone_x R7.out ho9 hb9)
        clear ho9 hb9
        refine hK.out _ _ ⟨(cell_bY hcA R9.out.B), R9.out.B⟩ (fun hHeld => ?_)
        clear hK K
        refine norm_ (a' := ?_) ?_ ?_
        rotate_left
        ·show Act.put _ (some 41) _ = _
         simp only [sP]
         rfl
        refine one_ (i := 14) (N := some 45) bIg_15 rfl rfl (by kernel_rfl) (by decide) (fun K hK => ?_)
        refine goes_ Try.func39 (by kernel_rfl) rfl #[v9, .int .i64 (mm : Int), .int .i64 ((mm : Int) + 1)] (by rfl) rfl rfl (by simp only [List.map_toArray, List.map_cons, List.map_nil]; rfl) ?_
        with_reducible refine (HDEL.out _ _ R9.out.B.size (R9.out.x rfl)).mono ?_
        rintro e x13 ⟨v13, rfl, ho13, hb13, hg13⟩
        refine ⟨_, rfl, ?_⟩
        have R13 := aM (RS.del R9.out ho13 hb13 hg13)
        clear ho13 hb13 hg13
        refine hK.out _ _ ⟨(cell_bY hcA R13.out.B), R13.out.B⟩ (fun hHeld => ?_)
        clear hK K
        refine norm_ (a' := ?_) ?_ ?_
        rotate_left
        ·show Act.put _ (some 45) _ = _
         simp only [sP]
         rfl
        refine last_ (i := 15) (N := some 46) bIg_16 rfl rfl (by kernel_rfl) (by decide) (fun K hK => ?_)
        refine call_ 35 #[v7, v13, .pointer (some ⟨bE, 0, none⟩), .pointer (some ⟨bA, 0, none⟩)] (by rfl) rfl ?_ ?_
        ·go_simp
        refine (HREC.out _ _ _ (R13.out.a rfl) (R13.out.d rfl) R13.out.B).mono ?_
        rintro e x14 ⟨rfl, hp14, hg14⟩
        refine ⟨_, rfl, ?_⟩
        have HP14 := aM hp14
        have HG14 := aM ((ChgY.of_below R13.out.B).trans hg14)
        clear hp14 hg14
        refine hK.out _ _ ?_
        clear hK K
        refine norm_ (a' := ?_) ?_ ?_
        rotate_left
        ·show Act.put _ (some 46) _ = _
         simp only [sP]
         rfl
        refine pure_ (i := 16) (N := some 47) (v := ?_) (a' := ?_) bIg_17 rfl rfl (by kernel_rfl) (fun _ _ _ h => h) (Or.inl ⟨by rfl, ?_⟩) ?_ ?_
        rotate_left
        ·intro w'
         go_simp
         with_reducible rfl
        rotate_left
        ·simp only [sP]
         rfl
        refine pure_ (i := 17) (N := some 48) (v := ?_) (a' := ?_) bIg_18 rfl rfl (by kernel_rfl) (fun _ _ _ h => h) (Or.inl ⟨by rfl, ?_⟩) ?_ ?_
        rotate_left
        ·intro w'
         go_simp
         with_reducible rfl
        rotate_left
        ·simp only [sP]
         rfl
        refine done_ (by kernel_rfl) ?_
        have hltz : (n : Int) < 10 := by omega
        go_wp2
        go_roundg (10 - (n + 1))
        case measure => omega
        case rel => exact ⟨n + 1, cr.1, by go_num, by omega, Nat.le_refl _, ⟨by first | exact HP14.out rfl | exact HP14.out trivial⟩, ⟨HG2.out.trans HG14.out⟩, ⟨by rw [HQ2.out, if_pos HBB.out]⟩⟩
     ·obtain rfl : n = 10 := by omega
      have hltz : ¬ ((10 : Nat) : Int) < 10 := by omega
      have hq := HQ.out
      rw [List.drop_of_length_le (by simp), seqB] at hq
      subst hq
      go_wp2
      go_ret
      first | exact ⟨rfl, HPL.out, HG.out⟩ | exact ⟨rfl, fun _ => HPL.out, HG.out⟩
  ·have hz1 : ¬ ((p : Int) + 1 > 1) := by omega
   rw [if_neg (fun h => h1 h.1), if_neg h1] at hr
   have HR := aM hr
   have HPS := aM (hP s W0 W hPs hB)
   have HG0 := aM (ChgY.refl Y W)
   obtain ⟨s1, hs1⟩ : ∃ x, x = s := ⟨_, rfl⟩
   rw [← hs1] at HR HPS
   rw [hp]
   clear hr hKI hT hE hA ih hPs hB hb0 hsum hla hlast hff hR HEACH hP hYI hYT hYE hYA hm hs1 eg
   go_enter Try.func35, Try.ntmps35
   go_wp2
   go_loopg [18] 10 (fun gg s18 wx => ∃ (n : Nat) (sl : σ), s18 = .int .i64 n ∧ n ≤ 10 ∧ 10 - n ≤ gg ∧ Aside0 (P sl wx) ∧ Aside0 (ChgY Y W wx) ∧ Aside0 (r = seqB ff ((List.range 10).drop n) sl))
   case atStart => exact ⟨0, s1, rfl, Nat.zero_le _, by omega, HPS, HG0, HR⟩
   case round =>
    clear HPS HR HG0
    obtain ⟨n, sl, rfl, hn, hgg, HPL, HG, HQ⟩ := hrel
    by_cases hlt : n < 10
    ·have hltz : (n : Int) < 10 := by omega
     have hq := HQ.out
     rw [range_drop n hlt, seqB] at hq
     obtain ⟨adc, hAc, hcell⟩ := C_cellY (HKI.out wr HG.out) p la HLA.out.1
     subst hAc
     have hbl1 := World.block_lt_of_cell? _ _ hcell
     have HTILE : Aside0 (∀ w, Calls Try.prog 37 #[.int .i64 la, .int .i64 (n : Int)] w fun e w' => e = .returned (.agg #[.int .i64 (mn la n), .int .i64 (mx la n)]) ∧ Below w.heap.size w w') := ⟨fun w => impl_tile.calls la n _ _ w rfl⟩
     obtain ⟨rr, hi1, hi2⟩ := idxT left (by have := HSUM.out.1; have := HSUM.out.2.2.2.2.2.2; omega) (fwTile la n)
     have HIDX : Aside0 (∀ w, Below wr.heap.size wr w → Calls Try.prog 36 #[.slice Al left.length cl, .agg #[.int .i64 (mn la n), .int .i64 (mx la n)]] w fun e w' => e = .returned (.int .i64 rr) ∧ Below w.heap.size w w') :=
      ⟨fun w hb => slices_Index_Tile.calls 2000 Al cl left _ _ rr w (HT.out w (HG.out.trans (ChgY.of_below hb))) HSUM.out.2.2.2.1 hi1⟩
     rcases hi2 with ⟨rfl, hnm⟩ | ⟨mm, rfl, hml, hmem, her⟩
     ·have hfn : ff n sl = (sl, true) := by rw [HFF.out]; exact if_neg hnm
      rw [hfn, if_pos rfl] at hq
      have HQ2 := aM hq
      clear hq hfn HQ hi1 hnm
      go_wp2_with (first | (go_at_call 37; refine (HTILE.out _).mono ?_; rintro e w1_ ⟨rfl, hb1⟩; have HB1 := aM hb1; clear hb1) | (go_at_call 36; refine (HIDX.out _ HB1.out).mono ?_; rintro e w2 ⟨rfl, hb2⟩; have HB2 := aM (below_then HB1.out HB1.out.size hb2); clear hb2))
      have hmz : ¬ (-1 : Int) ≥ 0 := by omega
      refine start_ (n := 18) (S := fun w' => True) (ds := []) bIg_0 (by kernel_rfl) rfl rfl trivial (fun hHeld => ?_)
      refine pure_ (i := 0) (N := some 31) (v := ?_) (a' := ?_) bIg_1 rfl rfl (by kernel_rfl) (fun _ _ _ h => h) (Or.inl ⟨by rfl, ?_⟩) ?_ ?_
      rotate_left
      ·intro w'
       go_simp
       with_reducible rfl
      rotate_left
      ·simp only [sP]
       rfl
      refine pure_ (i := 1) (N := some 32) (v := ?_) (a' := ?_) bIg_2 rfl rfl (by kernel_rfl) (fun _ _ _ h => h) (Or.inl ⟨by rfl, ?_⟩) ?_ ?_
      rotate_left
      ·intro w'
       go_simp
       with_reducible rfl
      rotate_left
      ·simp only [sP]
       rfl
      refine pure_ (i := 2) (N := some 33) (v := ?_) (a' := ?_) bIg_3 rfl rfl (by kernel_rfl) (fun _ _ _ h => h) (Or.inl ⟨by rfl, ?_⟩) ?_ ?_
      rotate_left
      ·intro w'
       go_simp
       with_reducible rfl
      rotate_left
      ·simp only [sP]
       rfl
      refine pure_ (i := 3) (N := some 34) (v := undef) (a' := ?_) bIg_4 rfl rfl (by kernel_rfl) (fun _ _ _ h => h) (Or.inr ⟨by rfl, rfl⟩) ?_ ?_
      rotate_left
      ·simp only [sP]
       rfl
      refine pure_ (i := 4) (N := some 35) (v := undef) (a' := ?_) bIg_5 rfl rfl (by kernel_rfl) (fun _ _ _ h => h) (Or.inr ⟨by rfl, rfl⟩) ?_ ?_
      rotate_left
      ·simp only [sP]
       rfl
      refine pure_ (i := 5) (N := some 36) (v := undef) (a' := ?_) bIg_6 rfl rfl (by kernel_rfl) (fun _ _ _ h => h) (Or.inr ⟨by rfl, rfl⟩) ?_ ?_
      rotate_left
      ·simp only [sP]
       rfl
      refine pure_ (i := 6) (N := some 37) (v := undef) (a' := ?_) bIg_7 rfl rfl (by kernel_rfl) (fun _ _ _ h => h) (Or.inr ⟨by rfl, rfl⟩) ?_ ?_
      rotate_left
      ·simp only [sP]
       rfl
      refine pure_ (i := 7) (N := some 38) (v := undef) (a' := ?_) bIg_8 rfl rfl (by kernel_rfl) (fun _ _ _ h => h) (Or.inr ⟨by rfl, rfl⟩) ?_ ?_
      rotate_left
      ·simp only [sP]
       rfl
      refine pure_ (i := 8) (N := some 39) (v := undef) (a' := ?_) bIg_9 rfl rfl (by kernel_rfl) (fun _ _ _ h => h) (Or.inr ⟨by rfl, rfl⟩) ?_ ?_
      rotate_left
      ·simp only [sP]
       rfl
      refine pure_ (i := 9) (N := some 40) (v := undef) (a' := ?_) bIg_10 rfl rfl (by kernel_rfl) (fun _ _ _ h => h) (Or.inr ⟨by rfl, rfl⟩) ?_ ?_
      rotate_left
      ·simp only [sP]
       rfl
      refine pure_ (i := 10) (N := some 41) (v := undef) (a' := ?_) bIg_11 rfl rfl (by kernel_rfl) (fun _ _ _ h => h) (Or.inr ⟨by rfl, rfl⟩) ?_ ?_
      rotate_left
      ·simp only [sP]
       rfl
      refine pure_ (i := 11) (N := some 42) (v := undef) (a' := ?_) bIg_12 rfl rfl (by kernel_rfl) (fun _ _ _ h => h) (Or.inr ⟨by rfl, rfl⟩) ?_ ?_
      rotate_left
      ·simp only [sP]
       rfl
      refine pure_ (i := 12) (N := some 43) (v := undef) (a' := ?_) bIg_13 rfl rfl (by kernel_rfl) (fun _ _ _ h => h) (Or.inr ⟨by rfl, rfl⟩) ?_ ?_
      rotate_left
      ·simp only [sP]
       rfl
      refine pure_ (i := 13) (N := some 44) (v := undef) (a' := ?_) bIg_14 rfl rfl (by kernel_rfl) (fun _ _ _ h => h) (Or.inr ⟨by rfl, rfl⟩) ?_ ?_
      rotate_left
      ·simp only [sP]
       rfl
      refine pure_ (i := 14) (N := some 45) (v := undef) (a' := ?_) bIg_15 rfl rfl (by kernel_rfl) (fun _ _ _ h => h) (Or.inr ⟨by rfl, rfl⟩) ?_ ?_
      rotate_left
      ·simp only [sP]
       rfl
      refine pure_ (i := 15) (N := some 46) (v := undef) (a' := ?_) bIg_16 rfl rfl (by kernel_rfl) (fun _ _ _ h => h) (Or.inr ⟨by rfl, rfl⟩) ?_ ?_
      rotate_left
      ·simp only [sP]
       rfl
      refine pure_ (i := 16) (N := some 47) (v := undef) (a' := ?_) bIg_17 rfl rfl (by kernel_rfl) (fun _ _ _ h => h) (Or.inr ⟨by rfl, rfl⟩) ?_ ?_
      rotate_left
      ·simp only [sP]
       rfl
      refine pure_ (i := 17) (N := some 48) (v := ?_) (a' := ?_) bIg_18 rfl rfl (by kernel_rfl) (fun _ _ _ h => h) (Or.inl ⟨by rfl, ?_⟩) ?_ ?_
      rotate_left
      ·intro w'
       go_simp
       with_reducible rfl
      rotate_left
      ·simp only [sP]
       rfl
      refine done_ (by kernel_rfl) ?_
      go_wp2
      go_roundg (10 - (n + 1))
      case measure => omega
      case rel => exact ⟨n + 1, sl, by go_num, by omega, Nat.le_refl _, ⟨HPP.out _ _ _ HPL.out (bD HB2.out)⟩, ⟨HG.out.trans (ChgY.of_below (bD HB2.out))⟩, HQ2⟩
     ·have hfn : ff n sl = chB g m (chain ++ [(n : Int)]) (left.erase (fwTile la (n : Int))) sl := by rw [HFF.out]; exact if_pos hmem
      rw [hfn] at hq
      obtain ⟨rs, hrs⟩ : ∃ x, x = left.erase (fwTile la n) := ⟨_, rfl⟩
      rw [← hrs] at hq her
      have hrl : rs.length + 1 = left.length := by rw [hrs, List.length_erase_of_mem hmem]; omega
      obtain ⟨cr, hcr⟩ : ∃ x, x = chB g m (chain ++ [(n : Int)]) rs sl := ⟨_, rfl⟩
      rw [← hcr] at hq
      have HQ2 := aM hq
      have HCR := aM hcr
      have HER := aM (And.intro her (And.intro hrl hml))
      have hmm : mm ≤ 900 := by have := HSUM.out.1; have := HSUM.out.2.2.2.2.2.2; omega
      clear hq hfn HQ hi1 hmem hrs hrl hcr her hml
      cases hb : cr.2 with
      | false =>
       have HBB := aM hb
       clear hb
       go_wp2_with (first | (go_at_call 37; refine (HTILE.out _).mono ?_; rintro e w1_ ⟨rfl, hb1⟩; have HB1 := aM hb1; clear hb1) | (go_at_call 36; refine (HIDX.out _ HB1.out).mono ?_; rintro e w2 ⟨rfl, hb2⟩; have HB2 := aM (below_then HB1.out HB1.out.size hb2); clear hb2))
       have HG2 := aM (HG.out.trans (ChgY.of_below HB2.out))
       have HP2 := aM (HPP.out _ _ _ HPL.out HB2.out)
       have hcA := (HYA.out.2 w2 HG2.out).1
       have HCLC : Aside0 (∀ W, Below w2.heap.size w2 W → Calls Try.prog 38 #[.slice (some adc) (p + 1) cc] W fun e w' => ∃ v0_ : Value, e = .returned (v0_) ∧ Kd.R (Kd.int .i64) 3 w' W.heap.size (fun _ => True) v0_ chain ∧ Below W.heap.size W w') :=
        ⟨fun W hb => by
         have := slices_Clone_int.calls (some adc) cc chain chain W (HKI.out W (HG2.out.trans (ChgY.of_below hb))) HSUM.out.2.2.1 (by unfold slices_Clone_int.f; rw [if_pos (by have := HLA.out.2.2; omega)])
         rw [HLA.out.2.2] at this; exact this⟩
       have HCLT : Aside0 (∀ W, Below w2.heap.size w2 W → Calls Try.prog 40 #[.slice Al left.length cl] W fun e w' => ∃ v0_ : Value, e = .returned (v0_) ∧ Kd.R k45 45 w' W.heap.size (fun _ => True) v0_ left ∧ Below W.heap.size W w') :=
        ⟨fun W hb => slices_Clone_Tile.calls Al cl left left W (HT.out W (HG2.out.trans (ChgY.of_below hb))) HSUM.out.2.2.2.1 (by unfold slices_Clone_Tile.f; rw [if_pos (by have := HSUM.out.1; have := HSUM.out.2.2.2.2.2.2; omega)])⟩
       have HDEL : Aside0 (∀ (W : World) (v : Value), w2.heap.size ≤ W.heap.size → Kd.R k45 45 W w2.heap.size (fun _ => True) v left → Calls Try.prog 39 #[v, .int .i64 (mm : Int), .int .i64 ((mm : Int) + 1)] W fun e w' => ∃ v', e = .returned v' ∧ Kd.R k45 45 w' w2.heap.size (fun _ => True) v' rs ∧ Below w2.heap.size W w' ∧ W.grownBy w' v.ownBlock) :=
        ⟨fun W v hB ho => by rw [← HER.out.1]; exact slices_Delete_Tile.gcallsG w2.heap.size (fun _ => True) v left mm W hB ho HER.out.2.2⟩
       have HREC : Aside0 (∀ (W : World) (vch vle : Value), Kd.R (Kd.int .i64) 3 W w2.heap.size (fun _ => True) vch (chain ++ [(n : Int)]) → Kd.R k45 45 W w2.heap.size (fun _ => True) vle rs → Below w2.heap.size w2 W → Calls Try.prog 35 #[vch, vle, .pointer (some ⟨bE, 0, none⟩), .pointer (some ⟨bA, 0, none⟩)] W fun e W' => e = .returned (.bool false) ∧ (false = true → P cr.1 W') ∧ ChgY Y W W') :=
        ⟨fun W2 vch vle h1 h2 hb => by
         have hG3 := HG2.out.trans (ChgY.of_below hb)
         have hb2 : base0 ≤ w2.heap.size := Nat.le_trans HSUM.out.2.2.2.2.1 (Nat.le_trans HSUM.out.2.2.2.2.2.1 HG2.out.2.2.2.1)
         obtain ⟨A1, c1, rfl, _, _⟩ := Kd.R_reads h1
         obtain ⟨A2, c2, rfl, hc2, hk2⟩ := keepT (Y := Y) h2 hb2 HYT.out
         have := HIH.out rs (chain ++ [(n : Int)]) sl w2 W2 A1 c1 A2 c2 (by have := HSUM.out.2.1; have := HER.out.2.1; omega) (by simp) (by rw [List.length_append, List.length_singleton]; have := HSUM.out.1; have := HER.out.2.1; omega) hb2 HP2.out hb h1 hc2 hk2 (HYA.out.1 W2 hG3).2 (HYA.out.2 W2 hG3).2
         rw [← HCR.out, HBB.out] at this
         exact this⟩
       have hwr : IntKind.i64.wrap ((mm : Int) + 1) = (mm : Int) + 1 := by rw [i64_w]; unfold wrap64; omega
       have hmz : (mm : Int) ≥ 0 := by omega
       clear hltz hcell hbl1
       refine start_ (n := 18) (S := fun w' => w'.cell? ⟨bA, 0, none⟩ = some (.func (.func 35) #[] #[.pointer (some ⟨bE, 0, none⟩), .pointer (some ⟨bA, 0, none⟩)]) ∧ Below w2.heap.size w2 w') (ds := [15]) bIg_0 (by kernel_rfl) rfl rfl ⟨(cell_bY hcA (bD (Below.refl _ _))), (bD (Below.refl _ _))⟩ (fun hHeld => ?_)
       refine pure_ (i := 0) (N := some 31) (v := ?_) (a' := ?_) bIg_1 rfl rfl (by kernel_rfl) (fun _ _ _ h => h) (Or.inl ⟨by rfl, ?_⟩) ?_ ?_
       rotate_left
       ·intro w'
        go_simp
        with_reducible rfl
       rotate_left
       ·simp only [sP]
        rfl
       refine pure_ (i := 1) (N := some 32) (v := ?_) (a' := ?_) bIg_2 rfl rfl (by kernel_rfl) (fun _ _ _ h => h) (Or.inl ⟨by rfl, ?_⟩) ?_ ?_
       rotate_left
       ·intro w'
        go_simp
        with_reducible rfl
       rotate_left
       ·simp only [sP]
        rfl
       refine pure_ (i := 2) (N := some 33) (v := ?_) (a' := ?_) bIg_3 rfl rfl (by kernel_rfl) (fun _ _ _ h => h) (Or.inl ⟨by rfl, ?_⟩) ?_ ?_
       rotate_left
       ·intro w'
        go_simp
        with_reducible rfl
       rotate_left
       ·simp only [sP]
        rfl
       refine pure_ (i := 4) (N := some 35) (v := ?_) (a' := ?_) bIg_19 rfl rfl (by kernel_rfl) (fun _ _ _ h => h) (Or.inl ⟨by rfl, ?_⟩) ?_ ?_
       rotate_left
       ·intro w'
        go_simp
        with_reducible rfl
       rotate_left
       ·simp only [sP]
        rfl
       refine pure_ (i := 6) (N := some 37) (v := ?_) (a' := ?_) bIg_20 rfl rfl (by kernel_rfl) (fun _ _ _ h => h) (Or.inl ⟨by rfl, ?_⟩) ?_ ?_
       rotate_left
       ·intro w'
        go_simp
        with_reducible rfl
       rotate_left
       ·simp only [sP]
        rfl
       refine pure_ (i := 9) (N := some 40) (v := ?_) (a' := ?_) bIg_21 rfl rfl (by kernel_rfl) (fun _ _ _ h => h) (Or.inl ⟨by rfl, ?_⟩) ?_ ?_
       rotate_left
       ·intro w'
        go_simp
        with_reducible rfl
       rotate_left
       ·simp only [sP]
        rfl
       refine pure_ (i := 11) (N := some 42) (v := ?_) (a' := ?_) bIg_22 rfl rfl (by kernel_rfl) (fun _ _ _ h => h) (Or.inl ⟨by rfl, ?_⟩) ?_ ?_
       rotate_left
       ·intro w'
        go_simp
        with_reducible rfl
       rotate_left
       ·simp only [sP]
        rfl
       refine pure_ (i := 12) (N := some 43) (v := ?_) (a' := ?_) bIg_23 rfl rfl (by kernel_rfl) (fun _ _ _ h => h) (Or.inl ⟨by rfl, ?_⟩) ?_ ?_
       rotate_left
       ·intro w'
        go_simp
        with_reducible rfl
       rotate_left
       ·simp only [sP]
        rfl
       refine pure_ (i := 13) (N := some 44) (v := ?_) (a' := ?_) bIg_24 rfl rfl (by kernel_rfl) (fun _ _ _ h => h) (Or.inl ⟨by rfl, ?_⟩) ?_ ?_
       rotate_left
       ·intro w'
        go_simp
        with_reducible rfl
       rotate_left
       ·simp only [sP]
        rfl
       refine take_ (i := 3) (N := some 34) (v := ?_) (a' := ?_) bIg_25 rfl rfl (by kernel_rfl) (fun _ _ _ h => h) (Or.inl ⟨by rfl, ?_⟩) hHeld ?_ ?_
       rotate_left
       ·rintro w' ⟨s0, s1⟩
        go_simp
        with_reducible rfl
       rotate_left
       ·simp only [sP]
        rfl
       refine join_ (σ := Value × Option Addr × Nat) 6 bIg_26 (fun s_ => [(36, s_.1), (38, .slice s_.2.1 1 s_.2.2)]) (fun s_ w' => (w'.cell? ⟨bA, 0, none⟩ = some (.func (.func 35) #[] #[.pointer (some ⟨bE, 0, none⟩), .pointer (some ⟨bA, 0, none⟩)]) ∧ Below w2.heap.size w2 w') ∧ RS w2 chain left rs (n : Int) true true false false false w' s_.1 (.slice s_.2.1 1 s_.2.2) (.slice none 0 0) (.slice none 0 0) (.slice none 0 0)) ?_ ?_
       rotate_left
       ·intro hCont
        refine two_ (i := 5) (j := 7) (Ni := some 36) (Nj := some 38) bIg_27 bIg_28 rfl rfl rfl rfl (by kernel_rfl) (by decide) (by decide) (fun K hK => ?_) (fun K hK => ?_)
        ·skip
         refine goes_ Try.func38 (by kernel_rfl) rfl #[.slice (some adc) (p + 1) cc] (by rfl) rfl rfl (by simp only [List.map_toArray, List.map_cons, List.map_nil]; rfl) ?_
         with_reducible refine (HCLC.out _ hHeld.2).mono ?_
         rintro e x2 ⟨v2, rfl, ho2, hb2⟩
         refine ⟨_, rfl, ?_⟩
         have R2 := aM (RS.clone_c (RS.start (vc := .slice none 0 0) (vl := .slice none 0 0) (va := .slice none 0 0) (vx := .slice none 0 0) (vd := .slice none 0 0) (chain := chain) (left := left) (dl := rs) (o := (n : Int)) hHeld.2) ho2 hb2)
         clear ho2 hb2
         refine hK.out _ _ ⟨(cell_bY hcA R2.out.B), R2.out.B⟩ (fun hHeld => ?_)
         clear hK K
         refine norm_ (a' := ?_) ?_ ?_
         rotate_left
         ·show Act.put _ (some 36) _ = _
          simp only [sP]
          rfl
         refine one_ (i := 7) (N := some 38) bIg_26 rfl rfl (by kernel_rfl) (by decide) (fun K hK => ?_)
         refine value_ (w1 := ?_) (v := ?_) (by rfl) rfl ?_ ?_
         rotate_left 2
         ·go_simp
          constructor
          ·rfl
          ·rfl
         have R6 := aM (RS.lit R2.out)
         refine hK.out _ _ ⟨(cell_bY hcA R6.out.B), R6.out.B⟩ (fun hHeld => ?_)
         clear hK K
         refine norm_ (a' := ?_) ?_ ?_
         rotate_left
         ·show Act.put _ (some 38) _ = _
          simp only [sP]
          rfl
         exact norm_ (by first | (simp only [putAll, Act.put, List.setIfInBounds_toArray, List.set_cons_zero, List.set_cons_succ]; done) | (simp only [putAll, Act.put, List.setIfInBounds_toArray, List.set_cons_zero, List.set_cons_succ]; rfl)) (hCont (v2, _, _) _ ⟨hHeld, R6.out⟩)
        ·skip
         refine value_ (w1 := ?_) (v := ?_) (by rfl) rfl ?_ ?_
         rotate_left 2
         ·go_simp
          constructor
          ·rfl
          ·rfl
         have R6 := aM (RS.lit (RS.start (vc := .slice none 0 0) (vl := .slice none 0 0) (va := .slice none 0 0) (vx := .slice none 0 0) (vd := .slice none 0 0) (chain := chain) (left := left) (dl := rs) (o := (n : Int)) hHeld.2))
         refine hK.out _ _ ⟨(cell_bY hcA R6.out.B), R6.out.B⟩ (fun hHeld => ?_)
         clear hK K
         refine norm_ (a' := ?_) ?_ ?_
         rotate_left
         ·show Act.put _ (some 38) _ = _
          simp only [sP]
          rfl
         refine one_ (i := 5) (N := some 36) bIg_26 rfl rfl (by kernel_rfl) (by decide) (fun K hK => ?_)
         refine goes_ Try.func38 (by kernel_rfl) rfl #[.slice (some adc) (p + 1) cc] (by rfl) rfl rfl (by simp only [List.map_toArray, List.map_cons, List.map_nil]; rfl) ?_
         with_reducible refine (HCLC.out _ hHeld.2).mono ?_
         rintro e x2 ⟨v2, rfl, ho2, hb2⟩
         refine ⟨_, rfl, ?_⟩
         have R2 := aM (RS.clone_c R6.out ho2 hb2)
         clear ho2 hb2
         refine hK.out _ _ ⟨(cell_bY hcA R2.out.B), R2.out.B⟩ (fun hHeld => ?_)
         clear hK K
         refine norm_ (a' := ?_) ?_ ?_
         rotate_left
         ·show Act.put _ (some 36) _ = _
          simp only [sP]
          rfl
         exact norm_ (by first | (simp only [putAll, Act.put, List.setIfInBounds_toArray, List.set_cons_zero, List.set_cons_succ]; done) | (simp only [putAll, Act.put, List.setIfInBounds_toArray, List.set_cons_zero, List.set_cons_succ]; rfl)) (hCont (v2, _, _) _ ⟨hHeld, R2.out⟩)
       rintro ⟨v2, A6, c6⟩ x6 ⟨hS_, hr6⟩
       have R6 : Aside0 (RS w2 chain left rs (n : Int) true true false false false x6 v2 (.slice A6 1 c6) (.slice none 0 0) (.slice none 0 0) (.slice none 0 0)) := ⟨hr6⟩
       clear hr6
       have hHeld : x6.cell? ⟨bA, 0, none⟩ = some (.func (.func 35) #[] #[.pointer (some ⟨bE, 0, none⟩), .pointer (some ⟨bA, 0, none⟩)]) ∧ Below w2.heap.size w2 x6 := hS_
       refine norm_ (a' := ?_) ?_ ?_
       rotate_left
       ·simp only [putAll, Act.put, List.setIfInBounds_toArray, List.set_cons_zero, List.set_cons_succ]
        rfl
       refine one_ (i := 8) (N := some 39) bIg_29 rfl rfl (by kernel_rfl) (by decide) (fun K hK => ?_)
       refine Kd.R_append_rows_step (Kd.int .i64) (w0 := w2) w2.heap.size (by rfl) (.tmp 36) (.tmp 38) 34 3 (.int .i64 0) 8 rfl Try.underlying34 info3 rfl (by decide) (by omega) v2 chain [(n : Int)] _ _ _ (fun k => true = true → some k ≠ (Value.slice A6 1 c6).ownBlock) (fun _ => False) rfl rfl ?aO ?aR (fun _ _ h => h) (fun _ h => h.elim) ?aF ?aB ?aS ?aL ?_
       (case aR => exact (Kd.R_reads' (R6.out.l rfl)).2.2)
       (case aB => exact R6.out.B)
       (case aF => exact fun k hk _ e => by have h1 := Kd.R_lt (R6.out.l rfl) k e.symm; omega)
       (case aO => exact R6.out.c rfl)
       (case aS => exact R6.out.B.size)
       (case aL => have h1 := HSUM.out.1; have h2 : [(n : Int)].length = 1 := rfl; have h3 := HLA.out.2.2; omega)
       intro v7 x7 ho7 hb7 hg7 hat7
       have R7 := aM (RS.app R6.out ho7 hb7 hg7)
       clear ho7 hb7 hg7 hat7
       refine hK.out _ _ ⟨(cell_bY hcA R7.out.B), R7.out.B⟩ (fun hHeld => ?_)
       clear hK K
       refine norm_ (a' := ?_) ?_ ?_
       rotate_left
       ·show Act.put _ (some 39) _ = _
        simp only [sP]
        rfl
       refine one_ (i := 10) (N := some 41) bIg_14 rfl rfl (by kernel_rfl) (by decide) (fun K hK => ?_)
       refine goes_ Try.func40 (by kernel_rfl) rfl #[.slice Al left.length cl] (by rfl) rfl rfl (by simp only [List.map_toArray, List.map_cons, List.map_nil]; rfl) ?_
       with_reducible refine (HCLT.out _ hHeld.2).mono ?_
       rintro e x9 ⟨v9, rfl, ho9, hb9⟩
       refine ⟨_, rfl, ?_⟩
       have R9 := aM (RS.clone_x R7.out ho9 hb9)
       clear ho9 hb9
       refine hK.out _ _ ⟨(cell_bY hcA R9.out.B), R9.out.B⟩ (fun hHeld => ?_)
       clear hK K
       refine norm_ (a' := ?_) ?_ ?_
       rotate_left
       ·show Act.put _ (some 41) _ = _
        simp only [sP]
        rfl
       refine one_ (i := 14) (N := some 45) bIg_15 rfl rfl (by kernel_rfl) (by decide) (fun K hK => ?_)
       refine goes_ Try.func39 (by kernel_rfl) rfl #[v9, .int .i64 (mm : Int), .int .i64 ((mm : Int) + 1)] (by rfl) rfl rfl (by simp only [List.map_toArray, List.map_cons, List.map_nil]; rfl) ?_
       with_reducible refine (HDEL.out _ _ R9.out.B.size (R9.out.x rfl)).mono ?_
       rintro e x13 ⟨v13, rfl, ho13, hb13, hg13⟩
       refine ⟨_, rfl, ?_⟩
       have R13 := aM (RS.del R9.out ho13 hb13 hg13)
       clear ho13 hb13 hg13
       refine hK.out _ _ ⟨(cell_bY hcA R13.out.B), R13.out.B⟩ (fun hHeld => ?_)
       clear hK K
       refine norm_ (a' := ?_) ?_ ?_
       rotate_left
       ·show Act.put _ (some 45) _ = _
        simp only [sP]
        rfl
       refine last_ (i := 15) (N := some 46) bIg_16 rfl rfl (by kernel_rfl) (by decide) (fun K hK => ?_)
       refine call_ 35 #[v7, v13, .pointer (some ⟨bE, 0, none⟩), .pointer (some ⟨bA, 0, none⟩)] (by rfl) rfl ?_ ?_
       ·go_simp
       refine (HREC.out _ _ _ (R13.out.a rfl) (R13.out.d rfl) R13.out.B).mono ?_
       rintro e x14 ⟨rfl, hp14, hg14⟩
       refine ⟨_, rfl, ?_⟩
       have HP14 := aM hp14
       have HG14 := aM ((ChgY.of_below R13.out.B).trans hg14)
       clear hp14 hg14
       refine hK.out _ _ ?_
       clear hK K
       refine norm_ (a' := ?_) ?_ ?_
       rotate_left
       ·show Act.put _ (some 46) _ = _
        simp only [sP]
        rfl
       refine pure_ (i := 16) (N := some 47) (v := ?_) (a' := ?_) bIg_17 rfl rfl (by kernel_rfl) (fun _ _ _ h => h) (Or.inl ⟨by rfl, ?_⟩) ?_ ?_
       rotate_left
       ·intro w'
        go_simp
        with_reducible rfl
       rotate_left
       ·simp only [sP]
        rfl
       refine pure_ (i := 17) (N := some 48) (v := ?_) (a' := ?_) bIg_18 rfl rfl (by kernel_rfl) (fun _ _ _ h => h) (Or.inl ⟨by rfl, ?_⟩) ?_ ?_
       rotate_left
       ·intro w'
        go_simp
        with_reducible rfl
       rotate_left
       ·simp only [sP]
        rfl
       refine done_ (by kernel_rfl) ?_
       have hq2 := HQ2.out
       rw [if_neg (by rw [HBB.out]; decide)] at hq2
       subst hq2
       go_wp2
       go_ret
       first | exact ⟨rfl, HG2.out.trans HG14.out⟩ | exact ⟨rfl, fun e => absurd e (by simp), HG2.out.trans HG14.out⟩
      | true =>
       have HBB := aM hb
       clear hb
       go_wp2_with (first | (go_at_call 37; refine (HTILE.out _).mono ?_; rintro e w1_ ⟨rfl, hb1⟩; have HB1 := aM hb1; clear hb1) | (go_at_call 36; refine (HIDX.out _ HB1.out).mono ?_; rintro e w2 ⟨rfl, hb2⟩; have HB2 := aM (below_then HB1.out HB1.out.size hb2); clear hb2))
       have HG2 := aM (HG.out.trans (ChgY.of_below HB2.out))
       have HP2 := aM (HPP.out _ _ _ HPL.out HB2.out)
       have hcA := (HYA.out.2 w2 HG2.out).1
       have HCLC : Aside0 (∀ W, Below w2.heap.size w2 W → Calls Try.prog 38 #[.slice (some adc) (p + 1) cc] W fun e w' => ∃ v0_ : Value, e = .returned (v0_) ∧ Kd.R (Kd.int .i64) 3 w' W.heap.size (fun _ => True) v0_ chain ∧ Below W.heap.size W w') :=
        ⟨fun W hb => by
         have := slices_Clone_int.calls (some adc) cc chain chain W (HKI.out W (HG2.out.trans (ChgY.of_below hb))) HSUM.out.2.2.1 (by unfold slices_Clone_int.f; rw [if_pos (by have := HLA.out.2.2; omega)])
         rw [HLA.out.2.2] at this; exact this⟩
       have HCLT : Aside0 (∀ W, Below w2.heap.size w2 W → Calls Try.prog 40 #[.slice Al left.length cl] W fun e w' => ∃ v0_ : Value, e = .returned (v0_) ∧ Kd.R k45 45 w' W.heap.size (fun _ => True) v0_ left ∧ Below W.heap.size W w') :=
        ⟨fun W hb => slices_Clone_Tile.calls Al cl left left W (HT.out W (HG2.out.trans (ChgY.of_below hb))) HSUM.out.2.2.2.1 (by unfold slices_Clone_Tile.f; rw [if_pos (by have := HSUM.out.1; have := HSUM.out.2.2.2.2.2.2; omega)])⟩
       have HDEL : Aside0 (∀ (W : World) (v : Value), w2.heap.size ≤ W.heap.size → Kd.R k45 45 W w2.heap.size (fun _ => True) v left → Calls Try.prog 39 #[v, .int .i64 (mm : Int), .int .i64 ((mm : Int) + 1)] W fun e w' => ∃ v', e = .returned v' ∧ Kd.R k45 45 w' w2.heap.size (fun _ => True) v' rs ∧ Below w2.heap.size W w' ∧ W.grownBy w' v.ownBlock) :=
        ⟨fun W v hB ho => by rw [← HER.out.1]; exact slices_Delete_Tile.gcallsG w2.heap.size (fun _ => True) v left mm W hB ho HER.out.2.2⟩
       have HREC : Aside0 (∀ (W : World) (vch vle : Value), Kd.R (Kd.int .i64) 3 W w2.heap.size (fun _ => True) vch (chain ++ [(n : Int)]) → Kd.R k45 45 W w2.heap.size (fun _ => True) vle rs → Below w2.heap.size w2 W → Calls Try.prog 35 #[vch, vle, .pointer (some ⟨bE, 0, none⟩), .pointer (some ⟨bA, 0, none⟩)] W fun e W' => e = .returned (.bool true) ∧ (true = true → P cr.1 W') ∧ ChgY Y W W') :=
        ⟨fun W2 vch vle h1 h2 hb => by
         have hG3 := HG2.out.trans (ChgY.of_below hb)
         have hb2 : base0 ≤ w2.heap.size := Nat.le_trans HSUM.out.2.2.2.2.1 (Nat.le_trans HSUM.out.2.2.2.2.2.1 HG2.out.2.2.2.1)
         obtain ⟨A1, c1, rfl, _, _⟩ := Kd.R_reads h1
         obtain ⟨A2, c2, rfl, hc2, hk2⟩ := keepT (Y := Y) h2 hb2 HYT.out
         have := HIH.out rs (chain ++ [(n : Int)]) sl w2 W2 A1 c1 A2 c2 (by have := HSUM.out.2.1; have := HER.out.2.1; omega) (by simp) (by rw [List.length_append, List.length_singleton]; have := HSUM.out.1; have := HER.out.2.1; omega) hb2 HP2.out hb h1 hc2 hk2 (HYA.out.1 W2 hG3).2 (HYA.out.2 W2 hG3).2
         rw [← HCR.out, HBB.out] at this
         exact this⟩
       have hwr : IntKind.i64.wrap ((mm : Int) + 1) = (mm : Int) + 1 := by rw [i64_w]; unfold wrap64; omega
       have hmz : (mm : Int) ≥ 0 := by omega
       clear hltz hcell hbl1
       refine start_ (n := 18) (S := fun w' => w'.cell? ⟨bA, 0, none⟩ = some (.func (.func 35) #[] #[.pointer (some ⟨bE, 0, none⟩), .pointer (some ⟨bA, 0, none⟩)]) ∧ Below w2.heap.size w2 w') (ds := [15]) bIg_0 (by kernel_rfl) rfl rfl ⟨(cell_bY hcA (bD (Below.refl _ _))), (bD (Below.refl _ _))⟩ (fun hHeld => ?_)
       refine pure_ (i := 0) (N := some 31) (v := ?_) (a' := ?_) bIg_1 rfl rfl (by kernel_rfl) (fun _ _ _ h => h) (Or.inl ⟨by rfl, ?_⟩) ?_ ?_
       rotate_left
       ·intro w'
        go_simp
        with_reducible rfl
       rotate_left
       ·simp only [sP]
        rfl
       refine pure_ (i := 1) (N := some 32) (v := ?_) (a' := ?_) bIg_2 rfl rfl (by kernel_rfl) (fun _ _ _ h => h) (Or.inl ⟨by rfl, ?_⟩) ?_ ?_
       rotate_left
       ·intro w'
        go_simp
        with_reducible rfl
       rotate_left
       ·simp only [sP]
        rfl
       refine pure_ (i := 2) (N := some 33) (v := ?_) (a' := ?_) bIg_3 rfl rfl (by kernel_rfl) (fun _ _ _ h => h) (Or.inl ⟨by rfl, ?_⟩) ?_ ?_
       rotate_left
       ·intro w'
        go_simp
        with_reducible rfl
       rotate_left
       ·simp only [sP]
        rfl
       refine pure_ (i := 4) (N := some 35) (v := ?_) (a' := ?_) bIg_19 rfl rfl (by kernel_rfl) (fun _ _ _ h => h) (Or.inl ⟨by rfl, ?_⟩) ?_ ?_
       rotate_left
       ·intro w'
        go_simp
        with_reducible rfl
       rotate_left
       ·simp only [sP]
        rfl
       refine pure_ (i := 6) (N := some 37) (v := ?_) (a' := ?_) bIg_20 rfl rfl (by kernel_rfl) (fun _ _ _ h => h) (Or.inl ⟨by rfl, ?_⟩) ?_ ?_
       rotate_left
       ·intro w'
        go_simp
        with_reducible rfl
       rotate_left
       ·simp only [sP]
        rfl
       refine pure_ (i := 9) (N := some 40) (v := ?_) (a' := ?_) bIg_21 rfl rfl (by kernel_rfl) (fun _ _ _ h => h) (Or.inl ⟨by rfl, ?_⟩) ?_ ?_
       rotate_left
       ·intro w'
        go_simp
        with_reducible rfl
       rotate_left
       ·simp only [sP]
        rfl
       refine pure_ (i := 11) (N := some 42) (v := ?_) (a' := ?_) bIg_22 rfl rfl (by kernel_rfl) (fun _ _ _ h => h) (Or.inl ⟨by rfl, ?_⟩) ?_ ?_
       rotate_left
       ·intro w'
        go_simp
        with_reducible rfl
       rotate_left
       ·simp only [sP]
        rfl
       refine pure_ (i := 12) (N := some 43) (v := ?_) (a' := ?_) bIg_23 rfl rfl (by kernel_rfl) (fun _ _ _ h => h) (Or.inl ⟨by rfl, ?_⟩) ?_ ?_
       rotate_left
       ·intro w'
        go_simp
        with_reducible rfl
       rotate_left
       ·simp only [sP]
        rfl
       refine pure_ (i := 13) (N := some 44) (v := ?_) (a' := ?_) bIg_24 rfl rfl (by kernel_rfl) (fun _ _ _ h => h) (Or.inl ⟨by rfl, ?_⟩) ?_ ?_
       rotate_left
       ·intro w'
        go_simp
        with_reducible rfl
       rotate_left
       ·simp only [sP]
        rfl
       refine take_ (i := 3) (N := some 34) (v := ?_) (a' := ?_) bIg_25 rfl rfl (by kernel_rfl) (fun _ _ _ h => h) (Or.inl ⟨by rfl, ?_⟩) hHeld ?_ ?_
       rotate_left
       ·rintro w' ⟨s0, s1⟩
        go_simp
        with_reducible rfl
       rotate_left
       ·simp only [sP]
        rfl
       refine join_ (σ := Value × Option Addr × Nat) 6 bIg_26 (fun s_ => [(36, s_.1), (38, .slice s_.2.1 1 s_.2.2)]) (fun s_ w' => (w'.cell? ⟨bA, 0, none⟩ = some (.func (.func 35) #[] #[.pointer (some ⟨bE, 0, none⟩), .pointer (some ⟨bA, 0, none⟩)]) ∧ Below w2.heap.size w2 w') ∧ RS w2 chain left rs (n : Int) true true false false false w' s_.1 (.slice s_.2.1 1 s_.2.2) (.slice none 0 0) (.slice none 0 0) (.slice none 0 0)) ?_ ?_
       rotate_left
       ·intro hCont
        refine two_ (i := 5) (j := 7) (Ni := some 36) (Nj := some 38) bIg_27 bIg_28 rfl rfl rfl rfl (by kernel_rfl) (by decide) (by decide) (fun K hK => ?_) (fun K hK => ?_)
        ·skip
         refine goes_ Try.func38 (by kernel_rfl) rfl #[.slice (some adc) (p + 1) cc] (by rfl) rfl rfl (by simp only [List.map_toArray, List.map_cons, List.map_nil]; rfl) ?_
         with_reducible refine (HCLC.out _ hHeld.2).mono ?_
         rintro e x2 ⟨v2, rfl, ho2, hb2⟩
         refine ⟨_, rfl, ?_⟩
         have R2 := aM (RS.clone_c (RS.start (vc := .slice none 0 0) (vl := .slice none 0 0) (va := .slice none 0 0) (vx := .slice none 0 0) (vd := .slice none 0 0) (chain := chain) (left := left) (dl := rs) (o := (n : Int)) hHeld.2) ho2 hb2)
         clear ho2 hb2
         refine hK.out _ _ ⟨(cell_bY hcA R2.out.B), R2.out.B⟩ (fun hHeld => ?_)
         clear hK K
         refine norm_ (a' := ?_) ?_ ?_
         rotate_left
         ·show Act.put _ (some 36) _ = _
          simp only [sP]
          rfl
         refine one_ (i := 7) (N := some 38) bIg_26 rfl rfl (by kernel_rfl) (by decide) (fun K hK => ?_)
         refine value_ (w1 := ?_) (v := ?_) (by rfl) rfl ?_ ?_
         rotate_left 2
         ·go_simp
          constructor
          ·rfl
          ·rfl
         have R6 := aM (RS.lit R2.out)
         refine hK.out _ _ ⟨(cell_bY hcA R6.out.B), R6.out.B⟩ (fun hHeld => ?_)
         clear hK K
         refine norm_ (a' := ?_) ?_ ?_
         rotate_left
         ·show Act.put _ (some 38) _ = _
          simp only [sP]
          rfl
         exact norm_ (by first | (simp only [putAll, Act.put, List.setIfInBounds_toArray, List.set_cons_zero, List.set_cons_succ]; done) | (simp only [putAll, Act.put, List.setIfInBounds_toArray, List.set_cons_zero, List.set_cons_succ]; rfl)) (hCont (v2, _, _) _ ⟨hHeld, R6.out⟩)
        ·skip
         refine value_ (w1 := ?_) (v := ?_) (by rfl) rfl ?_ ?_
         rotate_left 2
         ·go_simp
          constructor
          ·rfl
          ·rfl
         have R6 := aM (RS.lit (RS.start (vc := .slice none 0 0) (vl := .slice none 0 0) (va := .slice none 0 0) (vx := .slice none 0 0) (vd := .slice none 0 0) (chain := chain) (left := left) (dl := rs) (o := (n : Int)) hHeld.2))
         refine hK.out _ _ ⟨(cell_bY hcA R6.out.B), R6.out.B⟩ (fun hHeld => ?_)
         clear hK K
         refine norm_ (a' := ?_) ?_ ?_
         rotate_left
         ·show Act.put _ (some 38) _ = _
          simp only [sP]
          rfl
         refine one_ (i := 5) (N := some 36) bIg_26 rfl rfl (by kernel_rfl) (by decide) (fun K hK => ?_)
         refine goes_ Try.func38 (by kernel_rfl) rfl #[.slice (some adc) (p + 1) cc] (by rfl) rfl rfl (by simp only [List.map_toArray, List.map_cons, List.map_nil]; rfl) ?_
         with_reducible refine (HCLC.out _ hHeld.2).mono ?_
         rintro e x2 ⟨v2, rfl, ho2, hb2⟩
         refine ⟨_, rfl, ?_⟩
         have R2 := aM (RS.clone_c R6.out ho2 hb2)
         clear ho2 hb2
         refine hK.out _ _ ⟨(cell_bY hcA R2.out.B), R2.out.B⟩ (fun hHeld => ?_)
         clear hK K
         refine norm_ (a' := ?_) ?_ ?_
         rotate_left
         ·show Act.put _ (some 36) _ = _
          simp only [sP]
          rfl
         exact norm_ (by first | (simp only [putAll, Act.put, List.setIfInBounds_toArray, List.set_cons_zero, List.set_cons_succ]; done) | (simp only [putAll, Act.put, List.setIfInBounds_toArray, List.set_cons_zero, List.set_cons_succ]; rfl)) (hCont (v2, _, _) _ ⟨hHeld, R2.out⟩)
       rintro ⟨v2, A6, c6⟩ x6 ⟨hS_, hr6⟩
       have R6 : Aside0 (RS w2 chain left rs (n : Int) true true false false false x6 v2 (.slice A6 1 c6) (.slice none 0 0) (.slice none 0 0) (.slice none 0 0)) := ⟨hr6⟩
       clear hr6
       have hHeld : x6.cell? ⟨bA, 0, none⟩ = some (.func (.func 35) #[] #[.pointer (some ⟨bE, 0, none⟩), .pointer (some ⟨bA, 0, none⟩)]) ∧ Below w2.heap.size w2 x6 := hS_
       refine norm_ (a' := ?_) ?_ ?_
       rotate_left
       ·simp only [putAll, Act.put, List.setIfInBounds_toArray, List.set_cons_zero, List.set_cons_succ]
        rfl
       refine one_ (i := 8) (N := some 39) bIg_29 rfl rfl (by kernel_rfl) (by decide) (fun K hK => ?_)
       refine Kd.R_append_rows_step (Kd.int .i64) (w0 := w2) w2.heap.size (by rfl) (.tmp 36) (.tmp 38) 34 3 (.int .i64 0) 8 rfl Try.underlying34 info3 rfl (by decide) (by omega) v2 chain [(n : Int)] _ _ _ (fun k => true = true → some k ≠ (Value.slice A6 1 c6).ownBlock) (fun _ => False) rfl rfl ?aO ?aR (fun _ _ h => h) (fun _ h => h.elim) ?aF ?aB ?aS ?aL ?_
       (case aR => exact (Kd.R_reads' (R6.out.l rfl)).2.2)
       (case aB => exact R6.out.B)
       (case aF => exact fun k hk _ e => by have h1 := Kd.R_lt (R6.out.l rfl) k e.symm; omega)
       (case aO => exact R6.out.c rfl)
       (case aS => exact R6.out.B.size)
       (case aL => have h1 := HSUM.out.1; have h2 : [(n : Int)].length = 1 := rfl; have h3 := HLA.out.2.2; omega)
       intro v7 x7 ho7 hb7 hg7 hat7
       have R7 := aM (RS.app R6.out ho7 hb7 hg7)
       clear ho7 hb7 hg7 hat7
       refine hK.out _ _ ⟨(cell_bY hcA R7.out.B), R7.out.B⟩ (fun hHeld => ?_)
       clear hK K
       refine norm_ (a' := ?_) ?_ ?_
       rotate_left
       ·show Act.put _ (some 39) _ = _
        simp only [sP]
        rfl
       refine one_ (i := 10) (N := some 41) bIg_14 rfl rfl (by kernel_rfl) (by decide) (fun K hK => ?_)
       refine goes_ Try.func40 (by kernel_rfl) rfl #[.slice Al left.length cl] (by rfl) rfl rfl (by simp only [List.map_toArray, List.map_cons, List.map_nil]; rfl) ?_
       with_reducible refine (HCLT.out _ hHeld.2).mono ?_
       rintro e x9 ⟨v9, rfl, ho9, hb9⟩
       refine ⟨_, rfl, ?_⟩
       have R9 := aM (RS.clone_x R7.out ho9 hb9)
       clear ho9 hb9
       refine hK.out _ _ ⟨(cell_bY hcA R9.out.B), R9.out.B⟩ (fun hHeld => ?_)
       clear hK K
       refine norm_ (a' := ?_) ?_ ?_
       rotate_left
       ·show Act.put _ (some 41) _ = _
        simp only [sP]
        rfl
       refine one_ (i := 14) (N := some 45) bIg_15 rfl rfl (by kernel_rfl) (by decide) (fun K hK => ?_)
       refine goes_ Try.func39 (by kernel_rfl) rfl #[v9, .int .i64 (mm : Int), .int .i64 ((mm : Int) + 1)] (by rfl) rfl rfl (by simp only [List.map_toArray, List.map_cons, List.map_nil]; rfl) ?_
       with_reducible refine (HDEL.out _ _ R9.out.B.size (R9.out.x rfl)).mono ?_
       rintro e x13 ⟨v13, rfl, ho13, hb13, hg13⟩
       refine ⟨_, rfl, ?_⟩
       have R13 := aM (RS.del R9.out ho13 hb13 hg13)
       clear ho13 hb13 hg13
       refine hK.out _ _ ⟨(cell_bY hcA R13.out.B), R13.out.B⟩ (fun hHeld => ?_)
       clear hK K
       refine norm_ (a' := ?_) ?_ ?_
       rotate_left
       ·show Act.put _ (some 45) _ = _
        simp only [sP]
        rfl
       refine last_ (i := 15) (N := some 46) bIg_16 rfl rfl (by kernel_rfl) (by decide) (fun K hK => ?_)
       refine call_ 35 #[v7, v13, .pointer (some ⟨bE, 0, none⟩), .pointer (some ⟨bA, 0, none⟩)] (by rfl) rfl ?_ ?_
       ·go_simp
       refine (HREC.out _ _ _ (R13.out.a rfl) (R13.out.d rfl) R13.out.B).mono ?_
       rintro e x14 ⟨rfl, hp14, hg14⟩
       refine ⟨_, rfl, ?_⟩
       have HP14 := aM hp14
       have HG14 := aM ((ChgY.of_below R13.out.B).trans hg14)
       clear hp14 hg14
       refine hK.out _ _ ?_
       clear hK K
       refine norm_ (a' := ?_) ?_ ?_
       rotate_left
       ·show Act.put _ (some 46) _ = _
        simp only [sP]
        rfl
       refine pure_ (i := 16) (N := some 47) (v := ?_) (a' := ?_) bIg_17 rfl rfl (by kernel_rfl) (fun _ _ _ h => h) (Or.inl ⟨by rfl, ?_⟩) ?_ ?_
       rotate_left
       ·intro w'
        go_simp
        with_reducible rfl
       rotate_left
       ·simp only [sP]
        rfl
       refine pure_ (i := 17) (N := some 48) (v := ?_) (a' := ?_) bIg_18 rfl rfl (by kernel_rfl) (fun _ _ _ h => h) (Or.inl ⟨by rfl, ?_⟩) ?_ ?_
       rotate_left
       ·intro w'
        go_simp
        with_reducible rfl
       rotate_left
       ·simp only [sP]
        rfl
       refine done_ (by kernel_rfl) ?_
       have hltz : (n : Int) < 10 := by omega
       go_wp2
       go_roundg (10 - (n + 1))
       case measure => omega
       case rel => exact ⟨n + 1, cr.1, by go_num, by omega, Nat.le_refl _, ⟨by first | exact HP14.out rfl | exact HP14.out trivial⟩, ⟨HG2.out.trans HG14.out⟩, ⟨by rw [HQ2.out, if_pos HBB.out]⟩⟩
    ·obtain rfl : n = 10 := by omega
     have hltz : ¬ ((10 : Nat) : Int) < 10 := by omega
     have hq := HQ.out
     rw [List.drop_of_length_le (by simp), seqB] at hq
     subst hq
     go_wp2
     go_ret
     first | exact ⟨rfl, HPL.out, HG.out⟩ | exact ⟨rfl, fun _ => HPL.out, HG.out⟩

end Go.Proofs.Ytdklmjpimgeejaa.P
