-- Printed by a program of this session (wip/myprint.py, which drives the kit's print): what one function of the program does, and the proof that its call does so.
import Derived.BigQuiet
import Derived.BigRegion
import Derived.ChangeKeysEq
import Derived.Deep.Cut
import Derived.Deep.CutRange
import Derived.Deep.RegionHeld3
import Derived.Deep.RegionLaw
import Derived.Deep.RegionWith
import Derived.Lib.SliceRun
import Derived.RegionTactic
import Derived.WalkSpells
import Derived.Test.YtdklmjpimgeejaaP0
import Derived.Test.YtdklmjpimgeejaaPIg
import Derived.Test.YtdklmjpimgeejaaPIy
import Derived.Test.YtdklmjpimgeejaaPSa
import Derived.Test.YtdklmjpimgeejaaPspecl1Own
namespace Go.Proofs.Ytdklmjpimgeejaa.P
open Go.RowKit Go.Proofs.YtdklmjpimgeejaaW.PrintWords Go.Proofs.YtdklmjpimgeejaaW.PrintLast Go.Proofs.YtdklmjpimgeejaaW.PrintMore
attribute [local go_sem] max2_int min2_int max_two min_two max_three min_three max_four min_four   -- for this text's walks alone
set_option linter.unusedVariables false
set_option linter.unusedSimpArgs false

/-! ### spec_haLook_look: function 33: written by hand -/
theorem idxOf_first : ∀ (l : List S45) (i : Nat) (t : S45), l[i]? = some t → (∀ j, j < i → ∀ x, l[j]? = some x → x ≠ t) → l.idxOf t = i
 | [], i, t, h, _ => by simp at h
 | x :: l, 0, t, h, _ => by
  obtain rfl : x = t := by simpa using h
  exact List.idxOf_cons_self
 | x :: l, i + 1, t, h, hb => by
  have hx : x ≠ t := hb 0 (by omega) x rfl
  rw [List.idxOf_cons, show (x == t) = false from by simpa using hx, cond_false, idxOf_first l i t (by simpa using h) (fun j hj y hy => hb (j + 1) (by omega) y (by simpa using hy))]
theorem place_loop (l : List S45) (hl : l.length ≤ 1000) (t : S45) : ∀ (d i k : Nat), i + d = l.length → d + 1 ≤ k → (∀ j, j < i → ∀ x, l[j]? = some x → x ≠ t) → ∃ r : Int, spec_tiPlace.l0 k l (l.length : Int) (i : Int) t.f0 t.f1 = some r ∧ ((r = -1 ∧ t ∉ l) ∨ ∃ m : Nat, r = m ∧ m < l.length ∧ t ∈ l ∧ l.idxOf t = m) := by
 intro d
 induction d with
 | zero =>
  intro i k hi hk hb
  obtain ⟨k, rfl⟩ : ∃ m, k = m + 1 := ⟨k - 1, by omega⟩
  refine ⟨-1, by simp only [spec_tiPlace.l0]; rw [if_neg (by omega)], .inl ⟨rfl, fun hm => ?_⟩⟩
  obtain ⟨j, hj⟩ := List.getElem?_of_mem hm
  have := (List.getElem?_eq_some_iff.1 hj).1
  exact hb j (by omega) t hj rfl
 | succ d ih =>
  intro i k hi hk hb
  obtain ⟨k, rfl⟩ : ∃ m, k = m + 1 := ⟨k - 1, by omega⟩
  obtain ⟨x, hx⟩ : ∃ x, l[i]? = some x := ⟨_, List.getElem?_eq_getElem (by omega)⟩
  have hrd : rd_T45 l (i : Int) = x := by
   show l.getD (i : Int).toNat _ = x
   rw [Int.toNat_natCast, List.getD_eq_getElem?_getD, hx]; rfl
  have hw : wrap64 ((i : Int) + 1) = ((i + 1 : Nat) : Int) := by unfold wrap64; omega
  by_cases c : t = x
  ·subst c
   refine ⟨(i : Int), ?_, .inr ⟨i, rfl, by omega, List.mem_of_getElem? hx, idxOf_first l i t hx hb⟩⟩
   simp only [spec_tiPlace.l0]
   rw [if_pos (by omega), if_pos (by omega), if_pos (by omega), hrd, if_pos (by simp)]
  ·obtain ⟨r, h1, h2⟩ := ih (i + 1) k (by omega) (by omega) (fun j hj y hy => by
    by_cases e : j = i
    ·subst e; rw [hx] at hy; cases hy; exact fun e => c e.symm
    ·exact hb j (by omega) y hy)
   refine ⟨r, ?_, h2⟩
   simp only [spec_tiPlace.l0]
   rw [if_pos (by omega), if_pos (by omega), if_pos (by omega), hrd, if_neg (fun e => c (by rw [Bool.and_eq_true, beq_iff_eq, beq_iff_eq] at e; cases t; cases x; simp only at e; rw [e.1, e.2])), hw]
   exact h1
theorem placeT_k (l : List S45) (hl : l.length ≤ 1000) (t : S45) : ∃ r : Int, spec_tiPlace.f 2000 l t.f0 t.f1 = some r ∧ ((r = -1 ∧ t ∉ l) ∨ ∃ m : Nat, r = m ∧ m < l.length ∧ t ∈ l ∧ l.idxOf t = m) :=
 place_loop l hl t l.length 0 2000 (by omega) (by omega) (fun j hj => absurd hj (Nat.not_lt_zero _))
theorem tiOf_fw (a b : Int) : spec_tiOf.f a b = some ((fwTile a b).f0, (fwTile a b).f1) := by
 unfold spec_tiOf.f spec_l1Least.f spec_l1Most.f fwTile mn mx
 rcases Int.lt_trichotomy a b with h | h | h
 ·simp [h, show ¬ b < a by omega, show ¬ a > b by omega]
 ·subst h; simp
 ·simp [h, show ¬ a < b by omega]
/-- What the reference keeps while it looks at chains. -/
structure LkS where
 cnt : Int
 cs : List Int
 lst : List (List Int)
 lng : List Int
def lkA (chain : List Int) (s : LkS) : LkS := if chain.length > s.lng.length then { s with lng := chain } else s
def lkB (chain : List Int) (s : LkS) : LkS := if chain.length > 1 then { s with cs := upAt s.cs (chain.length - 2) } else s
def lkC (most : Int) (chain : List Int) (s : LkS) : LkS := { s with cnt := wrap64 (s.cnt + 1), lst := if (s.lst.length : Int) ≤ most then s.lst ++ [chain] else s.lst }
def lookV (hand : List S45) (most : Int) : Nat → List Int → List Bool → LkS → LkS
 | 0, _, _, s => s
 | m + 1, chain, used, s => if chain.length = hand.length + 1 then lkC most chain (lkB chain (lkA chain s)) else
  (List.range 10).foldl (fun s (n : Nat) => if fwTile (chain.getLast?.getD 0) (n : Int) ∈ hand ∧ used.getD (hand.idxOf (fwTile (chain.getLast?.getD 0) (n : Int))) false = false then lookV hand most m (chain ++ [(n : Int)]) (used.set (hand.idxOf (fwTile (chain.getLast?.getD 0) (n : Int))) true) s else s) (lkB chain (lkA chain s))
/-- What may change: the state's block, its counts, the marks, and rows of rows. -/
def YL (base g gC gU k : Nat) (o : Option Obj) : Prop := base ≤ k ∧ (k = g ∨ k = gC ∨ k = gU ∨ ∃ cur fr, o = some (.cells cur 34 fr))
/-- A block of marks. -/
def rowB (w : World) (g cap : Nat) (m : List Bool) : Prop :=
 ∃ cur : Array Value, w.heap[g]? = some (.cells cur 4 (0, 0)) ∧ cur.size = cap ∧ m.length ≤ cap ∧ ∀ (i : Nat) (x : Bool), m[i]? = some x → cur[i]? = some (Value.bool x)
theorem rowB_below {w w' : World} {g cap : Nat} {m : List Bool} (h : rowB w g cap m) (hb : Below w.heap.size w w') : rowB w' g cap m := by
 obtain ⟨cur, h1, h2⟩ := h
 exact ⟨cur, (hb.block g (lt_heapY h1)).trans h1, h2⟩
theorem rowB_at {w : World} {g cap : Nat} {m : List Bool} (h : rowB w g cap m) (i : Nat) (x : Bool) (hx : m[i]? = some x) : w.cell? ⟨g, i, none⟩ = some (.bool x) ∧ w.frozen? ⟨g, i, none⟩ = false := by
 obtain ⟨cur, h1, h2, h3, h4⟩ := h
 refine ⟨?_, by simp [World.frozen?, h1]⟩
 simp only [World.cell?, h1]; simpa using h4 i x hx
theorem rowB_set {w : World} {g cap : Nat} {m : List Bool} (h : rowB w g cap m) (i : Nat) (x : Bool) : rowB (w.setCell ⟨g, i, none⟩ (.bool x)) g cap (m.set i x) := by
 obtain ⟨cur, h1, h2, h3, h4⟩ := h
 refine ⟨_, heap_setCell_at h1, by simp [h2], by simpa using h3, fun j y hy => ?_⟩
 by_cases e : j = i
 ·subst e
  have hlt : j < m.length := by have := (List.getElem?_eq_some_iff.1 hy).1; simpa using this
  rw [List.getElem?_set_self hlt] at hy
  cases hy
  rw [Array.getElem?_setIfInBounds_self_of_lt (by omega)]
 ·rw [List.getElem?_set_ne (fun e2 => e e2.symm)] at hy
  rw [Array.getElem?_setIfInBounds_ne (fun e2 => e e2.symm)]
  exact h4 j y hy
theorem rowB_far {w : World} {g cap : Nat} {m : List Bool} (h : rowB w g cap m) {p : Addr} (hp : g ≠ p.block) (u : Value) : rowB (w.setCell p u) g cap m := by
 obtain ⟨cur, h1, h2⟩ := h
 exact ⟨cur, (Below.heap_setCell w p u g hp).trans h1, h2⟩
theorem rowI_far {w : World} {g cap : Nat} {m : List Int} (h : rowI w g cap m) {p : Addr} (hp : g ≠ p.block) (u : Value) : rowI (w.setCell p u) g cap m := by
 obtain ⟨cur, h1, h2⟩ := h
 exact ⟨cur, (Below.heap_setCell w p u g hp).trans h1, h2⟩
theorem ChgY.setCell {Y : Nat → Option Obj → Prop} {W : World} (p : Addr) (u : Value) (hY : ∀ o, Y p.block o) : ChgY Y W (W.setCell p u) :=
 ⟨rfl, rfl, rfl, by simp [World.setCell], fun k hk hn => Below.heap_setCell W p u k (fun e => hn (by rw [e]; exact hY _))⟩
/-- The reference's state in memory. -/
structure LkAt (hl : Nat) (most : Int) (Ah : Option Addr) (ch g gC capC base : Nat) (s : LkS) (W : World) (vl vg : Value) : Prop where
 G : W.heap[g]? = some (.cells #[.slice Ah hl ch, .int .i64 most, .int .i64 s.cnt, .slice (some ⟨gC, 0, none⟩) hl capC, vl, vg] 43 (0, 0))
 C : rowI W gC capC s.cs
 L : Kd.S (Kd.slice 3 (Kd.int .i64)) 34 W base (fun k => k ≠ gC) vl s.lst
 R : Kd.R (Kd.int .i64) 3 W base (fun k => k ≠ gC) vg s.lng
section
variable {hl : Nat} {most : Int} {Ah : Option Addr} {ch g gC capC base : Nat} {s : LkS} {W W' : World} {vl vg v : Value}
theorem LkAt.ne (h : LkAt hl most Ah ch g gC capC base s W vl vg) : g ≠ gC := fun e => by
 obtain ⟨cur, h1, _⟩ := h.C
 have := h.G
 rw [e, h1] at this
 cases this
theorem LkAt.below (h : LkAt hl most Ah ch g gC capC base s W vl vg) (hb : Below W.heap.size W W') : LkAt hl most Ah ch g gC capC base s W' vl vg :=
 ⟨(hb.block _ (lt_heapY h.G)).trans h.G, rowI_below h.C hb, Kd.S_below h.L hb, Kd.R_below h.R hb⟩
theorem LkAt.cells (h : LkAt hl most Ah ch g gC capC base s W vl vg) : (W.cell? ⟨g, 0, none⟩ = some (.slice Ah hl ch) ∧ W.cell? ⟨g, 1, none⟩ = some (.int .i64 most) ∧ W.cell? ⟨g, 2, none⟩ = some (.int .i64 s.cnt) ∧ W.cell? ⟨g, 3, none⟩ = some (.slice (some ⟨gC, 0, none⟩) hl capC) ∧ W.cell? ⟨g, 4, none⟩ = some vl ∧ W.cell? ⟨g, 5, none⟩ = some vg) ∧ (∀ j, W.frozen? ⟨g, j, none⟩ = false) := by
 refine ⟨⟨?_, ?_, ?_, ?_, ?_, ?_⟩, fun j => by simp [World.frozen?, h.G]⟩ <;> (simp only [World.cell?, h.G]; rfl)
theorem LkAt.setLng (h : LkAt hl most Ah ch g gC capC base s W vl vg) {l : List Int} (hR : Kd.R (Kd.int .i64) 3 W base (fun k => k ≠ gC) v l) : LkAt hl most Ah ch g gC capC base { s with lng := l } (W.setCell ⟨g, 5, none⟩ v) vl v :=
 ⟨by rw [heap_setCell_at h.G]; rfl, rowI_far h.C h.ne.symm _, Kd.S_set h.L h.G (by decide) 5 _, Kd.R_set hR h.G (by decide) 5 _⟩
theorem LkAt.setCnt (h : LkAt hl most Ah ch g gC capC base s W vl vg) (c : Int) : LkAt hl most Ah ch g gC capC base { s with cnt := c } (W.setCell ⟨g, 2, none⟩ (.int .i64 c)) vl vg :=
 ⟨by rw [heap_setCell_at h.G]; rfl, rowI_far h.C h.ne.symm _, Kd.S_set h.L h.G (by decide) 2 _, Kd.R_set h.R h.G (by decide) 2 _⟩
theorem LkAt.setLst (h : LkAt hl most Ah ch g gC capC base s W vl vg) {l : List (List Int)} (hS : Kd.S (Kd.slice 3 (Kd.int .i64)) 34 W base (fun k => k ≠ gC) v l) : LkAt hl most Ah ch g gC capC base { s with lst := l } (W.setCell ⟨g, 4, none⟩ v) v vg :=
 ⟨by rw [heap_setCell_at h.G]; rfl, rowI_far h.C h.ne.symm _, Kd.S_set hS h.G (by decide) 4 _, Kd.R_set h.R h.G (by decide) 4 _⟩
theorem LkAt.setC (h : LkAt hl most Ah ch g gC capC base s W vl vg) (j : Nat) (c : Int) (hj : j < s.cs.length) : LkAt hl most Ah ch g gC capC base { s with cs := s.cs.set j c } (W.setCell ⟨gC, j, none⟩ (.int .i64 c)) vl vg :=
 ⟨(Below.heap_setCell W _ _ g h.ne).trans h.G, rowI_set h.C j c hj, Kd.S_far h.L (p := ⟨gC, j, none⟩) (fun k hk => hk) _, Kd.R_far h.R (p := ⟨gC, j, none⟩) (fun k hk => hk) _⟩
theorem LkAt.setU (h : LkAt hl most Ah ch g gC capC base s W vl vg) {gU capU : Nat} {used : List Bool} (hU : rowB W gU capU used) (j : Nat) : LkAt hl most Ah ch g gC capC base s (W.setCell ⟨gU, j, none⟩ v) vl vg := by
 obtain ⟨cur, hu, _⟩ := hU
 have n1 : g ≠ gU := fun e => by have := h.G; rw [e, hu] at this; cases this
 have n2 : gC ≠ gU := fun e => by obtain ⟨c2, h2, _⟩ := h.C; rw [e, hu] at h2; cases h2
 exact ⟨(Below.heap_setCell W _ _ g n1).trans h.G, rowI_far h.C n2 _, Kd.S_set h.L hu (by decide) j _, Kd.R_set h.R hu (by decide) j _⟩
theorem LkAt.grown (h : LkAt hl most Ah ch g gC capC base s W vl vg) {v2 : Value} {l : List (List Int)} (hg : W.grownBy W' vl.ownBlock) (hS : Kd.S (Kd.slice 3 (Kd.int .i64)) 34 W' base (fun k => k ≠ gC) v2 l) :
  W'.heap[g]? = some (.cells #[.slice Ah hl ch, .int .i64 most, .int .i64 s.cnt, .slice (some ⟨gC, 0, none⟩) hl capC, vl, vg] 43 (0, 0)) ∧ rowI W' gC capC s.cs ∧ Kd.S (Kd.slice 3 (Kd.int .i64)) 34 W' base (fun k => k ≠ gC) v2 l ∧ Kd.R (Kd.int .i64) 3 W' base (fun k => k ≠ gC) vg s.lng := by
 have hty := Kd.S_typed h.L
 refine ⟨(hg.block g (lt_heapY h.G) (fun e => ?_)).trans h.G, ?_, hS, Kd.R_over' h.R hty (by decide) hg⟩
 ·obtain ⟨cells, hq⟩ := hty g e.symm
  rw [h.G] at hq; cases hq
 ·obtain ⟨cur, h1, h2⟩ := h.C
  refine ⟨cur, (hg.block gC (lt_heapY h1) (fun e => ?_)).trans h1, h2⟩
  obtain ⟨cells, hq⟩ := hty gC e.symm
  rw [h1] at hq; cases hq
theorem LkAt.regrown {cnt : Int} {cs : List Int} {lng : List Int} {v2 : Value} {l : List (List Int)} (h : W'.heap[g]? = some (.cells #[.slice Ah hl ch, .int .i64 most, .int .i64 cnt, .slice (some ⟨gC, 0, none⟩) hl capC, vl, vg] 43 (0, 0)) ∧ rowI W' gC capC cs ∧ Kd.S (Kd.slice 3 (Kd.int .i64)) 34 W' base (fun k => k ≠ gC) v2 l ∧ Kd.R (Kd.int .i64) 3 W' base (fun k => k ≠ gC) vg lng) : LkAt hl most Ah ch g gC capC base ⟨cnt, cs, l, lng⟩ (W'.setCell ⟨g, 4, none⟩ v2) v2 vg := by
 obtain ⟨h1, h2, h3, h4⟩ := h
 have hne : gC ≠ g := fun e => by obtain ⟨cur, h5, _⟩ := h2; rw [e, h1] at h5; cases h5
 exact ⟨by rw [heap_setCell_at h1]; rfl, rowI_far h2 hne _, Kd.S_set h3 h1 (by decide) 4 _, Kd.R_set h4 h1 (by decide) 4 _⟩
theorem rowB_grown {gU cap : Nat} {m : List Bool} (h : rowB W gU cap m) {ok : Nat → Prop} {l : List (List Int)} (hS : Kd.S (Kd.slice 3 (Kd.int .i64)) 34 W base ok vl l) (hg : W.grownBy W' vl.ownBlock) : rowB W' gU cap m := by
 obtain ⟨cur, h1, h2⟩ := h
 refine ⟨cur, (hg.block gU (lt_heapY h1) (fun e => ?_)).trans h1, h2⟩
 obtain ⟨cells, hq⟩ := Kd.S_typed hS gU e.symm
 rw [h1] at hq; cases hq
theorem YL_grown {gU : Nat} {ok : Nat → Prop} {l : List (List Int)} (hS : Kd.S (Kd.slice 3 (Kd.int .i64)) 34 W base ok vl l) (hg : W.grownBy W' vl.ownBlock) : ChgY (YL base g gC gU) W W' :=
 ⟨hg.os, hg.tape, hg.output, hg.size, fun k hk hn => hg.block k hk (fun e => hn (by
  obtain ⟨cells, hq⟩ := Kd.S_typed hS k e.symm
  exact ⟨Kd.S_base hS k e.symm, .inr (.inr (.inr ⟨cells, _, hq⟩))⟩))⟩
theorem cell_hG {cur : Array Value} {T : TypeId} {P : Prop} (h : W.heap[g]? = some (.cells cur T (0, 0)) ∧ P) (j : Nat) (hv : cur[j]? = some v) : W.cell? ⟨g, j, none⟩ = some v := by
 simp only [World.cell?, h.1]; simpa using hv
end
/-- What the lengths are. -/
def OkS (hl : Nat) (s : LkS) : Prop := s.cs.length = hl ∧ s.lst.length ≤ 301 ∧ s.lng.length ≤ hl + 1
theorem OkS.a {hl : Nat} {s : LkS} (h : OkS hl s) {chain : List Int} (hc : chain.length ≤ hl + 1) : OkS hl (lkA chain s) := by
 unfold lkA
 split
 ·exact ⟨h.1, h.2.1, hc⟩
 ·exact h
theorem OkS.b {hl : Nat} {s : LkS} (h : OkS hl s) (chain : List Int) : OkS hl (lkB chain s) := by
 unfold lkB
 split
 ·exact ⟨(upAt_length _ _).trans h.1, h.2.1, h.2.2⟩
 ·exact h
theorem OkS.c {hl : Nat} {s : LkS} (h : OkS hl s) (chain : List Int) {most : Int} (hm : most ≤ 300) : OkS hl (lkC most chain s) := by
 refine ⟨h.1, ?_, h.2.2⟩
 unfold lkC
 by_cases c : (s.lst.length : Int) ≤ most
 ·simp only [c, if_true, List.length_append, List.length_singleton]; omega
 ·simp only [c, if_false]; exact h.2.1
theorem foldl_inv {ι σ : Type} {P : σ → Prop} {f : σ → ι → σ} (hf : ∀ s i, P s → P (f s i)) : ∀ (l : List ι) (s : σ), P s → P (l.foldl f s)
 | [], _, h => h
 | i :: l, s, h => foldl_inv hf l (f s i) (hf s i h)
theorem lookV_ok (hand : List S45) {most : Int} (hm : most ≤ 300) : ∀ m chain used s, chain.length ≤ hand.length + 1 → OkS hand.length s → OkS hand.length (lookV hand most m chain used s)
 | 0, _, _, _, _, h => h
 | m + 1, chain, used, s, hc, h => by
  have h2 := (h.a hc).b chain
  simp only [lookV]
  by_cases hf : chain.length = hand.length + 1
  ·rw [if_pos hf]; exact h2.c chain hm
  ·rw [if_neg hf]
   refine foldl_inv (fun s n hs => ?_) _ _ h2
   split
   ·exact lookV_ok hand hm m _ _ s (by rw [List.length_append, List.length_singleton]; omega) hs
   ·exact hs
set_option maxHeartbeats 8000000 in
set_option maxRecDepth 100000 in
theorem spec_haLook_look.gcalls (hand : List S45) (most : Int) (Ah : Option Addr) (ch g gC capC gU capU base : Nat) (hm : 0 ≤ most ∧ most ≤ 300) (hh : hand.length ≤ 8) (hch : hand.length ≤ ch) (hb0 : base ≤ g ∧ base ≤ gC ∧ base ≤ gU) :
  ∀ (m : Nat) (chain : List Int) (used : List Bool) (s : LkS) (W : World) (Ac : Option Addr) (cc : Nat) (vl vg : Value), hand.length + 2 ≤ chain.length + m → chain ≠ [] → chain.length ≤ hand.length + 1 → used.length = hand.length → s.cs.length = hand.length → s.lst.length ≤ 301 → s.lng.length ≤ hand.length + 1 → chain.length ≤ cc →
   (∀ W', ChgY (YL base g gC gU) W W' → Kd.C k45 W' Ah hand.length hand) → (∀ W', ChgY (YL base g gC gU) W W' → Kd.C (Kd.int .i64) W' Ac chain.length chain) →
   LkAt hand.length most Ah ch g gC capC base s W vl vg → rowB W gU capU used →
   Calls Try.prog 33 #[.pointer (some ⟨g, 0, none⟩), .slice Ac chain.length cc, .slice (some ⟨gU, 0, none⟩) used.length capU] W fun e W' => e = .returned (.tuple #[]) ∧ (∃ vl' vg', LkAt hand.length most Ah ch g gC capC base (lookV hand most m chain used s) W' vl' vg') ∧ rowB W' gU capU used ∧ ChgY (YL base g gC gU) W W' := by
 have eg33 : ∀ args w, (callFunc 33 args).run Try.prog w = .ok (.enter 33 args) w := enters_of Try.func33 (by kernel_rfl) rfl
 intro m
 induction m with
 | zero => intro chain used s W Ac cc vl vg h _ h2; omega
 | succ m ih =>
  intro chain used s W Ac cc vl vg hm1 hne hcl hul hcs hls hlg hcc hT hC hL hU
  obtain ⟨Y, hY⟩ : ∃ Y, Y = YL base g gC gU := ⟨_, rfl⟩
  obtain ⟨p, hp⟩ : ∃ p, chain.length = p + 1 := ⟨chain.length - 1, by have := List.length_pos_iff.2 hne; omega⟩
  obtain ⟨la, hla⟩ : ∃ x, chain[p]? = some x := ⟨_, List.getElem?_eq_getElem (by omega)⟩
  have hlast : chain.getLast?.getD 0 = la := by rw [List.getLast?_eq_getElem?, hp, Nat.add_sub_cancel, hla]; rfl
  obtain ⟨Ag, cg, rfl, hcg, _⟩ := Kd.R_reads hL.R
  obtain ⟨Al, cl, rfl⟩ := Kd.S_slice hL.L
  have HOWN : Aside0 (∀ W', ChgY (YL base g gC gU) W W' → Calls Try.prog 44 #[.slice Ac (p + 1) cc] W' fun e w' => ∃ v0_ : Value, e = .returned v0_ ∧ Kd.R (Kd.int .i64) 3 w' W'.heap.size (fun _ => True) v0_ chain ∧ Below W'.heap.size W' w') := ⟨fun W' hW => by
   have := spec_l1Own.calls Ac cc chain chain W' (hC W' hW) hcc (by unfold spec_l1Own.f; simp; omega)
   rw [hp] at this; exact this⟩
  have HL := aM hL
  have HU := aM hU
  have HT := aM hT
  have HC := aM hC
  have HIH := aM ih
  have HB := aM (And.intro hb0 (And.intro hm (And.intro hm1 (And.intro hcl (And.intro hul (And.intro hcs (And.intro hls (And.intro hlg hcc))))))))
  have HLA := aM (And.intro hla (And.intro hlast hp))
  have HLEN : Aside0 ((chain.length + 1) * 8 ≤ 140737488355328) := ⟨by omega⟩
  obtain ⟨⟨c0, c1, c2, c3, c4, c5⟩, hfz⟩ := hL.cells
  have hp900 : p ≤ 9 := by omega
  have hl900 : s.lng.length ≤ 9 := by omega
  have hgl := lt_heapY hL.G
  rw [hp, hul]
  clear hT hC hL hU ih hla hlast hb0 hm1 hcl hcs hls hlg hcc hm hul
  go_enter Try.func33, Try.ntmps33
  go_upto_if 15 with (fail)
  go_cut [] from 8 (fun wc => ∃ vl vg, Aside0 (LkAt hand.length most Ah ch g gC capC base (lkA chain s) wc vl vg) ∧ Aside0 (rowB wc gU capU used) ∧ Aside0 (ChgY (YL base g gC gU) W wc))
  case first =>
   by_cases hgt : p + 1 > s.lng.length
   ·have hz : (p : Int) + 1 > (s.lng.length : Int) := by omega
    have HA : Aside0 (lkA chain s = { s with lng := chain }) := ⟨by unfold lkA; rw [if_pos (by have := HLA.out.2.2; omega)]⟩
    go_wp2_with (go_at_call 44; refine (HOWN.out _ (ChgY.refl _ _)).mono ?_; rintro e w1 ⟨v1, rfl, ho1, hb1⟩; obtain ⟨A1, c1, rfl, _, _⟩ := Kd.R_reads ho1; have HO1 := aM (And.intro ho1 hb1); have HL1 := aM (HL.out.below hb1); obtain ⟨⟨_, _, _, _, _, c5'⟩, hfz'⟩ := HL1.out.cells; clear ho1 hb1)
    go_meet
    case rel =>
     have hgC : gC < W.heap.size := by obtain ⟨cur, h1, _⟩ := HL.out.C; exact lt_heapY h1
     have hR1 : Kd.R (Kd.int .i64) 3 w1 base (fun k => k ≠ gC) _ chain := Kd.R_lower (Kd.R_mono (Kd.R_bound HO1.out.1) (fun k hk => by have := hk.2.1; omega)) (by have := HB.out.1; omega)
     rw [hp] at hR1
     exact ⟨_, _, ⟨by rw [HA.out]; exact HL1.out.setLng hR1⟩, ⟨rowB_far (rowB_below HU.out HO1.out.2) (fun e => by obtain ⟨cur, h1, _⟩ := HU.out; have e : gU = g := e; rw [e, HL.out.G] at h1; cases h1) _⟩, ⟨(ChgY.of_below HO1.out.2).trans (ChgY.setCell ⟨g, 5, none⟩ _ (fun o => ⟨HB.out.1.1, .inl rfl⟩))⟩⟩
   ·have hz : ¬ (p : Int) + 1 > (s.lng.length : Int) := by omega
    have HA : Aside0 (lkA chain s = s) := ⟨by unfold lkA; rw [if_neg (by have := HLA.out.2.2; omega)]⟩
    go_wp2
    go_meet
    case rel => exact ⟨_, _, ⟨by rw [HA.out]; exact HL.out⟩, HU, ⟨ChgY.refl _ _⟩⟩
  case rest =>
   obtain ⟨vl1, vg1, HL1, HU1, HG1⟩ := hcut
   have HS1 : Aside0 ((lkA chain s).cs.length = hand.length ∧ (lkA chain s).lst.length ≤ 301 ∧ (lkA chain s).lng.length ≤ hand.length + 1) := ⟨by
    unfold lkA
    by_cases hgt : chain.length > s.lng.length
    ·rw [if_pos hgt]; exact ⟨HB.out.2.2.2.2.2.1, HB.out.2.2.2.2.2.2.1, HB.out.2.2.2.1⟩
    ·rw [if_neg hgt]; exact ⟨HB.out.2.2.2.2.2.1, HB.out.2.2.2.2.2.2.1, HB.out.2.2.2.2.2.2.2.1⟩⟩
   obtain ⟨s1, hs1⟩ : ∃ x, x = lkA chain s := ⟨_, rfl⟩
   rw [← hs1] at HL1 HS1
   have HSA := aM hs1
   clear hs1 c0 c1 c2 c3 c4 c5 hfz
   obtain ⟨⟨c0, c1, c2, c3, c4, c5⟩, hfz⟩ := HL1.out.cells
   go_upto_if 23 with (fail)
   go_cut [] from 8 (fun wc => ∃ vl vg, Aside0 (LkAt hand.length most Ah ch g gC capC base (lkB chain s1) wc vl vg) ∧ Aside0 (rowB wc gU capU used) ∧ Aside0 (ChgY (YL base g gC gU) W wc))
   case first =>
    by_cases h1 : p = 0
    ·subst h1
     have HBB : Aside0 (lkB chain s1 = s1) := ⟨by unfold lkB; rw [if_neg (by have := HLA.out.2.2; omega)]⟩
     go_wp2
     go_meet
     case rel => exact ⟨_, _, ⟨by rw [HBB.out]; exact HL1.out⟩, HU1, HG1⟩
    ·obtain ⟨q, rfl⟩ : ∃ q, p = q + 1 := ⟨p - 1, by omega⟩
     have hqh : q < hand.length := by have h1 := HLA.out.2.2; have h2 := HB.out.2.2.2.1; omega
     obtain ⟨x, hx⟩ : ∃ x, s1.cs[q]? = some x := ⟨_, List.getElem?_eq_getElem (by have := HS1.out.1; omega)⟩
     have HBB : Aside0 (lkB chain s1 = { s1 with cs := s1.cs.set q (wrap64 (x + 1)) }) := ⟨by
      have h1 := HLA.out.2.2
      unfold lkB upAt
      rw [if_pos (by omega), show chain.length - 2 = q by omega, List.getD_eq_getElem?_getD, hx]; rfl⟩
     obtain ⟨hcq, hfq⟩ := rowI_at HL1.out.C q x hx
     have hqz : (q : Int) < (hand.length : Int) := by omega
     have hq9 : q ≤ 9 := by omega
     clear hx
     go_wp2
     go_meet
     case rel =>
      exact ⟨_, _, ⟨by rw [HBB.out]; exact HL1.out.setC q _ (by have := HS1.out.1; omega)⟩, ⟨rowB_far HU1.out (fun e => by obtain ⟨cur, h1, _⟩ := HU1.out; have e : gU = gC := e; obtain ⟨c2, h2, _⟩ := HL1.out.C; rw [e, h2] at h1; cases h1) _⟩, ⟨HG1.out.trans (ChgY.setCell ⟨gC, q, none⟩ _ (fun o => ⟨HB.out.1.2.1, .inr (.inl rfl)⟩))⟩⟩
   case rest =>
    clear c0 c1 c2 c3 c4 c5 hfz HL1 HU1 HG1
    obtain ⟨vl2, vg2, HL2, HU2, HG2⟩ := hcut
    have HS2 : Aside0 (OkS hand.length (lkB chain s1)) := ⟨OkS.b HS1.out chain⟩
    obtain ⟨s2, hs2⟩ : ∃ x, x = lkB chain s1 := ⟨_, rfl⟩
    rw [← hs2] at HL2 HS2
    have HSB := aM (show s2 = lkB chain (lkA chain s) by rw [hs2, HSA.out])
    clear hs2 HSA HS1
    obtain ⟨Al2, cl2, rfl⟩ := Kd.S_slice HL2.out.L
    obtain ⟨⟨c0, c1, c2, c3, c4, c5⟩, hfz⟩ := HL2.out.cells
    go_upto_if 43 with (fail)
    go_cut [] from 8 (fun wc => ∃ vl vg, ¬ p = hand.length ∧ Aside0 (LkAt hand.length most Ah ch g gC capC base s2 wc vl vg) ∧ Aside0 (rowB wc gU capU used) ∧ Aside0 (ChgY (YL base g gC gU) W wc))
    case first =>
     by_cases hfull : p = hand.length
     ·have hfz2 : (p : Int) + 1 = (hand.length : Int) + 1 := by omega
      have HV : Aside0 (lookV hand most (m + 1) chain used s = lkC most chain s2) := ⟨by rw [HSB.out]; simp only [lookV]; rw [if_pos (by have := HLA.out.2.2; omega)]⟩
      clear hfull
      have HWB : Aside0 (base ≤ wc.heap.size) := ⟨Nat.le_trans HB.out.1.1 (Nat.le_of_lt (lt_heapY HL2.out.G))⟩
      go_wp2
      have HL5 := aM (HL2.out.setCnt (wrap64 (s2.cnt + 1)))
      have HU5 := aM (rowB_far HU2.out (p := ⟨g, 2, none⟩) (fun e => by obtain ⟨cur, h1, _⟩ := HU2.out; have e : gU = g := e; rw [e, HL2.out.G] at h1; cases h1) (.int .i64 (wrap64 (s2.cnt + 1))))
      have HG5 := aM (HG2.out.trans (ChgY.setCell ⟨g, 2, none⟩ (.int .i64 (wrap64 (s2.cnt + 1))) (fun o => ⟨HB.out.1.1, .inl rfl⟩)))
      have HW5 : Aside0 (base ≤ (wc.setCell ⟨g, 2, none⟩ (.int .i64 (wrap64 (s2.cnt + 1)))).heap.size) := ⟨Nat.le_trans HWB.out (by simp [World.setCell])⟩
      obtain ⟨w5, hw5⟩ : ∃ w5, w5 = wc.setCell ⟨g, 2, none⟩ (.int .i64 (wrap64 (s2.cnt + 1))) := ⟨_, rfl⟩
      rw [← hw5] at HL5 HU5 HG5 HW5 ⊢
      clear hw5 c0 c1 c2 c3 c4 c5 hfz HL2 HU2 HG2 HWB
      obtain ⟨⟨c0, c1, c2, c3, c4, c5⟩, hfz⟩ := HL5.out.cells
      refine start_ (n := 10) (S := fun w' => w'.cell? ⟨g, 4, none⟩ = some (.slice Al2 s2.lst.length cl2) ∧ w'.cell? ⟨g, 1, none⟩ = some (.int .i64 most)) (ds := []) #[false, false, false, false, false, false, false, false, false, false] (by kernel_rfl) rfl rfl ⟨(cell_bY c4 (bD (Below.refl _ _))), (cell_bY c1 (bD (Below.refl _ _)))⟩ (fun hHeld => ?_)
      refine pure_ (i := 0) (N := some 51) (v := ?_) (a' := ?_) #[true, false, false, false, false, false, false, false, false, false] rfl rfl (by kernel_rfl) (fun _ _ _ h => h) (Or.inl ⟨by rfl, ?_⟩) ?_ ?_
      rotate_left
      ·intro w'
       go_simp
       with_reducible rfl
      rotate_left
      ·simp only [sP]
       rfl
      refine pure_ (i := 1) (N := some 52) (v := ?_) (a' := ?_) #[true, true, false, false, false, false, false, false, false, false] rfl rfl (by kernel_rfl) (fun _ _ _ h => h) (Or.inl ⟨by rfl, ?_⟩) ?_ ?_
      rotate_left
      ·intro w'
       go_simp
       with_reducible rfl
      rotate_left
      ·simp only [sP]
       rfl
      refine pure_ (i := 2) (N := some 53) (v := ?_) (a' := ?_) #[true, true, true, false, false, false, false, false, false, false] rfl rfl (by kernel_rfl) (fun _ _ _ h => h) (Or.inl ⟨by rfl, ?_⟩) ?_ ?_
      rotate_left
      ·intro w'
       go_simp
       with_reducible rfl
      rotate_left
      ·simp only [sP]
       rfl
      refine pure_ (i := 5) (N := some 56) (v := ?_) (a' := ?_) #[true, true, true, false, false, true, false, false, false, false] rfl rfl (by kernel_rfl) (fun _ _ _ h => h) (Or.inl ⟨by rfl, ?_⟩) ?_ ?_
      rotate_left
      ·intro w'
       go_simp
       with_reducible rfl
      rotate_left
      ·simp only [sP]
       rfl
      refine pure_ (i := 6) (N := some 57) (v := ?_) (a' := ?_) #[true, true, true, false, false, true, true, false, false, false] rfl rfl (by kernel_rfl) (fun _ _ _ h => h) (Or.inl ⟨by rfl, ?_⟩) ?_ ?_
      rotate_left
      ·intro w'
       go_simp
       with_reducible rfl
      rotate_left
      ·simp only [sP]
       rfl
      refine pure_ (i := 7) (N := some 58) (v := ?_) (a' := ?_) #[true, true, true, false, false, true, true, true, false, false] rfl rfl (by kernel_rfl) (fun _ _ _ h => h) (Or.inl ⟨by rfl, ?_⟩) ?_ ?_
      rotate_left
      ·intro w'
       go_simp
       with_reducible rfl
      rotate_left
      ·simp only [sP]
       rfl
      refine take_ (i := 3) (N := some 54) (v := ?_) (a' := ?_) #[true, true, true, true, false, true, true, true, false, false] rfl rfl (by kernel_rfl) (fun _ _ _ h => h) (Or.inl ⟨by rfl, ?_⟩) hHeld ?_ ?_
      rotate_left
      ·rintro w' ⟨s0, s1⟩
       go_simp
       with_reducible rfl
      rotate_left
      ·simp only [sP]
       rfl
      refine pure_ (i := 4) (N := some 55) (v := ?_) (a' := ?_) #[true, true, true, true, true, true, true, true, false, false] rfl rfl (by kernel_rfl) (fun _ _ _ h => h) (Or.inl ⟨by rfl, ?_⟩) ?_ ?_
      rotate_left
      ·intro w'
       go_simp
       with_reducible rfl
      rotate_left
      ·simp only [sP]
       rfl
      refine take_ (i := 8) (N := some 59) (v := ?_) (a' := ?_) #[true, true, true, true, true, true, true, true, true, false] rfl rfl (by kernel_rfl) (fun _ _ _ h => h) (Or.inl ⟨by rfl, ?_⟩) hHeld ?_ ?_
      rotate_left
      ·rintro w' ⟨s0, s1⟩
       go_simp
       with_reducible rfl
      rotate_left
      ·simp only [sP]
       rfl
      refine pure_ (i := 9) (N := some 60) (v := ?_) (a' := ?_) #[true, true, true, true, true, true, true, true, true, true] rfl rfl (by kernel_rfl) (fun _ _ _ h => h) (Or.inl ⟨by rfl, ?_⟩) ?_ ?_
      rotate_left
      ·intro w'
       go_simp
       with_reducible rfl
      rotate_left
      ·simp only [sP]
       rfl
      refine done_ (by kernel_rfl) ?_
      have HL6 := aM (HL5.out.below (bD (Below.refl _ _)))
      have HU6 := aM (rowB_below HU5.out (bD (Below.refl _ _)))
      have HG6 := aM (HG5.out.trans (ChgY.of_below (bD (Below.refl _ _))))
      have HWB : Aside0 (base ≤ w5.drew.heap.size) := HW5
      obtain ⟨w6, hw6⟩ : ∃ w6, w6 = w5.drew := ⟨_, rfl⟩
      rw [← hw6] at HL6 HU6 HG6 HWB ⊢
      clear hw6 c0 c1 c2 c3 c4 c5 hfz HL5 HU5 HG5 HW5
      obtain ⟨⟨_, _, _, _, c46, _⟩, _⟩ := HL6.out.cells
      by_cases hle : (s2.lst.length : Int) ≤ most
      ·have HVV : Aside0 (lkC most chain s2 = ⟨wrap64 (s2.cnt + 1), s2.cs, s2.lst ++ [chain], s2.lng⟩) := ⟨by unfold lkC; rw [if_pos hle]⟩
       have HGC : Aside0 (gC < w6.heap.size) := ⟨by obtain ⟨cur, h1, _⟩ := HL6.out.C; exact lt_heapY h1⟩
       go_wp2_with (fail)
       refine start_ (n := 12) (S := fun w' => w'.cell? ⟨g, 4, none⟩ = some (.slice Al2 s2.lst.length cl2) ∧ Below w6.heap.size w6 w') (ds := [8, 11]) #[false, false, false, false, false, false, false, false, false, false, false, false] (by kernel_rfl) rfl rfl ⟨(cell_bY c46 (bD (Below.refl _ _))), (bD (Below.refl _ _))⟩ (fun hHeld => ?_)
       refine pure_ (i := 0) (N := some 61) (v := ?_) (a' := ?_) #[true, false, false, false, false, false, false, false, false, false, false, false] rfl rfl (by kernel_rfl) (fun _ _ _ h => h) (Or.inl ⟨by rfl, ?_⟩) ?_ ?_
       rotate_left
       ·intro w'
        go_simp
        with_reducible rfl
       rotate_left
       ·simp only [sP]
        rfl
       refine pure_ (i := 1) (N := some 62) (v := ?_) (a' := ?_) #[true, true, false, false, false, false, false, false, false, false, false, false] rfl rfl (by kernel_rfl) (fun _ _ _ h => h) (Or.inl ⟨by rfl, ?_⟩) ?_ ?_
       rotate_left
       ·intro w'
        go_simp
        with_reducible rfl
       rotate_left
       ·simp only [sP]
        rfl
       refine pure_ (i := 2) (N := some 63) (v := ?_) (a' := ?_) #[true, true, true, false, false, false, false, false, false, false, false, false] rfl rfl (by kernel_rfl) (fun _ _ _ h => h) (Or.inl ⟨by rfl, ?_⟩) ?_ ?_
       rotate_left
       ·intro w'
        go_simp
        with_reducible rfl
       rotate_left
       ·simp only [sP]
        rfl
       refine pure_ (i := 3) (N := some 64) (v := ?_) (a' := ?_) #[true, true, true, true, false, false, false, false, false, false, false, false] rfl rfl (by kernel_rfl) (fun _ _ _ h => h) (Or.inl ⟨by rfl, ?_⟩) ?_ ?_
       rotate_left
       ·intro w'
        go_simp
        with_reducible rfl
       rotate_left
       ·simp only [sP]
        rfl
       refine pure_ (i := 5) (N := some 66) (v := ?_) (a' := ?_) #[true, true, true, true, false, true, false, false, false, false, false, false] rfl rfl (by kernel_rfl) (fun _ _ _ h => h) (Or.inl ⟨by rfl, ?_⟩) ?_ ?_
       rotate_left
       ·intro w'
        go_simp
        with_reducible rfl
       rotate_left
       ·simp only [sP]
        rfl
       refine take_ (i := 4) (N := some 65) (v := ?_) (a' := ?_) #[true, true, true, true, true, true, false, false, false, false, false, false] rfl rfl (by kernel_rfl) (fun _ _ _ h => h) (Or.inl ⟨by rfl, ?_⟩) hHeld ?_ ?_
       rotate_left
       ·rintro w' ⟨s0, s1⟩
        go_simp
        with_reducible rfl
       rotate_left
       ·simp only [sP]
        rfl
       refine one_ (i := 6) (N := some 67) #[true, true, true, true, true, true, true, false, false, false, false, false] rfl rfl (by kernel_rfl) (by decide) (fun K hK => ?_)
       refine goes_ Try.func44 (by kernel_rfl) rfl #[.slice Ac (p + 1) cc] (by rfl) rfl rfl (by simp only [List.map_toArray, List.map_cons, List.map_nil]; rfl) ?_
       with_reducible refine (HOWN.out _ (HG6.out.trans (ChgY.of_below hHeld.2))).mono ?_
       rintro e x6 ⟨v6, rfl, ho6, hb6⟩
       refine ⟨_, rfl, ?_⟩
       obtain ⟨A6, c6, e6⟩ : ∃ A c, v6 = .slice A (p + 1) c := by
        obtain ⟨A, c, e, _⟩ := Kd.R_reads ho6
        exact ⟨A, c, by rw [e, HLA.out.2.2]⟩
       subst e6
       have R6 := aM (below_then hHeld.2 hHeld.2.size hb6)
       have HO6 := aM (Kd.R_lower (Kd.R_mono (Kd.R_bound ho6) (ok' := fun k => w6.heap.size ≤ k) (fun k hk => Nat.le_trans hHeld.2.size hk.2.1)) (Nat.le_trans HWB.out hHeld.2.size))
       clear ho6 hb6
       refine hK.out _ _ ⟨(cell_bY c46 R6.out), R6.out⟩ (fun hHeld => ?_)
       clear hK K
       refine norm_ (a' := ?_) ?_ ?_
       rotate_left
       ·show Act.put _ (some 67) _ = _
        simp only [sP]
        rfl
       refine one_ (i := 7) (N := some 68) #[true, true, true, true, true, true, true, true, false, false, false, false] rfl rfl (by kernel_rfl) (by decide) (fun K hK => ?_)
       refine value_ (w1 := ?_) (v := ?_) (by rfl) rfl ?_ ?_
       rotate_left 2
       ·go_simp
        constructor
        ·rfl
        ·rfl
       have R7 := aM (R6.out.alloc R6.out.size (.cells #[.slice A6 (p + 1) c6] 34))
       refine hK.out _ _ ⟨(cell_bY c46 R7.out), R7.out⟩ (fun hHeld => ?_)
       clear hK K
       refine norm_ (a' := ?_) ?_ ?_
       rotate_left
       ·show Act.put _ (some 68) _ = _
        simp only [sP]
        rfl
       refine last_ (i := 8) (N := some 69) #[true, true, true, true, true, true, true, true, true, false, false, false] rfl rfl (by kernel_rfl) (by decide) (fun K hK => ?_)
       refine Kd.S_append_step (Kd.slice 3 (Kd.int .i64)) (w0 := w6) base (by rfl) (.tmp 65) (.tmp 68) 24 34 (.slice none 0 0) 24 rfl Try.underlying24 info34 rfl (by decide) (by omega) (.slice Al2 s2.lst.length cl2) s2.lst chain [.slice A6 (p + 1) c6] (fun k => k ≠ gC) (fun k => w6.heap.size ≤ k) rfl rfl ⟨_, HLA.out.2.2 ▸ rfl, HO6.out⟩ (fun k hk => ⟨fun e => by have := HGC.out; omega, fun e => by have := Kd.S_lt HL6.out.L k e.symm; omega⟩) (fun k hk e => by have := HGC.out; have := R6.out.size; omega) (Kd.S_below (Kd.S_mono (Kd.S_bound HL6.out.L) (fun k hk => ⟨hk.1, by have := hk.2.2.1; omega⟩)) R6.out) (Below.mono R6.out HWB.out) (Nat.le_trans HWB.out R6.out.size) (by have := HS2.out.2.1; omega) ?_
       intro v8 x8 hs8 hb8 hg8 hat8
       obtain ⟨A8, c8, rfl⟩ := Kd.S_slice hs8
       have R8 := aM (LkAt.grown (HL6.out.below R6.out) hg8 hs8)
       have HU8 := aM (rowB_grown (rowB_below HU6.out R6.out) (HL6.out.below R6.out).L hg8)
       have HG8 := aM ((HG6.out.trans (ChgY.of_below R6.out)).trans (YL_grown (HL6.out.below R6.out).L hg8))
       have hc8 := cell_hG R8.out 4 rfl
       have hf8 : x8.frozen? ⟨g, 4, none⟩ = false := by simp [World.frozen?, R8.out]
       clear hs8 hb8 hg8 hat8
       refine hK.out _ _ ?_
       clear hK K
       refine norm_ (a' := ?_) ?_ ?_
       rotate_left
       ·show Act.put _ (some 69) _ = _
        simp only [sP]
        rfl
       refine pure_ (i := 9) (N := some 70) (v := ?_) (a' := ?_) #[true, true, true, true, true, true, true, true, true, true, false, false] rfl rfl (by kernel_rfl) (fun _ _ _ h => h) (Or.inl ⟨by rfl, ?_⟩) ?_ ?_
       rotate_left
       ·intro w'
        go_simp
        with_reducible rfl
       rotate_left
       ·simp only [sP]
        rfl
       refine pure_ (i := 10) (N := some 71) (v := ?_) (a' := ?_) #[true, true, true, true, true, true, true, true, true, true, true, false] rfl rfl (by kernel_rfl) (fun _ _ _ h => h) (Or.inl ⟨by rfl, ?_⟩) ?_ ?_
       rotate_left
       ·intro w'
        go_simp
        with_reducible rfl
       rotate_left
       ·simp only [sP]
        rfl
       refine last_ (i := 11) (N := none) #[true, true, true, true, true, true, true, true, true, true, true, true] rfl rfl (by kernel_rfl) (by decide) (fun K hK => ?_)
       refine skip_ (w1 := ?_) (by rfl) rfl ?_ ?_
       rotate_left
       ·go_simp
        rfl
       refine hK.out _ _ ?_
       clear hK K
       refine done_ (by kernel_rfl) ?_
       have HL9 := aM (LkAt.regrown R8.out)
       have HU9 := aM (rowB_far HU8.out (p := ⟨g, 4, none⟩) (fun e => by obtain ⟨cur, h1, _⟩ := HU8.out; have e : gU = g := e; rw [e, R8.out.1] at h1; cases h1) (.slice A8 (s2.lst ++ [chain]).length c8))
       have HG9 := aM (HG8.out.trans (ChgY.setCell ⟨g, 4, none⟩ (.slice A8 (s2.lst ++ [chain]).length c8) (fun o => ⟨HB.out.1.1, .inl rfl⟩)))
       rw [show (s2.lst ++ [chain]).length = s2.lst.length + 1 from by simp] at HL9 HU9 HG9
       go_wp2
       refine bodyPost_ret (results_none rfl _ _ _) rfl ⟨rfl, ⟨_, _, by rw [HV.out, HVV.out]; exact HL9.out⟩, HU9.out, HG9.out⟩
      ·have HVV : Aside0 (lkC most chain s2 = { s2 with cnt := wrap64 (s2.cnt + 1) }) := ⟨by unfold lkC; rw [if_neg hle]⟩
       go_wp2
       refine bodyPost_ret (results_none rfl _ _ _) rfl ⟨rfl, ⟨_, _, by rw [HV.out, HVV.out]; exact HL6.out⟩, HU6.out, HG6.out⟩
     ·have hfz2 : ¬ (p : Int) + 1 = (hand.length : Int) + 1 := by omega
      go_wp2
      go_meet
      case rel => exact ⟨_, _, hfull, HL2, HU2, HG2⟩
    case rest =>
     clear HL2 HU2 HG2 c0 c1 c2 c3 c4 c5 hfz
     obtain ⟨vl2b, vg2b, hfull, HL2, HU2, HG2⟩ := hcut
     obtain ⟨stp, hstp⟩ : ∃ f : LkS → Nat → LkS, f = fun s (n : Nat) => if fwTile la (n : Int) ∈ hand ∧ used.getD (hand.idxOf (fwTile la (n : Int))) false = false then lookV hand most m (chain ++ [(n : Int)]) (used.set (hand.idxOf (fwTile la (n : Int))) true) s else s := ⟨_, rfl⟩
     have HNUM : Aside0 (hand.length + 2 ≤ chain.length + 1 + m ∧ chain.length + 1 ≤ hand.length + 1) := ⟨by have h1 := HLA.out.2.2; have h2 := HB.out.2.2.2.1; have h3 := HB.out.2.2.1; omega⟩
     have HV : Aside0 (lookV hand most (m + 1) chain used s = (List.range 10).foldl stp s2) := ⟨by rw [HSB.out, hstp]; simp only [lookV]; rw [if_neg (by have := HLA.out.2.2; omega), HLA.out.2.1]⟩
     have HOK : Aside0 (∀ n, OkS hand.length ((List.range n).foldl stp s2)) := ⟨fun n => by
      refine foldl_inv (fun s n hs => ?_) _ _ HS2.out
      rw [hstp]
      show OkS _ (if _ then _ else _)
      split
      ·exact lookV_ok hand HB.out.2.1.2 m _ _ s (by rw [List.length_append, List.length_singleton]; have h1 := HLA.out.2.2; have h2 := HB.out.2.2.2.1; omega) hs
      ·exact hs⟩
     have HSTP := aM hstp
     clear hstp hfull
     go_wp2
     go_loopg [6] 10 (fun gg s6 wx => ∃ (n : Nat) (vl vg : Value), s6 = .int .i64 n ∧ n ≤ 10 ∧ 10 - n ≤ gg ∧ Aside0 (LkAt hand.length most Ah ch g gC capC base ((List.range n).foldl stp s2) wx vl vg) ∧ Aside0 (rowB wx gU capU used) ∧ Aside0 (ChgY (YL base g gC gU) W wx))
     case atStart => exact ⟨0, _, _, rfl, Nat.zero_le _, by omega, HL2, HU2, HG2⟩
     case round =>
      clear HL2 HU2 HG2
      obtain ⟨n, vl3, vg3, rfl, hn, hgg, HL3, HU3, HG3⟩ := hrel
      by_cases hlt : n < 10
      ·have hltz : (n : Int) ≤ 9 := by omega
       have hp900 : p ≤ 9 := by omega
       have hwp : wrap64 (p : Int) = (p : Int) := by unfold wrap64; omega
       have hpp : (p : Int) < (p : Int) + 1 := by omega
       have HFOLD : Aside0 ((List.range (n + 1)).foldl stp s2 = stp ((List.range n).foldl stp s2) n) := ⟨by rw [List.range_succ, List.foldl_append]; rfl⟩
       have HOKN := aM (HOK.out n)
       obtain ⟨sl, hsl⟩ : ∃ x, x = (List.range n).foldl stp s2 := ⟨_, rfl⟩
       rw [← hsl] at HFOLD HL3 HOKN
       obtain ⟨⟨c0, _, _, _, _, _⟩, _⟩ := HL3.out.cells
       obtain ⟨adc, hAc, hcell⟩ := C_cellY (HC.out wr HG3.out) p la HLA.out.1
       subst hAc
       have HTI : Aside0 (∀ w, Calls Try.prog 45 #[.int .i64 la, .int .i64 (n : Int)] w fun e w' => e = .returned (.agg #[.int .i64 (fwTile la (n : Int)).f0, .int .i64 (fwTile la (n : Int)).f1]) ∧ Below w.heap.size w w') := ⟨fun w => spec_tiOf.calls la n _ _ w (tiOf_fw la n)⟩
       obtain ⟨rr, hi1, hi2⟩ := placeT_k hand (by omega) (fwTile la n)
       have HPLC : Aside0 (∀ w, Below wr.heap.size wr w → Calls Try.prog 43 #[.slice Ah hand.length ch, .agg #[.int .i64 (fwTile la (n : Int)).f0, .int .i64 (fwTile la (n : Int)).f1]] w fun e w' => e = .returned (.int .i64 rr) ∧ Below w.heap.size w w') :=
        ⟨fun w hb => spec_tiPlace.calls 2000 Ah ch hand _ _ rr w (HT.out w (HG3.out.trans (ChgY.of_below hb))) hch hi1⟩
       go_wp2_with (fail)
       refine start_ (n := 14) (S := fun w' => w'.cell? ⟨g, 0, none⟩ = some (.slice Ah hand.length ch) ∧ w'.cell? (adc.add p) = some (.int .i64 la) ∧ Below wr.heap.size wr w') (ds := []) #[false, false, false, false, false, false, false, false, false, false, false, false, false, false] (by kernel_rfl) rfl rfl ⟨(cell_bY c0 (bD (Below.refl _ _))), (cell_bY hcell (bD (Below.refl _ _))), (bD (Below.refl _ _))⟩ (fun hHeld => ?_)
       refine pure_ (i := 0) (N := some 76) (v := ?_) (a' := ?_) #[true, false, false, false, false, false, false, false, false, false, false, false, false, false] rfl rfl (by kernel_rfl) (fun _ _ _ h => h) (Or.inl ⟨by rfl, ?_⟩) ?_ ?_
       rotate_left
       ·intro w'
        go_simp
        with_reducible rfl
       rotate_left
       ·simp only [sP]
        rfl
       refine pure_ (i := 1) (N := some 77) (v := ?_) (a' := ?_) #[true, true, false, false, false, false, false, false, false, false, false, false, false, false] rfl rfl (by kernel_rfl) (fun _ _ _ h => h) (Or.inl ⟨by rfl, ?_⟩) ?_ ?_
       rotate_left
       ·intro w'
        go_simp
        with_reducible rfl
       rotate_left
       ·simp only [sP]
        rfl
       refine pure_ (i := 2) (N := some 78) (v := ?_) (a' := ?_) #[true, true, true, false, false, false, false, false, false, false, false, false, false, false] rfl rfl (by kernel_rfl) (fun _ _ _ h => h) (Or.inl ⟨by rfl, ?_⟩) ?_ ?_
       rotate_left
       ·intro w'
        go_simp
        with_reducible rfl
       rotate_left
       ·simp only [sP]
        rfl
       refine pure_ (i := 4) (N := some 80) (v := ?_) (a' := ?_) #[true, true, true, false, true, false, false, false, false, false, false, false, false, false] rfl rfl (by kernel_rfl) (fun _ _ _ h => h) (Or.inl ⟨by rfl, ?_⟩) ?_ ?_
       rotate_left
       ·intro w'
        go_simp
        with_reducible rfl
       rotate_left
       ·simp only [sP]
        rfl
       refine pure_ (i := 5) (N := some 81) (v := ?_) (a' := ?_) #[true, true, true, false, true, true, false, false, false, false, false, false, false, false] rfl rfl (by kernel_rfl) (fun _ _ _ h => h) (Or.inl ⟨by rfl, ?_⟩) ?_ ?_
       rotate_left
       ·intro w'
        go_simp
        with_reducible rfl
       rotate_left
       ·simp only [sP]
        rfl
       refine pure_ (i := 6) (N := some 82) (v := ?_) (a' := ?_) #[true, true, true, false, true, true, true, false, false, false, false, false, false, false] rfl rfl (by kernel_rfl) (fun _ _ _ h => h) (Or.inl ⟨by rfl, ?_⟩) ?_ ?_
       rotate_left
       ·intro w'
        go_simp
        with_reducible rfl
       rotate_left
       ·simp only [sP]
        rfl
       refine pure_ (i := 7) (N := some 83) (v := ?_) (a' := ?_) #[true, true, true, false, true, true, true, true, false, false, false, false, false, false] rfl rfl (by kernel_rfl) (fun _ _ _ h => h) (Or.inl ⟨by rfl, ?_⟩) ?_ ?_
       rotate_left
       ·intro w'
        go_simp
        with_reducible rfl
       rotate_left
       ·simp only [sP]
        rfl
       refine pure_ (i := 8) (N := some 84) (v := ?_) (a' := ?_) #[true, true, true, false, true, true, true, true, true, false, false, false, false, false] rfl rfl (by kernel_rfl) (fun _ _ _ h => h) (Or.inl ⟨by rfl, ?_⟩) ?_ ?_
       rotate_left
       ·intro w'
        go_simp
        with_reducible rfl
       rotate_left
       ·simp only [sP]
        rfl
       refine pure_ (i := 10) (N := some 86) (v := ?_) (a' := ?_) #[true, true, true, false, true, true, true, true, true, false, true, false, false, false] rfl rfl (by kernel_rfl) (fun _ _ _ h => h) (Or.inl ⟨by rfl, ?_⟩) ?_ ?_
       rotate_left
       ·intro w'
        go_simp
        with_reducible rfl
       rotate_left
       ·simp only [sP]
        rfl
       refine take_ (i := 3) (N := some 79) (v := ?_) (a' := ?_) #[true, true, true, true, true, true, true, true, true, false, true, false, false, false] rfl rfl (by kernel_rfl) (fun _ _ _ h => h) (Or.inl ⟨by rfl, ?_⟩) hHeld ?_ ?_
       rotate_left
       ·rintro w' ⟨s0, s1, s2⟩
        go_simp
        with_reducible rfl
       rotate_left
       ·simp only [sP]
        rfl
       refine take_ (i := 9) (N := some 85) (v := ?_) (a' := ?_) #[true, true, true, true, true, true, true, true, true, true, true, false, false, false] rfl rfl (by kernel_rfl) (fun _ _ _ h => h) (Or.inl ⟨by rfl, ?_⟩) hHeld ?_ ?_
       rotate_left
       ·rintro w' ⟨s0, s1, s2⟩
        go_simp
        with_reducible rfl
       rotate_left
       ·simp only [sP]
        rfl
       refine one_ (i := 11) (N := some 87) #[true, true, true, true, true, true, true, true, true, true, true, true, false, false] rfl rfl (by kernel_rfl) (by decide) (fun K hK => ?_)
       refine goes_ Try.func45 (by kernel_rfl) rfl #[.int .i64 la, .int .i64 (n : Int)] (by rfl) rfl rfl (by simp only [List.map_toArray, List.map_cons, List.map_nil]; rfl) ?_
       with_reducible refine (HTI.out _).mono ?_
       rintro e x11 ⟨rfl, hb11⟩
       refine ⟨_, rfl, ?_⟩
       have R11 := aM (below_then hHeld.2.2 hHeld.2.2.size hb11)
       clear hb11
       refine hK.out _ _ ⟨(cell_bY c0 R11.out), (cell_bY hcell R11.out), R11.out⟩ (fun hHeld => ?_)
       clear hK K
       refine norm_ (a' := ?_) ?_ ?_
       rotate_left
       ·show Act.put _ (some 87) _ = _
        simp only [sP]
        rfl
       refine one_ (i := 12) (N := some 88) #[true, true, true, true, true, true, true, true, true, true, true, true, true, false] rfl rfl (by kernel_rfl) (by decide) (fun K hK => ?_)
       refine goes_ Try.func43 (by kernel_rfl) rfl #[.slice Ah hand.length ch, .agg #[.int .i64 (fwTile la (n : Int)).f0, .int .i64 (fwTile la (n : Int)).f1]] (by rfl) rfl rfl (by simp only [List.map_toArray, List.map_cons, List.map_nil]; rfl) ?_
       with_reducible refine (HPLC.out _ hHeld.2.2).mono ?_
       rintro e x12 ⟨rfl, hb12⟩
       refine ⟨_, rfl, ?_⟩
       have R12 := aM (below_then R11.out R11.out.size hb12)
       clear hb12
       refine hK.out _ _ ⟨(cell_bY c0 R12.out), (cell_bY hcell R12.out), R12.out⟩ (fun hHeld => ?_)
       clear hK K
       refine norm_ (a' := ?_) ?_ ?_
       rotate_left
       ·show Act.put _ (some 88) _ = _
        simp only [sP]
        rfl
       refine pure_ (i := 13) (N := some 7) (v := ?_) (a' := ?_) #[true, true, true, true, true, true, true, true, true, true, true, true, true, true] rfl rfl (by kernel_rfl) (fun _ _ _ h => h) (Or.inl ⟨by rfl, ?_⟩) ?_ ?_
       rotate_left
       ·intro w'
        go_simp
        with_reducible rfl
       rotate_left
       ·simp only [sP]
        rfl
       refine done_ (by kernel_rfl) ?_
       have HL12 := aM (HL3.out.below R12.out)
       have HU12 := aM (rowB_below HU3.out R12.out)
       have HG12 := aM (HG3.out.trans (ChgY.of_below R12.out))
       clear HL3 HU3 HG3 hHeld c0 hcell HPLC HTI hi1
       rcases hi2 with ⟨rfl, hnm⟩ | ⟨mm, rfl, hml, hmem, hix⟩
       ·have HSN : Aside0 (stp sl n = sl) := ⟨by rw [HSTP.out]; exact if_neg (fun h => hnm h.1)⟩
        go_wp2
        go_roundg (10 - (n + 1))
        case measure => omega
        case rel => exact ⟨n + 1, _, _, by go_num, by omega, Nat.le_refl _, ⟨by rw [HFOLD.out, HSN.out]; exact HL12.out⟩, HU12, HG12⟩
       ·obtain ⟨ub, hub⟩ : ∃ b, used[mm]? = some b := ⟨_, List.getElem?_eq_getElem (by have := HB.out.2.2.2.2.1; omega)⟩
        have hud : used.getD (hand.idxOf (fwTile la (n : Int))) false = ub := by rw [hix, List.getD_eq_getElem?_getD, hub]; rfl
        obtain ⟨hcu, hfu⟩ := rowB_at HU12.out mm ub hub
        have hmz : ¬ (mm : Int) < 0 := by omega
        have hmlz : (mm : Int) < (hand.length : Int) := by omega
        have hm9 : mm ≤ 9 := by omega
        cases ub with
        | true =>
         have HSN : Aside0 (stp sl n = sl) := ⟨by rw [HSTP.out]; exact if_neg (fun h => by rw [hud] at h; exact absurd h.2 (by decide))⟩
         clear hud hub hmem hix
         go_wp2
         go_roundg (10 - (n + 1))
         case measure => omega
         case rel => exact ⟨n + 1, _, _, by go_num, by omega, Nat.le_refl _, ⟨by rw [HFOLD.out, HSN.out]; exact HL12.out⟩, HU12, HG12⟩
        | false =>
         have HSN : Aside0 (stp sl n = lookV hand most m (chain ++ [(n : Int)]) (used.set mm true) sl) := ⟨by rw [HSTP.out, ← hix]; exact if_pos ⟨hmem, hud⟩⟩
         have HUB := aM hub
         clear hud hub hmem hix
         have HL13 := aM (HL12.out.setU (v := .bool true) HU12.out mm)
         have HU13 := aM (rowB_set HU12.out mm true)
         have HG13 := aM (HG12.out.trans (ChgY.setCell ⟨gU, mm, none⟩ (.bool true) (fun o => ⟨HB.out.1.2.2, .inr (.inr (.inl rfl))⟩)))
         obtain ⟨wu, hwu⟩ : ∃ wu, wu = x12.setCell ⟨gU, mm, none⟩ (.bool true) := ⟨_, rfl⟩
         rw [← hwu] at HL13 HU13 HG13
         have HWE := aM hwu.symm
         clear hwu
         have HWU : Aside0 (base ≤ wu.heap.size) := ⟨Nat.le_trans HB.out.1.1 (Nat.le_of_lt (lt_heapY HL13.out.G))⟩
         have HREC : Aside0 (∀ (w7 : World) (v7 : Value), Below wu.heap.size wu w7 → Kd.R (Kd.int .i64) 3 w7 wu.heap.size (fun _ => True) v7 (chain ++ [(n : Int)]) → Calls Try.prog 33 #[.pointer (some ⟨g, 0, none⟩), v7, .slice (some ⟨gU, 0, none⟩) hand.length capU] w7 fun e W' => e = .returned (.tuple #[]) ∧ (∃ vl' vg', LkAt hand.length most Ah ch g gC capC base (lookV hand most m (chain ++ [(n : Int)]) (used.set mm true) sl) W' vl' vg') ∧ rowB W' gU capU (used.set mm true) ∧ ChgY (YL base g gC gU) W W') := ⟨fun w7 v7 hb7 hr7 => by
          have hG7 := HG13.out.trans (ChgY.of_below hb7)
          have hgC : gC < wu.heap.size := by obtain ⟨cur, h1, _⟩ := HL13.out.C; exact lt_heapY h1
          have hgU : gU < wu.heap.size := by obtain ⟨cur, h1, _⟩ := HU13.out; exact lt_heapY h1
          have hgg := lt_heapY HL13.out.G
          obtain ⟨A7, c7, rfl, hc7, hk7⟩ := keepI (Y := YL base g gC gU) (base0 := wu.heap.size) hr7 (Nat.le_refl _) (fun b cur fr hb h => by
           obtain ⟨_, h | h | h | ⟨cur', fr', h⟩⟩ := h
           ·omega
           ·omega
           ·omega
           ·cases h)
          have h4 := HB.out.2.2.2.2.1
          have := HIH.out (chain ++ [(n : Int)]) (used.set mm true) sl w7 A7 c7 _ _ (by rw [List.length_append, List.length_singleton]; exact HNUM.out.1) (by simp) (by rw [List.length_append, List.length_singleton]; exact HNUM.out.2) (by rw [List.length_set]; exact h4) HOKN.out.1 HOKN.out.2.1 HOKN.out.2.2 hc7 (fun W' hW => HT.out W' (hG7.trans hW)) hk7 (HL13.out.below hb7) (rowB_below HU13.out hb7)
          rw [List.length_set, h4] at this
          exact this.mono fun e W' ⟨e1, e2, e3, e4⟩ => ⟨e1, e2, e3, hG7.trans e4⟩⟩
         have HSS : Aside0 ((used.set mm true).set mm false = used ∧ (used.set mm true)[mm]? = some true) := ⟨by
          have h4 := HUB.out
          have hlt := (List.getElem?_eq_some_iff.1 h4).1
          refine ⟨?_, List.getElem?_set_self hlt⟩
          rw [List.set_set]
          apply List.ext_getElem?
          intro i
          by_cases e : i = mm
          ·subst e; rw [List.getElem?_set_self hlt, h4]
          ·rw [List.getElem?_set_ne (fun e2 => e e2.symm)]⟩
         go_wp2_with (first | (go_at_call 44; rw [HWE.out]; refine (HOWN.out _ HG13.out).mono ?_; rintro e w1 ⟨v1, rfl, ho1, hb1⟩; have HO1 := aM (And.intro ho1 hb1); clear ho1 hb1) | ((with_reducible refine gate_builtin (b := .append) (xs := #[.tmp 102, .tmp 104]) rfl ?_); at_builtin; refine Kd.R_append (Kd.int .i64) (w0 := wu) wu.heap.size rfl (.tmp 102) (.tmp 104) 34 3 (.int .i64 0) 8 rfl Try.underlying34 info3 rfl (by decide) (by decide) v1 chain (n : Int) [.int .i64 (n : Int)] (fun _ => True) (fun _ => False) rfl rfl rfl (fun k hk => hk.elim) (fun _ _ => trivial) HO1.out.1 HO1.out.2 HO1.out.2.size HLEN.out ?_; intro v5 w5 ho5 hb5 hg5 hat5; have HO5 := aM (And.intro ho5 hb5); clear ho5 hb5 hg5 hat5) | (go_at_fn 33; refine (HREC.out _ _ HO5.out.2 HO5.out.1).mono ?_; rintro e w9 ⟨rfl, ⟨vl9, vg9, hl9⟩, hu9, hg9⟩; obtain ⟨hcv, hfv⟩ := rowB_at hu9 mm true HSS.out.2; have HL9 := aM hl9; have HU9 := aM hu9; have HG9 := aM hg9; clear hl9 hu9 hg9))
         have HL10 := aM (HL9.out.setU (v := .bool false) HU9.out mm)
         have HU10 := aM (rowB_set HU9.out mm false)
         rw [HSS.out.1] at HU10
         have HG10 := aM (HG9.out.trans (ChgY.setCell ⟨gU, mm, none⟩ (.bool false) (fun o => ⟨HB.out.1.2.2, .inr (.inr (.inl rfl))⟩)))
         go_roundg (10 - (n + 1))
         case measure => omega
         case rel => exact ⟨n + 1, _, _, by go_num, by omega, Nat.le_refl _, ⟨by rw [HFOLD.out, HSN.out]; exact HL10.out⟩, HU10, HG10⟩
      ·obtain rfl : n = 10 := by omega
       have hltz : ¬ ((10 : Nat) : Int) ≤ 9 := by omega
       go_wp2
       go_end0
       exact ⟨rfl, ⟨_, _, by rw [HV.out]; exact HL3.out⟩, HU3.out, HG3.out⟩

end Go.Proofs.Ytdklmjpimgeejaa.P
