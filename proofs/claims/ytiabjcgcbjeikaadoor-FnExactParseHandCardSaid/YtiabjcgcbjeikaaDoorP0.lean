-- Printed by a program of this session (wip/myprint.py, which drives the kit's print): what one function of the program does, and the proof that its call does so.
import Derived.Test.YtiabjcgcbjeikaaDoorProg
import Derived.Below
import Derived.Deep.Draws
import Derived.Deep.AppendLies
import Derived.Maps.AppendAt
import Derived.OwnWalk
import Derived.Laws.BytesArg
import Derived.Laws.MakeOwn
import Derived.Laws.OwnMore
import Derived.Deep.OwnRows
import Derived.Tactics
import Derived.Lib.ConvBytes
import Derived.Laws.Slices
import Derived.WalkKit
import Derived.KernelRfl
import Derived.RowKit3
import Derived.Deep.LoopGhost
import Derived.Deep.QuietTactic
import Derived.BigQuiet
import Derived.WideLaws
import Derived.Deep.DeepCutAuto
import Derived.Deep.CutBlock
import Derived.Deep.RegionHeld3
import Derived.Laws.Rows
import Derived.Lib.AppendStr
import Derived.ArgAppend
import Derived.Laws.IdiomCopy
import Derived.OrdersHeld
import Derived.Laws.BitsLemmas
import Derived.RowKit
import Derived.Shelf.Abstract
import Derived.Deep.Slices
import Derived.Deep.Fields
import Derived.ChangeSame
import Derived.Lib.Hide
import Derived.Deep.DeepFit
import Derived.Test.YtiabjcgcbjeikaaDoorWWords
import Derived.Test.YtiabjcgcbjeikaaDoorWLast
import Derived.Test.YtiabjcgcbjeikaaDoorWTab
import Derived.Test.YtiabjcgcbjeikaaDoorWFour
import Derived.Test.YtiabjcgcbjeikaaDoorWQPut
import Derived.Test.YtiabjcgcbjeikaaDoorWApart
import Derived.Test.YtiabjcgcbjeikaaDoorWArr
import Derived.Test.YtiabjcgcbjeikaaDoorWZeros
import Derived.Test.YtiabjcgcbjeikaaDoorWFoot
import Derived.Test.YtiabjcgcbjeikaaDoorWKept
import Derived.Test.YtiabjcgcbjeikaaDoorWShare
import Derived.Test.YtiabjcgcbjeikaaDoorWN
import Derived.Test.YtiabjcgcbjeikaaDoorWFootNe
import Derived.Test.YtiabjcgcbjeikaaDoorWAt
import Derived.Test.YtiabjcgcbjeikaaDoorWEqStruct
import Derived.Test.YtiabjcgcbjeikaaDoorWRepsOne
import Derived.Test.YtiabjcgcbjeikaaDoorWInv
import Derived.Test.YtiabjcgcbjeikaaDoorWInvWords
import Derived.Test.YtiabjcgcbjeikaaDoorWGuard
import Derived.Test.YtiabjcgcbjeikaaDoorWNEv
import Derived.Test.YtiabjcgcbjeikaaDoorWMore
namespace Go.Proofs.YtiabjcgcbjeikaaDoor.P
open Go.RowKit Go.Proofs.YtiabjcgcbjeikaaDoorW.PrintWords Go.Proofs.YtiabjcgcbjeikaaDoorW.PrintLast Go.Proofs.YtiabjcgcbjeikaaDoorW.PrintMore
attribute [local go_sem] max2_int min2_int max_two min_two max_three min_three max_four min_four   -- for this text's walks alone
set_option linter.unusedVariables false
set_option linter.unusedSimpArgs false

def errW : Option Int → Value
  | none => .nilIface
  | some c => .iface 0 (.int .i64 c)
theorem errW_none : errW none = .nilIface := rfl
theorem errW_some (c : Int) : errW (some c) = .iface 0 (.int .i64 c) := rfl

theorem info9 : (Tryd.prog.info? 9).map (fun i => (i.zero, i.size, i.bytes)) = some (some (.string ⟨#[]⟩), 1, 16) := by kernel_rfl
theorem info31 : (Tryd.prog.info? 31).map (fun i => (i.zero, i.size, i.bytes)) = some (some (.agg #[(.int .i64 0), (.int .i64 0)]), 2, 16) := by kernel_rfl
-- the values' own types
/-! #### struct type 31 -/
structure S31 where
  f0 : Int
  f1 : Int
def z31 : S31 := ⟨(0 : Int), (0 : Int)⟩
def k31 : Kd S31 := Kd.iso (Kd.pair (Kd.int .i64) (Kd.int .i64)) (fun x : S31 => (x.f0, x.f1))
theorem k31_open {w : World} {x : S31} {cs : List Value} (h : k31.K w x cs) : cs = [.int .i64 x.f0, .int .i64 x.f1] := by
  obtain ⟨_, _, rfl, rfl, rfl⟩ := h
  exact rfl
theorem k31_openM {w : World} {base : Nat} {ok : Nat → Prop} {x : S31} {cs : List Value} (h : k31.M w base ok x cs) : cs = [.int .i64 x.f0, .int .i64 x.f1] := by
  obtain ⟨_, _, rfl, rfl, rfl⟩ := h
  exact rfl
theorem k31_mk (w : World) (x : S31)  : k31.K w x [.int .i64 x.f0, .int .i64 x.f1] := ⟨[.int .i64 x.f0], [.int .i64 x.f1], rfl, rfl, rfl⟩
theorem k31_mkM (w : World) (base : Nat) (ok : Nat → Prop) (x : S31)  : k31.M w base ok x [.int .i64 x.f0, .int .i64 x.f1] := ⟨[.int .i64 x.f0], [.int .i64 x.f1], rfl, rfl, rfl⟩
def rd_T31 (xs : List S31) (i : Int) : S31 := xs.getD i.toNat z31
theorem at_T31 {w : World} {A : Option Addr} {n : Nat} {xs : List S31} (h : Kd.C k31 w A n xs) (i : Int) (h0 : 0 ≤ i) (h1 : i < n) : ∃ ad , A = some ad ∧ w.cell? (ad.add (i.toNat * 2)) = some (.int .i64 (rd_T31 xs i).f0) ∧ w.cell? ⟨(ad.add (i.toNat * 2)).block, (ad.add (i.toNat * 2)).off + 1, none⟩ = some (.int .i64 (rd_T31 xs i).f1) := by
  obtain ⟨ad, c, e, _, hK, hc0⟩ := Kd.C_get h z31 i h0 h1
  have hc : ∀ j u, c[j]? = some u → w.cell? (ad.add (i.toNat * 2 + j)) = some u := hc0
  obtain rfl := k31_open hK
  exact ⟨ad, e, hc 0 _ rfl, by rw [← add_field _ _ 1 (by omega)]; exact hc 1 _ rfl⟩

def rd_L3 (xs : List (List ByteArray)) (i : Int) : (List ByteArray) := xs.getD i.toNat ([] : List ByteArray)
theorem at_L3 {w : World} {A : Option Addr} {n : Nat} {xs : List (List ByteArray)} (h : Kd.C (Kd.slice 9 Kd.string) w A n xs) (i : Int) (h0 : 0 ≤ i) (h1 : i < n) : ∃ ad A0 c0, A = some ad ∧ w.cell? (ad.add i.toNat) = some (.slice A0 (rd_L3 xs i).length c0) ∧ (rd_L3 xs i).length ≤ c0 ∧ Kd.string.C w A0 (rd_L3 xs i).length (rd_L3 xs i) := by
  obtain ⟨ad, c, e, _, hK, hc0⟩ := Kd.C_get h ([] : List ByteArray) i h0 h1
  have hc : ∀ j u, c[j]? = some u → w.cell? (ad.add (i.toNat * 1 + j)) = some u := hc0
  obtain ⟨A0, c0, rfl, l0, g0⟩ := hK
  exact ⟨ad, A0, c0, e, by have hq := hc 0 _ rfl; rwa [Nat.mul_one, Nat.add_zero] at hq, l0, g0⟩

def rd_L4 (xs : List (List S31)) (i : Int) : (List S31) := xs.getD i.toNat ([] : List S31)
theorem at_L4 {w : World} {A : Option Addr} {n : Nat} {xs : List (List S31)} (h : Kd.C (Kd.slice 31 k31) w A n xs) (i : Int) (h0 : 0 ≤ i) (h1 : i < n) : ∃ ad A0 c0, A = some ad ∧ w.cell? (ad.add i.toNat) = some (.slice A0 (rd_L4 xs i).length c0) ∧ (rd_L4 xs i).length ≤ c0 ∧ k31.C w A0 (rd_L4 xs i).length (rd_L4 xs i) := by
  obtain ⟨ad, c, e, _, hK, hc0⟩ := Kd.C_get h ([] : List S31) i h0 h1
  have hc : ∀ j u, c[j]? = some u → w.cell? (ad.add (i.toNat * 1 + j)) = some u := hc0
  obtain ⟨A0, c0, rfl, l0, g0⟩ := hK
  exact ⟨ad, A0, c0, e, by have hq := hc 0 _ rfl; rwa [Nat.mul_one, Nat.add_zero] at hq, l0, g0⟩

/-! #### what comes in is read: slices and structs, whatever they hold (written by hand) -/
section
open Go.ChangeShapes Go.WideShapes Go.Deep
variable {H : Type} {enc : TypeId × Value → H} {P : Program} {w : World} {base : Nat} {spare : Nat → Bool} {held : Bool}
/-- What is read at type t is of the kind d. -/
def Tr {α : Type} (enc : TypeId × Value → H) (P : Program) (w : World) (base : Nat) (spare : Nat → Bool) (held : Bool) (t : TypeId) (d : Kd α) : Prop :=
  ∀ n cs x, DataW.trod enc P w base spare held n t cs = some x → ∃ p, d.K w p cs
theorem tr_int {t : TypeId} {k : IntKind} (ht : P.underlying t = some (.int k)) : Tr enc P w base spare held t (Kd.int k) := by
  intro n cs x h
  obtain ⟨z, hz, _⟩ := DataW.trod_int ht h
  exact ⟨z, hz⟩
theorem tr_struct2 {α β : Type} {a : Kd α} {b : Kd β} {t : TypeId} {f0 f1 : Field} (hs : P.underlying t = some (.struct #[f0, f1])) (h0 : f0.offset = 0) (h1 : f1.offset = P.cellsOf f0.type) (hc : P.cellsOf t = P.cellsOf f0.type + P.cellsOf f1.type)
    (T0 : Tr enc P w base spare held f0.type a) (T1 : Tr enc P w base spare held f1.type b) : Tr enc P w base spare held t (Kd.pair a b) := by
  intro n cs x h
  obtain ⟨xs, m, _, _, hl, hlen, hf⟩ := DataW.trod_struct hs h
  have e0 := hf 0 f0 rfl
  have e1 := hf 1 f1 rfl
  match xs, hlen with
  | [y0, y1], _ =>
    obtain ⟨p0, hp0⟩ := T0 m _ y0 e0
    obtain ⟨p1, hp1⟩ := T1 m _ y1 e1
    refine ⟨(p0, p1), _, _, ?_, hp0, hp1⟩
    rw [h0, h1, List.drop_zero]
    have : (cs.drop (P.cellsOf f0.type)).take (P.cellsOf f1.type) = cs.drop (P.cellsOf f0.type) := List.take_of_length_le (by rw [List.length_drop]; omega)
    rw [this, List.take_append_drop]
theorem tr_iso {α β : Type} {d : Kd α} {t : TypeId} (f : β → α) (g : α → β) (hfg : ∀ p, f (g p) = p) (h : Tr enc P w base spare held t d) : Tr enc P w base spare held t (Kd.iso d f) := by
  intro n cs x hx
  obtain ⟨p, hp⟩ := h n cs x hx
  exact ⟨g p, by show d.K w (f (g p)) cs; rw [hfg]; exact hp⟩
theorem reads_slice {α : Type} {d : Kd α} {t e : TypeId} {a : Option Addr} {len cap : Nat} {dd : DataW H} {p : List MemPlace} (T : Tr enc P w base spare held e d) (ht : P.underlying t = some (.slice e)) (hsz : P.cellsOf e = d.sz)
    (h : DataW.Trod enc P w base spare held t (.slice a len cap) dd p) : ∃ l : List α, l.length = len ∧ l.length ≤ maxLen ∧ l.length ≤ cap ∧ d.C w a l.length l := by
  obtain ⟨fuel, hf⟩ := h
  rcases open_slice ht hf with ⟨hcs, _⟩ | ⟨x, l, c, m, n, D, Pl, hcs, _, hl, hm, hmm, _, hi⟩
  · simp [Value.cells] at hcs
    obtain ⟨rfl, rfl, rfl⟩ := hcs
    exact ⟨[], rfl, by simp, by simp, rfl, by simp, by simp⟩
  · simp [Value.cells] at hcs
    obtain ⟨rfl, rfl, rfl⟩ := hcs
    have hlm : len ≤ m := by rw [hmm]; split <;> omega
    have hex : ∀ i, ∃ q : Option α, i < len → ∃ y, q = some y ∧ ∃ c, c.length = d.sz ∧ d.K w y c ∧ ∀ j u, c[j]? = some u → w.cell? (x.add (i * d.sz + j)) = some u := by
      intro i
      by_cases hil : i < len
      · obtain ⟨cs', hc, htr⟩ := hi i (by omega)
        obtain ⟨y, hy⟩ := T n cs' _ htr
        obtain ⟨_, hcl, hat⟩ := World.cells?_some hc
        refine ⟨some y, fun _ => ⟨y, rfl, cs', by rw [hcl, hsz], hy, fun j u hu => ?_⟩⟩
        have hj : j < cs'.length := (List.getElem?_eq_some_iff.1 hu).1
        rw [← hsz, ← Go.Deep.add_add, hat j (by omega), hu]
      · exact ⟨none, fun h => absurd h hil⟩
    have hch := fun i => Classical.choose_spec (hex i)
    generalize (fun i => Classical.choose (hex i)) = q at hch
    have key : ∀ m, m ≤ len → ∃ l : List α, l.length = m ∧ ∀ j y, l[j]? = some y → ∃ c, c.length = d.sz ∧ d.K w y c ∧ ∀ i u, c[i]? = some u → w.cell? (x.add (j * d.sz + i)) = some u := by
      intro m
      induction m with
      | zero => exact fun _ => ⟨[], rfl, fun j y h => by simp at h⟩
      | succ m ih =>
        intro hml
        obtain ⟨l, hl1, hl2⟩ := ih (by omega)
        obtain ⟨y, _, hy⟩ := hch m (by omega)
        refine ⟨l ++ [y], by simp [hl1], fun j z hz => ?_⟩
        rcases Nat.lt_or_ge j l.length with hj | hj
        · rw [List.getElem?_append_left hj] at hz
          exact hl2 j z hz
        · have hj' : j = l.length := by
            have := (List.getElem?_eq_some_iff.1 hz).1
            rw [List.length_append, List.length_singleton] at this
            omega
          subst hj'
          have : y = z := by simpa using hz
          subst this
          rw [hl1]
          exact hy
    obtain ⟨l, hl1, hl2⟩ := key len (Nat.le_refl _)
    refine ⟨l, hl1, by omega, by omega, rfl, by simp [maxLen] at hm; omega, fun _ => ⟨x, rfl, hl2⟩⟩
theorem reads_agg {α : Type} {d : Kd α} {t : TypeId} {fs : Array Field} {v : Value} {dd : DataW H} {p : List MemPlace} {r : Reach} {b0 : Nat} (T : Tr enc P w base spare held t d) (hs : P.underlying t = some (.struct fs))
    (h : DataW.Trod enc P w base spare held t v dd p) (hv : Value.okWide P w r b0 t v) : ∃ (x : α) (cs : Array Value), v = .agg cs ∧ d.K w x cs.toList := by
  obtain ⟨cs, rfl, hsz⟩ := okWide_struct hs hv
  obtain ⟨fuel, hf⟩ := h
  obtain ⟨y, hy⟩ := T _ _ _ hf
  exact ⟨y, cs, rfl, by simpa [Value.cells] using hy⟩
end

/-! #### lists: the first place at which a predicate holds -/
def idxB {α : Type} (p : α → Bool) (l : List α) : Int := if l.any p then (l.findIdx p : Int) else -1
theorem idxB_miss {α : Type} (p : α → Bool) (l : List α) (h : ∀ j, j < l.length → ∀ x, l[j]? = some x → p x = false) : idxB p l = -1 := by
  have : l.any p = false := by
    rw [List.any_eq_false]
    intro x hx
    obtain ⟨j, hj⟩ := List.getElem?_of_mem hx
    rw [h j (List.getElem?_eq_some_iff.1 hj).1 x hj]
    simp
  rw [idxB, this]; rfl
theorem idxB_hit {α : Type} (p : α → Bool) (l : List α) (k : Nat) (x : α) (hx : l[k]? = some x) (hp : p x = true) (h : ∀ j, j < k → ∀ x, l[j]? = some x → p x = false) : idxB p l = (k : Int) := by
  have h1 : l.any p = true := List.any_eq_true.2 ⟨x, List.mem_of_getElem? hx, hp⟩
  obtain ⟨hk, rfl⟩ := List.getElem?_eq_some_iff.1 hx
  rw [idxB, h1, if_pos rfl]
  congr 1
  rw [List.findIdx_eq hk]
  exact ⟨hp, fun j hj => by rw [h j hj _ (List.getElem?_eq_getElem (by omega))]⟩
theorem idxB_nonneg {α : Type} (p : α → Bool) (l : List α) : decide (idxB p l ≥ 0) = l.any p := by
  unfold idxB
  cases l.any p <;> simp
theorem idxB_nonneg' {α : Type} (p : α → Bool) (l : List α) : decide (0 ≤ idxB p l) = l.any p := idxB_nonneg p l

/-! #### an own row, cell by cell (written by hand) -/
/-- Of the first j places' elements those that are kept lie at the head; from place j on the row is as it was. -/
structure KeptL {α : Type} (q : α → Bool) (l : List α) (j i : Nat) (m : List α) : Prop where
  len : m.length = l.length
  lt : i < j
  le : j ≤ l.length
  low : m.take i = (l.take j).filter q
  high : ∀ t, j ≤ t → m[t]? = l[t]?
theorem KeptL.start {α : Type} {q : α → Bool} {l : List α} {k : Nat} (hk : k < l.length) (hq : q l[k] = false) (ha : ∀ t, t < k → ∀ x, l[t]? = some x → q x = true) : KeptL q l (k + 1) k l := by
  refine ⟨rfl, Nat.lt_succ_self _, hk, ?_, fun _ _ => rfl⟩
  rw [List.take_succ_eq_append_getElem hk, List.filter_append, List.filter_cons_of_neg (by rw [hq]; decide), List.filter_nil, List.append_nil, List.filter_eq_self.2]
  intro x hx
  obtain ⟨t, ht, rfl⟩ := List.getElem_of_mem hx
  simp only [List.length_take] at ht
  exact ha t (by omega) _ (by rw [List.getElem_take]; exact List.getElem?_eq_getElem (by omega))
theorem KeptL.keep {α : Type} {q : α → Bool} {l m : List α} {j i : Nat} (h : KeptL q l j i m) (hj : j < l.length) (hq : q l[j] = true) : KeptL q l (j + 1) (i + 1) (m.set i l[j]) := by
  have h1 := h.lt
  have h2 := h.len
  refine ⟨by simp [h.len], by omega, hj, ?_, fun t ht => by rw [List.getElem?_set_ne (by omega)]; exact h.high t (by omega)⟩
  rw [List.take_succ_eq_append_getElem hj, List.filter_append, ← h.low, List.filter_cons_of_pos hq, List.filter_nil, List.take_succ_eq_append_getElem (by simp; omega), List.take_set_of_le (Nat.le_refl _), List.getElem_set_self]
theorem KeptL.skip {α : Type} {q : α → Bool} {l m : List α} {j i : Nat} (h : KeptL q l j i m) (hj : j < l.length) (hq : q l[j] = false) : KeptL q l (j + 1) i m := by
  have h1 := h.lt
  refine ⟨h.len, by omega, hj, ?_, fun t ht => h.high t (by omega)⟩
  rw [List.take_succ_eq_append_getElem hj, List.filter_append, ← h.low, List.filter_cons_of_neg (by rw [hq]; decide), List.filter_nil, List.append_nil]
theorem heap_setCell_at {w : World} {g o : Nat} {v : Value} {cur : Array Value} {e : TypeId} {fr : Nat × Nat} (h : w.heap[g]? = some (.cells cur e fr)) : (w.setCell ⟨g, o, none⟩ v).heap[g]? = some (.cells (cur.setIfInBounds o v) e fr) := by
  simp [World.setCell, Array.getElem?_modify, h]
theorem below_row_set {w0 w : World} {B g o : Nat} {v : Value} (h : Below B w0 w) (hg : B ≤ g) : Below B w0 (w.setCell ⟨g, o, none⟩ v) := by
  refine h.trans ⟨rfl, rfl, rfl, by simp [World.setCell], fun k hk => ?_⟩
  simp only [World.setCell, Array.getElem?_modify]
  rw [if_neg (by omega)]
theorem heap_setCells_at {g : Nat} {e : TypeId} {fr : Nat × Nat} : ∀ (vs : List Value) (w : World) (o : Nat) (cur : Array Value), w.heap[g]? = some (.cells cur e fr) → ∃ cur', (w.setCells g o vs).heap[g]? = some (.cells cur' e fr) ∧ cur'.size = cur.size ∧ ∀ j, j < o → cur'[j]? = cur[j]?
  | [], w, o, cur, h => ⟨cur, h, rfl, fun _ _ => rfl⟩
  | v :: vs, w, o, cur, h => by
    obtain ⟨c, h1, h2, h3⟩ := heap_setCells_at vs (w.setCell ⟨g, o, none⟩ v) (o + 1) _ (heap_setCell_at h)
    exact ⟨c, h1, by simpa using h2, fun j hj => by rw [h3 j (by omega), Array.getElem?_setIfInBounds_ne (by omega)]⟩
theorem below_setCells {w0 : World} {B g : Nat} (hg : B ≤ g) : ∀ (vs : List Value) (w : World) (o : Nat), Below B w0 w → Below B w0 (w.setCells g o vs)
  | [], w, o, h => h
  | v :: vs, w, o, h => below_setCells hg vs _ _ (below_row_set h hg)
/-- A block whose first cells are the whole numbers of a list. -/
def rowI (w : World) (g cap : Nat) (m : List Int) : Prop :=
  ∃ cur : Array Value, w.heap[g]? = some (.cells cur 3 (0, 0)) ∧ cur.size = cap ∧ m.length ≤ cap ∧ ∀ (i : Nat) (x : Int), m[i]? = some x → cur[i]? = some (Value.int .i64 x)
theorem rowI_below {w w' : World} {g cap : Nat} {m : List Int} (h : rowI w g cap m) (hb : Below w.heap.size w w') : rowI w' g cap m := by
  obtain ⟨cur, h1, h2⟩ := h
  exact ⟨cur, (hb.block g (Array.getElem?_eq_some_iff.1 h1).1).trans h1, h2⟩
theorem rowI_lt {w : World} {g cap : Nat} {m : List Int} (h : rowI w g cap m) : g < w.heap.size := by
  obtain ⟨cur, h1, h2⟩ := h
  exact (Array.getElem?_eq_some_iff.1 h1).1
theorem rowI_at {w : World} {g cap : Nat} {m : List Int} (h : rowI w g cap m) (i : Nat) (x : Int) (hx : m[i]? = some x) : w.cell? ⟨g, i, none⟩ = some (Value.int .i64 x) ∧ w.frozen? ⟨g, i, none⟩ = false := by
  obtain ⟨cur, h1, h2, h3, h4⟩ := h
  have a := h4 i x hx
  refine ⟨?_, by simp [World.frozen?, h1]⟩
  simp only [World.cell?, h1]; simpa using a
theorem rowI_set {w : World} {g cap : Nat} {m : List Int} (h : rowI w g cap m) (i : Nat) (x : Int) (hi : i < m.length) : rowI (w.setCell ⟨g, i, none⟩ (.int .i64 x)) g cap (m.set i x) := by
  obtain ⟨cur, h1, h2, h3, h4⟩ := h
  refine ⟨_, heap_setCell_at h1, by simp [h2], by simpa using h3, fun j y hy => ?_⟩
  by_cases e : j = i
  · subst e
    rw [List.getElem?_set_self hi] at hy
    cases hy
    rw [Array.getElem?_setIfInBounds_self_of_lt (by omega)]
  · rw [List.getElem?_set_ne (by omega)] at hy
    rw [Array.getElem?_setIfInBounds_ne (by omega)]
    exact h4 j y hy
/-- Behind a clearing of the cells from place k on the first k numbers are as they were. -/
theorem rowI_clear {w : World} {g cap : Nat} {m : List Int} (h : rowI w g cap m) (k : Nat) (hk : k ≤ m.length) (vs : List Value) : rowI (w.setCells g k vs) g cap (m.take k) := by
  obtain ⟨cur, h1, h2, h3, h4⟩ := h
  obtain ⟨c, k1, k2, k3⟩ := heap_setCells_at vs w k cur h1
  refine ⟨c, k1, by omega, by simp; omega, fun i x hx => ?_⟩
  have hik : i < k := by
    have := (List.getElem?_eq_some_iff.1 hx).1
    simp at this; omega
  rw [List.getElem?_take_of_lt hik] at hx
  rw [k3 _ hik]
  exact h4 i x hx
theorem R_of_rowI {w : World} {base g cap : Nat} {ok : Nat → Prop} {m : List Int} (h : rowI w g cap m) (hg : base ≤ g) (hok : ok g) (hc : cap ≤ maxLen) : Kd.R (Kd.int .i64) 3 w base ok (.slice (some ⟨g, 0, none⟩) m.length cap) m := by
  obtain ⟨cur, h1, h2, h3, h4⟩ := h
  have hl : (cur.toList.take (m.length * 1)).length = m.length * 1 := by simp; omega
  refine ⟨fun k hk => ?_, cur.toList.take (m.length * 1), ⟨hl, .inr ⟨g, cap, cur, rfl, hg, h1, h3, hc, by rw [h2]; exact (Nat.mul_one _).symm, rfl⟩⟩, hl, fun j p hj => ?_⟩
  · have : g = k := by simpa [Value.ownBlock] using hk
    subst this; exact hok
  · have a := h4 j p hj
    have hjl := (List.getElem?_eq_some_iff.1 hj).1
    show ((cur.toList.take (m.length * 1)).drop (j * 1)).take 1 = [Value.int .i64 p]
    apply List.ext_getElem?
    intro i
    match i with
    | 0 => rw [List.getElem?_take_of_lt (by omega), List.getElem?_drop, List.getElem?_take_of_lt (by omega), Array.getElem?_toList]; simpa using a
    | i + 1 => rw [List.getElem?_take_eq_none (by omega)]; simp
theorem rowI_of_R {w : World} {base : Nat} {ok : Nat → Prop} {v : Value} {l : List Int} (h : Kd.R (Kd.int .i64) 3 w base ok v l) : (v = .slice none 0 0 ∧ l = []) ∨ ∃ g cap, v = .slice (some ⟨g, 0, none⟩) l.length cap ∧ base ≤ g ∧ ok g ∧ l.length ≤ cap ∧ cap ≤ maxLen ∧ rowI w g cap l := by
  obtain ⟨hok, inner, ⟨hl, hd⟩, hr⟩ := h
  rcases hd with ⟨rfl, hn⟩ | ⟨g, cap, cur, rfl, hg, hb, h1, h2, h3, h4⟩
  · exact .inl ⟨rfl, List.length_eq_zero_iff.1 hn⟩
  · refine .inr ⟨g, cap, rfl, hg, hok g (by simp [Value.ownBlock]), h1, h2, cur, hb, h3.trans (Nat.mul_one _), h1, fun i x hx => ?_⟩
    obtain ⟨hi, rfl⟩ := List.getElem?_eq_some_iff.1 hx
    have hM := hr.2 i _ hx
    have hM2 : (inner.drop (i * 1)).take 1 = [Value.int .i64 l[i]] := hM
    have h0 : ((inner.drop (i * 1)).take 1)[0]? = some (Value.int .i64 l[i]) := by rw [hM2]; rfl
    subst h4
    rw [List.getElem?_take_of_lt (by omega), List.getElem?_drop, List.getElem?_take_of_lt (by show _ < l.length * 1; omega), Array.getElem?_toList] at h0
    simpa using h0
def clearI (n : Nat) : List Value := (Builtin.zeroCells #[.int .i64 0] n).toList
theorem clearI_length (n : Nat) : (clearI n).length = n := by simp [clearI, Builtin.zeroCells]
theorem clearI_one (n : Nat) : ∀ v ∈ clearI n, v.oneCell' = true := by
  intro v hv
  simp only [clearI, Builtin.zeroCells, Array.toList_map, List.mem_map] at hv
  obtain ⟨i, _, rfl⟩ := hv
  have e : (#[Value.int .i64 0] : Array Value).size = 1 := rfl
  rw [e, Nat.mod_one]; rfl
theorem rowI_drawn {w w' : World} {g cap : Nat} {m : List Int} (h : rowI w g cap m) (hd : Drawn0 w w') : rowI w' g cap m := rowI_below h hd.below
theorem below_drawn {B : Nat} {w0 w w' : World} (h : Below B w0 w) (hB : B ≤ w.heap.size) (hd : Drawn0 w w') : Below B w0 w' := below_then h hB hd.below

/-! #### equality of tiles -/
theorem tile_ext (a b : S31) : a = b ↔ a.f0 = b.f0 ∧ a.f1 = b.f1 := by cases a; cases b; simp
instance tileDec : DecidableEq S31 := fun a b => decidable_of_iff _ (tile_ext a b).symm
instance tileInh : Inhabited S31 := ⟨z31⟩

end Go.Proofs.YtiabjcgcbjeikaaDoor.P
