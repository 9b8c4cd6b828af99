-- Printed by a program of this session (wip/myprint.py, which drives the kit's print): what one function of the program does, and the proof that its call does so.
import Derived.Test.YtafehlajangbfaaProg
import Derived.Below
import Derived.Deep.Draws
import Derived.Deep.AppendLies
import Derived.Maps.AppendAt
import Derived.OwnWalk
import Derived.Laws.BytesArg
import Derived.Laws.MakeOwn
import Derived.Laws.OwnMore
import Derived.Deep.OwnRows
import Derived.Tactics
import Derived.Lib.ConvBytes
import Derived.Laws.Slices
import Derived.WalkKit
import Derived.KernelRfl
import Derived.RowKit3
import Derived.Deep.LoopGhost
import Derived.Deep.QuietTactic
import Derived.BigQuiet
import Derived.WideLaws
import Derived.Deep.DeepCutAuto
import Derived.Deep.CutBlock
import Derived.Deep.RegionHeld3
import Derived.Laws.Rows
import Derived.Lib.AppendStr
import Derived.ArgAppend
import Derived.Laws.IdiomCopy
import Derived.OrdersHeld
import Derived.Laws.BitsLemmas
import Derived.RowKit
import Derived.Deep.Slices
import Derived.Deep.Fields
import Derived.ChangeSame
import Derived.Lib.Hide
import Derived.Deep.DeepFit
import Derived.Test.YtafehlajangbfaaWWords
import Derived.Test.YtafehlajangbfaaWLast
import Derived.Test.YtafehlajangbfaaWTab
import Derived.Test.YtafehlajangbfaaWFour
import Derived.Test.YtafehlajangbfaaWQPut
import Derived.Test.YtafehlajangbfaaWApart
import Derived.Test.YtafehlajangbfaaWArr
import Derived.Test.YtafehlajangbfaaWZeros
import Derived.Test.YtafehlajangbfaaWFoot
import Derived.Test.YtafehlajangbfaaWKept
import Derived.Test.YtafehlajangbfaaWShare
import Derived.Test.YtafehlajangbfaaWN
import Derived.Test.YtafehlajangbfaaWFootNe
import Derived.Test.YtafehlajangbfaaWAt
import Derived.Test.YtafehlajangbfaaWEqStruct
import Derived.Test.YtafehlajangbfaaWRepsOne
import Derived.Test.YtafehlajangbfaaWInv
import Derived.Test.YtafehlajangbfaaWInvWords
import Derived.Test.YtafehlajangbfaaWGuard
import Derived.Test.YtafehlajangbfaaWNEv
import Derived.Test.YtafehlajangbfaaWMore
namespace Go.Proofs.Ytafehlajangbfaa.P
open Go.RowKit Go.Proofs.YtafehlajangbfaaW.PrintWords Go.Proofs.YtafehlajangbfaaW.PrintLast Go.Proofs.YtafehlajangbfaaW.PrintMore
attribute [local go_sem] max2_int min2_int max_two min_two max_three min_three max_four min_four   -- for this text's walks alone
set_option linter.unusedVariables false
set_option linter.unusedSimpArgs false

def errW : Option Int → Value
  | none => .nilIface
  | some c => .iface 0 (.int .i64 c)
theorem errW_none : errW none = .nilIface := rfl
theorem errW_some (c : Int) : errW (some c) = .iface 0 (.int .i64 c) := rfl

theorem info26 : (Try.prog.info? 26).map (fun i => (i.zero, i.size, i.bytes)) = some (some (.agg #[(.int .i64 0), (.int .i64 0)]), 2, 16) := by kernel_rfl
-- the values' own types
/-! #### struct type 24 -/
structure S24 where
  f0 : Int
  f1 : Int
def z24 : S24 := ⟨(0 : Int), (0 : Int)⟩
def k24 : Kd S24 := Kd.iso (Kd.pair (Kd.int .i64) (Kd.int .i64)) (fun x : S24 => (x.f0, x.f1))
theorem k24_open {w : World} {x : S24} {cs : List Value} (h : k24.K w x cs) : cs = [.int .i64 x.f0, .int .i64 x.f1] := by
  obtain ⟨_, _, rfl, rfl, rfl⟩ := h
  exact rfl
theorem k24_openM {w : World} {base : Nat} {ok : Nat → Prop} {x : S24} {cs : List Value} (h : k24.M w base ok x cs) : cs = [.int .i64 x.f0, .int .i64 x.f1] := by
  obtain ⟨_, _, rfl, rfl, rfl⟩ := h
  exact rfl
theorem k24_mk (w : World) (x : S24)  : k24.K w x [.int .i64 x.f0, .int .i64 x.f1] := ⟨[.int .i64 x.f0], [.int .i64 x.f1], rfl, rfl, rfl⟩
theorem k24_mkM (w : World) (base : Nat) (ok : Nat → Prop) (x : S24)  : k24.M w base ok x [.int .i64 x.f0, .int .i64 x.f1] := ⟨[.int .i64 x.f0], [.int .i64 x.f1], rfl, rfl, rfl⟩
def rd_T24 (xs : List S24) (i : Int) : S24 := xs.getD i.toNat z24
theorem at_T24 {w : World} {A : Option Addr} {n : Nat} {xs : List S24} (h : Kd.C k24 w A n xs) (i : Int) (h0 : 0 ≤ i) (h1 : i < n) : ∃ ad , A = some ad ∧ w.cell? (ad.add (i.toNat * 2)) = some (.int .i64 (rd_T24 xs i).f0) ∧ w.cell? ⟨(ad.add (i.toNat * 2)).block, (ad.add (i.toNat * 2)).off + 1, none⟩ = some (.int .i64 (rd_T24 xs i).f1) := by
  obtain ⟨ad, c, e, _, hK, hc0⟩ := Kd.C_get h z24 i h0 h1
  have hc : ∀ j u, c[j]? = some u → w.cell? (ad.add (i.toNat * 2 + j)) = some u := hc0
  obtain rfl := k24_open hK
  exact ⟨ad, e, hc 0 _ rfl, by rw [← add_field _ _ 1 (by omega)]; exact hc 1 _ rfl⟩

/-! #### struct type 26 -/
structure S26 where
  f0 : Int
  f1 : Int
def z26 : S26 := ⟨(0 : Int), (0 : Int)⟩
def k26 : Kd S26 := Kd.iso (Kd.pair (Kd.int .i64) (Kd.int .i64)) (fun x : S26 => (x.f0, x.f1))
theorem k26_open {w : World} {x : S26} {cs : List Value} (h : k26.K w x cs) : cs = [.int .i64 x.f0, .int .i64 x.f1] := by
  obtain ⟨_, _, rfl, rfl, rfl⟩ := h
  exact rfl
theorem k26_openM {w : World} {base : Nat} {ok : Nat → Prop} {x : S26} {cs : List Value} (h : k26.M w base ok x cs) : cs = [.int .i64 x.f0, .int .i64 x.f1] := by
  obtain ⟨_, _, rfl, rfl, rfl⟩ := h
  exact rfl
theorem k26_mk (w : World) (x : S26)  : k26.K w x [.int .i64 x.f0, .int .i64 x.f1] := ⟨[.int .i64 x.f0], [.int .i64 x.f1], rfl, rfl, rfl⟩
theorem k26_mkM (w : World) (base : Nat) (ok : Nat → Prop) (x : S26)  : k26.M w base ok x [.int .i64 x.f0, .int .i64 x.f1] := ⟨[.int .i64 x.f0], [.int .i64 x.f1], rfl, rfl, rfl⟩
def rd_T26 (xs : List S26) (i : Int) : S26 := xs.getD i.toNat z26
theorem at_T26 {w : World} {A : Option Addr} {n : Nat} {xs : List S26} (h : Kd.C k26 w A n xs) (i : Int) (h0 : 0 ≤ i) (h1 : i < n) : ∃ ad , A = some ad ∧ w.cell? (ad.add (i.toNat * 2)) = some (.int .i64 (rd_T26 xs i).f0) ∧ w.cell? ⟨(ad.add (i.toNat * 2)).block, (ad.add (i.toNat * 2)).off + 1, none⟩ = some (.int .i64 (rd_T26 xs i).f1) := by
  obtain ⟨ad, c, e, _, hK, hc0⟩ := Kd.C_get h z26 i h0 h1
  have hc : ∀ j u, c[j]? = some u → w.cell? (ad.add (i.toNat * 2 + j)) = some u := hc0
  obtain rfl := k26_open hK
  exact ⟨ad, e, hc 0 _ rfl, by rw [← add_field _ _ 1 (by omega)]; exact hc 1 _ rfl⟩

/-! #### what comes in is read: slices and structs, whatever they hold (written by hand) -/
section
open Go.ChangeShapes Go.WideShapes Go.Deep
variable {H : Type} {enc : TypeId × Value → H} {P : Program} {w : World} {base : Nat} {spare : Nat → Bool} {held : Bool}
/-- What is read at type t is of the kind d. -/
def Tr {α : Type} (enc : TypeId × Value → H) (P : Program) (w : World) (base : Nat) (spare : Nat → Bool) (held : Bool) (t : TypeId) (d : Kd α) : Prop :=
  ∀ n cs x, DataW.trod enc P w base spare held n t cs = some x → ∃ p, d.K w p cs
theorem tr_int {t : TypeId} {k : IntKind} (ht : P.underlying t = some (.int k)) : Tr enc P w base spare held t (Kd.int k) := by
  intro n cs x h
  obtain ⟨z, hz, _⟩ := DataW.trod_int ht h
  exact ⟨z, hz⟩
theorem tr_struct2 {α β : Type} {a : Kd α} {b : Kd β} {t : TypeId} {f0 f1 : Field} (hs : P.underlying t = some (.struct #[f0, f1])) (h0 : f0.offset = 0) (h1 : f1.offset = P.cellsOf f0.type) (hc : P.cellsOf t = P.cellsOf f0.type + P.cellsOf f1.type)
    (T0 : Tr enc P w base spare held f0.type a) (T1 : Tr enc P w base spare held f1.type b) : Tr enc P w base spare held t (Kd.pair a b) := by
  intro n cs x h
  obtain ⟨xs, m, _, _, hl, hlen, hf⟩ := DataW.trod_struct hs h
  have e0 := hf 0 f0 rfl
  have e1 := hf 1 f1 rfl
  match xs, hlen with
  | [y0, y1], _ =>
    obtain ⟨p0, hp0⟩ := T0 m _ y0 e0
    obtain ⟨p1, hp1⟩ := T1 m _ y1 e1
    refine ⟨(p0, p1), _, _, ?_, hp0, hp1⟩
    rw [h0, h1, List.drop_zero]
    have : (cs.drop (P.cellsOf f0.type)).take (P.cellsOf f1.type) = cs.drop (P.cellsOf f0.type) := List.take_of_length_le (by rw [List.length_drop]; omega)
    rw [this, List.take_append_drop]
theorem tr_iso {α β : Type} {d : Kd α} {t : TypeId} (f : β → α) (g : α → β) (hfg : ∀ p, f (g p) = p) (h : Tr enc P w base spare held t d) : Tr enc P w base spare held t (Kd.iso d f) := by
  intro n cs x hx
  obtain ⟨p, hp⟩ := h n cs x hx
  exact ⟨g p, by show d.K w (f (g p)) cs; rw [hfg]; exact hp⟩
theorem reads_slice {α : Type} {d : Kd α} {t e : TypeId} {a : Option Addr} {len cap : Nat} {dd : DataW H} {p : List MemPlace} (T : Tr enc P w base spare held e d) (ht : P.underlying t = some (.slice e)) (hsz : P.cellsOf e = d.sz)
    (h : DataW.Trod enc P w base spare held t (.slice a len cap) dd p) : ∃ l : List α, l.length = len ∧ l.length ≤ maxLen ∧ l.length ≤ cap ∧ d.C w a l.length l := by
  obtain ⟨fuel, hf⟩ := h
  rcases open_slice ht hf with ⟨hcs, _⟩ | ⟨x, l, c, m, n, D, Pl, hcs, _, hl, hm, hmm, _, hi⟩
  · simp [Value.cells] at hcs
    obtain ⟨rfl, rfl, rfl⟩ := hcs
    exact ⟨[], rfl, by simp, by simp, rfl, by simp, by simp⟩
  · simp [Value.cells] at hcs
    obtain ⟨rfl, rfl, rfl⟩ := hcs
    have hlm : len ≤ m := by rw [hmm]; split <;> omega
    have hex : ∀ i, ∃ q : Option α, i < len → ∃ y, q = some y ∧ ∃ c, c.length = d.sz ∧ d.K w y c ∧ ∀ j u, c[j]? = some u → w.cell? (x.add (i * d.sz + j)) = some u := by
      intro i
      by_cases hil : i < len
      · obtain ⟨cs', hc, htr⟩ := hi i (by omega)
        obtain ⟨y, hy⟩ := T n cs' _ htr
        obtain ⟨_, hcl, hat⟩ := World.cells?_some hc
        refine ⟨some y, fun _ => ⟨y, rfl, cs', by rw [hcl, hsz], hy, fun j u hu => ?_⟩⟩
        have hj : j < cs'.length := (List.getElem?_eq_some_iff.1 hu).1
        rw [← hsz, ← Go.Deep.add_add, hat j (by omega), hu]
      · exact ⟨none, fun h => absurd h hil⟩
    have hch := fun i => Classical.choose_spec (hex i)
    generalize (fun i => Classical.choose (hex i)) = q at hch
    have key : ∀ m, m ≤ len → ∃ l : List α, l.length = m ∧ ∀ j y, l[j]? = some y → ∃ c, c.length = d.sz ∧ d.K w y c ∧ ∀ i u, c[i]? = some u → w.cell? (x.add (j * d.sz + i)) = some u := by
      intro m
      induction m with
      | zero => exact fun _ => ⟨[], rfl, fun j y h => by simp at h⟩
      | succ m ih =>
        intro hml
        obtain ⟨l, hl1, hl2⟩ := ih (by omega)
        obtain ⟨y, _, hy⟩ := hch m (by omega)
        refine ⟨l ++ [y], by simp [hl1], fun j z hz => ?_⟩
        rcases Nat.lt_or_ge j l.length with hj | hj
        · rw [List.getElem?_append_left hj] at hz
          exact hl2 j z hz
        · have hj' : j = l.length := by
            have := (List.getElem?_eq_some_iff.1 hz).1
            rw [List.length_append, List.length_singleton] at this
            omega
          subst hj'
          have : y = z := by simpa using hz
          subst this
          rw [hl1]
          exact hy
    obtain ⟨l, hl1, hl2⟩ := key len (Nat.le_refl _)
    refine ⟨l, hl1, by omega, by omega, rfl, by simp [maxLen] at hm; omega, fun _ => ⟨x, rfl, hl2⟩⟩
theorem reads_agg {α : Type} {d : Kd α} {t : TypeId} {fs : Array Field} {v : Value} {dd : DataW H} {p : List MemPlace} {r : Reach} {b0 : Nat} (T : Tr enc P w base spare held t d) (hs : P.underlying t = some (.struct fs))
    (h : DataW.Trod enc P w base spare held t v dd p) (hv : Value.okWide P w r b0 t v) : ∃ (x : α) (cs : Array Value), v = .agg cs ∧ d.K w x cs.toList := by
  obtain ⟨cs, rfl, hsz⟩ := okWide_struct hs hv
  obtain ⟨fuel, hf⟩ := h
  obtain ⟨y, hy⟩ := T _ _ _ hf
  exact ⟨y, cs, rfl, by simpa [Value.cells] using hy⟩
end

theorem tr_T24 {H : Type} {enc : TypeId × Value → H} {w : World} {base : Nat} {spare : Nat → Bool} {held : Bool} : Tr enc Try.prog w base spare held 24 k24 := by
  unfold k24
  refine tr_iso (fun x : S24 => (x.f0, x.f1)) (fun q => ⟨q.1, q.2⟩) (fun _ => rfl) ?_
  have c3 : Try.prog.cellsOf 3 = 1 := by kernel_rfl
  have c24 : Try.prog.cellsOf 24 = 2 := by kernel_rfl
  exact tr_struct2 Try.underlying24 rfl (by rw [c3]) (by rw [c24, c3]) (tr_int Try.underlying3) (tr_int Try.underlying3)
set_option maxRecDepth 100000 in
theorem reads_T24 {H : Type} {enc : TypeId × Value → H} {w : World} {base : Nat} {spare : Nat → Bool} {held : Bool} {v : Value} {dd : DataW H} {p : List MemPlace} {r : Reach} {b0 : Nat} (h : DataW.Trod enc Try.prog w base spare held 24 v dd p) (hv : Value.okWide Try.prog w r b0 24 v) : ∃ x : S24, v = .agg #[.int .i64 x.f0, .int .i64 x.f1] := by
  obtain ⟨x, cs, rfl, hK⟩ := reads_agg (tr_T24 (enc := enc)) Try.underlying24 h hv
  refine ⟨x, ?_⟩
  have := k24_open hK
  congr 1
  exact Array.toList_inj.1 this
end Go.Proofs.Ytafehlajangbfaa.P
