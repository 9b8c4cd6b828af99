-- Printed by a program of this session (wip/myprint.py, which drives the kit's print): what one function of the program does, and the proof that its call does so.
import Derived.Test.YtgcfddomnohajaaProg
import Derived.Below
import Derived.Deep.Draws
import Derived.Deep.AppendLies
import Derived.Maps.AppendAt
import Derived.OwnWalk
import Derived.Laws.BytesArg
import Derived.Laws.MakeOwn
import Derived.Laws.OwnMore
import Derived.Deep.OwnRows
import Derived.Tactics
import Derived.Lib.ConvBytes
import Derived.Laws.Slices
import Derived.WalkKit
import Derived.KernelRfl
import Derived.RowKit3
import Derived.Deep.LoopGhost
import Derived.Deep.QuietTactic
import Derived.BigQuiet
import Derived.WideLaws
import Derived.Deep.DeepCutAuto
import Derived.Deep.CutBlock
import Derived.Deep.RegionHeld3
import Derived.Laws.Rows
import Derived.Lib.AppendStr
import Derived.ArgAppend
import Derived.Laws.IdiomCopy
import Derived.OrdersHeld
import Derived.Laws.BitsLemmas
import Derived.RowKit
import Derived.Shelf.Abstract
import Derived.Deep.Slices
import Derived.Deep.Fields
import Derived.ChangeSame
import Derived.Lib.Hide
import Derived.Deep.DeepFit
import Derived.Test.YtgcfddomnohajaaWWords
import Derived.Test.YtgcfddomnohajaaWLast
import Derived.Test.YtgcfddomnohajaaWTab
import Derived.Test.YtgcfddomnohajaaWFour
import Derived.Test.YtgcfddomnohajaaWQPut
import Derived.Test.YtgcfddomnohajaaWApart
import Derived.Test.YtgcfddomnohajaaWArr
import Derived.Test.YtgcfddomnohajaaWZeros
import Derived.Test.YtgcfddomnohajaaWFoot
import Derived.Test.YtgcfddomnohajaaWKept
import Derived.Test.YtgcfddomnohajaaWShare
import Derived.Test.YtgcfddomnohajaaWN
import Derived.Test.YtgcfddomnohajaaWFootNe
import Derived.Test.YtgcfddomnohajaaWAt
import Derived.Test.YtgcfddomnohajaaWEqStruct
import Derived.Test.YtgcfddomnohajaaWRepsOne
import Derived.Test.YtgcfddomnohajaaWInv
import Derived.Test.YtgcfddomnohajaaWInvWords
import Derived.Test.YtgcfddomnohajaaWGuard
import Derived.Test.YtgcfddomnohajaaWNEv
import Derived.Test.YtgcfddomnohajaaWMore
namespace Go.Proofs.Ytgcfddomnohajaa.P
open Go.RowKit Go.Proofs.YtgcfddomnohajaaW.PrintWords Go.Proofs.YtgcfddomnohajaaW.PrintLast Go.Proofs.YtgcfddomnohajaaW.PrintMore
attribute [local go_sem] max2_int min2_int max_two min_two max_three min_three max_four min_four   -- for this text's walks alone
set_option linter.unusedVariables false
set_option linter.unusedSimpArgs false

def errW : Option Int → Value
  | none => .nilIface
  | some c => .iface 0 (.int .i64 c)
theorem errW_none : errW none = .nilIface := rfl
theorem errW_some (c : Int) : errW (some c) = .iface 0 (.int .i64 c) := rfl

theorem info3 : (Try.prog.info? 3).map (fun i => (i.zero, i.size, i.bytes)) = some (some (.int .i64 0), 1, 8) := by kernel_rfl
theorem info5 : (Try.prog.info? 5).map (fun i => (i.zero, i.size, i.bytes)) = some (some (.int .u8 0), 1, 1) := by kernel_rfl
theorem info22 : (Try.prog.info? 22).map (fun i => (i.zero, i.size, i.bytes)) = some (some (.slice none 0 0), 1, 24) := by kernel_rfl
theorem info33 : (Try.prog.info? 33).map (fun i => (i.zero, i.size, i.bytes)) = some (some (.slice none 0 0), 1, 24) := by kernel_rfl
theorem info60 : (Try.prog.info? 60).map (fun i => (i.zero, i.size, i.bytes)) = some (some (.agg #[(.int .i64 0), (.int .i64 0)]), 2, 16) := by kernel_rfl
theorem info90 : (Try.prog.info? 90).map (fun i => (i.zero, i.size, i.bytes)) = some (some (.agg #[(.int .i64 0), (.int .i64 0), (.int .i64 0)]), 3, 24) := by kernel_rfl
-- the values' own types
/-! #### struct type 60 -/
structure S60 where
  f0 : Int
  f1 : Int
def z60 : S60 := ⟨(0 : Int), (0 : Int)⟩
def k60 : Kd S60 := Kd.iso (Kd.pair (Kd.int .i64) (Kd.int .i64)) (fun x : S60 => (x.f0, x.f1))
theorem k60_open {w : World} {x : S60} {cs : List Value} (h : k60.K w x cs) : cs = [.int .i64 x.f0, .int .i64 x.f1] := by
  obtain ⟨_, _, rfl, rfl, rfl⟩ := h
  exact rfl
theorem k60_openM {w : World} {base : Nat} {ok : Nat → Prop} {x : S60} {cs : List Value} (h : k60.M w base ok x cs) : cs = [.int .i64 x.f0, .int .i64 x.f1] := by
  obtain ⟨_, _, rfl, rfl, rfl⟩ := h
  exact rfl
theorem k60_mk (w : World) (x : S60)  : k60.K w x [.int .i64 x.f0, .int .i64 x.f1] := ⟨[.int .i64 x.f0], [.int .i64 x.f1], rfl, rfl, rfl⟩
theorem k60_mkM (w : World) (base : Nat) (ok : Nat → Prop) (x : S60)  : k60.M w base ok x [.int .i64 x.f0, .int .i64 x.f1] := ⟨[.int .i64 x.f0], [.int .i64 x.f1], rfl, rfl, rfl⟩
theorem k60_mkF (W : World) (ok : Nat → Prop) (x : S60) : Kd.FK k60 W ok x [.int .i64 x.f0, .int .i64 x.f1] := fun W2 _ => k60_mk W2 x
def rd_T60 (xs : List S60) (i : Int) : S60 := xs.getD i.toNat z60
theorem at_T60 {w : World} {A : Option Addr} {n : Nat} {xs : List S60} (h : Kd.C k60 w A n xs) (i : Int) (h0 : 0 ≤ i) (h1 : i < n) : ∃ ad , A = some ad ∧ w.cell? (ad.add (i.toNat * 2)) = some (.int .i64 (rd_T60 xs i).f0) ∧ w.cell? ⟨(ad.add (i.toNat * 2)).block, (ad.add (i.toNat * 2)).off + 1, none⟩ = some (.int .i64 (rd_T60 xs i).f1) := by
  obtain ⟨ad, c, e, _, hK, hc0⟩ := Kd.C_get h z60 i h0 h1
  have hc : ∀ j u, c[j]? = some u → w.cell? (ad.add (i.toNat * 2 + j)) = some u := hc0
  obtain rfl := k60_open hK
  exact ⟨ad, e, hc 0 _ rfl, by rw [← add_field _ _ 1 (by omega)]; exact hc 1 _ rfl⟩

/-! #### struct type 58 -/
structure S58 where
  f0 : Int
  f1 : Int
def z58 : S58 := ⟨(0 : Int), (0 : Int)⟩
def k58 : Kd S58 := Kd.iso (Kd.pair (Kd.int .i64) (Kd.int .i64)) (fun x : S58 => (x.f0, x.f1))
theorem k58_open {w : World} {x : S58} {cs : List Value} (h : k58.K w x cs) : cs = [.int .i64 x.f0, .int .i64 x.f1] := by
  obtain ⟨_, _, rfl, rfl, rfl⟩ := h
  exact rfl
theorem k58_openM {w : World} {base : Nat} {ok : Nat → Prop} {x : S58} {cs : List Value} (h : k58.M w base ok x cs) : cs = [.int .i64 x.f0, .int .i64 x.f1] := by
  obtain ⟨_, _, rfl, rfl, rfl⟩ := h
  exact rfl
theorem k58_mk (w : World) (x : S58)  : k58.K w x [.int .i64 x.f0, .int .i64 x.f1] := ⟨[.int .i64 x.f0], [.int .i64 x.f1], rfl, rfl, rfl⟩
theorem k58_mkM (w : World) (base : Nat) (ok : Nat → Prop) (x : S58)  : k58.M w base ok x [.int .i64 x.f0, .int .i64 x.f1] := ⟨[.int .i64 x.f0], [.int .i64 x.f1], rfl, rfl, rfl⟩
theorem k58_mkF (W : World) (ok : Nat → Prop) (x : S58) : Kd.FK k58 W ok x [.int .i64 x.f0, .int .i64 x.f1] := fun W2 _ => k58_mk W2 x
def rd_T58 (xs : List S58) (i : Int) : S58 := xs.getD i.toNat z58
theorem at_T58 {w : World} {A : Option Addr} {n : Nat} {xs : List S58} (h : Kd.C k58 w A n xs) (i : Int) (h0 : 0 ≤ i) (h1 : i < n) : ∃ ad , A = some ad ∧ w.cell? (ad.add (i.toNat * 2)) = some (.int .i64 (rd_T58 xs i).f0) ∧ w.cell? ⟨(ad.add (i.toNat * 2)).block, (ad.add (i.toNat * 2)).off + 1, none⟩ = some (.int .i64 (rd_T58 xs i).f1) := by
  obtain ⟨ad, c, e, _, hK, hc0⟩ := Kd.C_get h z58 i h0 h1
  have hc : ∀ j u, c[j]? = some u → w.cell? (ad.add (i.toNat * 2 + j)) = some u := hc0
  obtain rfl := k58_open hK
  exact ⟨ad, e, hc 0 _ rfl, by rw [← add_field _ _ 1 (by omega)]; exact hc 1 _ rfl⟩

def rd_L3 (xs : List (List S60)) (i : Int) : (List S60) := xs.getD i.toNat ([] : List S60)
theorem at_L3 {w : World} {A : Option Addr} {n : Nat} {xs : List (List S60)} (h : Kd.C (Kd.slice 60 k60) w A n xs) (i : Int) (h0 : 0 ≤ i) (h1 : i < n) : ∃ ad A0 c0, A = some ad ∧ w.cell? (ad.add i.toNat) = some (.slice A0 (rd_L3 xs i).length c0) ∧ (rd_L3 xs i).length ≤ c0 ∧ k60.C w A0 (rd_L3 xs i).length (rd_L3 xs i) := by
  obtain ⟨ad, c, e, _, hK, hc0⟩ := Kd.C_get h ([] : List S60) i h0 h1
  have hc : ∀ j u, c[j]? = some u → w.cell? (ad.add (i.toNat * 1 + j)) = some u := hc0
  obtain ⟨A0, c0, rfl, l0, g0⟩ := hK
  exact ⟨ad, A0, c0, e, by have hq := hc 0 _ rfl; rwa [Nat.mul_one, Nat.add_zero] at hq, l0, g0⟩

def rd_L5 (xs : List (List S58)) (i : Int) : (List S58) := xs.getD i.toNat ([] : List S58)
theorem at_L5 {w : World} {A : Option Addr} {n : Nat} {xs : List (List S58)} (h : Kd.C (Kd.slice 58 k58) w A n xs) (i : Int) (h0 : 0 ≤ i) (h1 : i < n) : ∃ ad A0 c0, A = some ad ∧ w.cell? (ad.add i.toNat) = some (.slice A0 (rd_L5 xs i).length c0) ∧ (rd_L5 xs i).length ≤ c0 ∧ k58.C w A0 (rd_L5 xs i).length (rd_L5 xs i) := by
  obtain ⟨ad, c, e, _, hK, hc0⟩ := Kd.C_get h ([] : List S58) i h0 h1
  have hc : ∀ j u, c[j]? = some u → w.cell? (ad.add (i.toNat * 1 + j)) = some u := hc0
  obtain ⟨A0, c0, rfl, l0, g0⟩ := hK
  exact ⟨ad, A0, c0, e, by have hq := hc 0 _ rfl; rwa [Nat.mul_one, Nat.add_zero] at hq, l0, g0⟩

def rd_L6 (xs : List (List Int)) (i : Int) : (List Int) := xs.getD i.toNat ([] : List Int)
theorem at_L6 {w : World} {A : Option Addr} {n : Nat} {xs : List (List Int)} (h : Kd.C (Kd.slice 3 (Kd.int .i64)) w A n xs) (i : Int) (h0 : 0 ≤ i) (h1 : i < n) : ∃ ad A0 c0, A = some ad ∧ w.cell? (ad.add i.toNat) = some (.slice A0 (rd_L6 xs i).length c0) ∧ (rd_L6 xs i).length ≤ c0 ∧ (Kd.int .i64).C w A0 (rd_L6 xs i).length (rd_L6 xs i) := by
  obtain ⟨ad, c, e, _, hK, hc0⟩ := Kd.C_get h ([] : List Int) i h0 h1
  have hc : ∀ j u, c[j]? = some u → w.cell? (ad.add (i.toNat * 1 + j)) = some u := hc0
  obtain ⟨A0, c0, rfl, l0, g0⟩ := hK
  exact ⟨ad, A0, c0, e, by have hq := hc 0 _ rfl; rwa [Nat.mul_one, Nat.add_zero] at hq, l0, g0⟩

/-! #### struct type 90 -/
structure S90 where
  f0 : S60
  f1 : Int
def z90 : S90 := ⟨z60, (0 : Int)⟩
def k90 : Kd S90 := Kd.iso (Kd.pair k60 (Kd.int .i64)) (fun x : S90 => (x.f0, x.f1))
theorem k90_open {w : World} {x : S90} {cs : List Value} (h : k90.K w x cs) : cs = [.int .i64 x.f0.f0, .int .i64 x.f0.f1, .int .i64 x.f1] := by
  obtain ⟨_, _, rfl, s0, rfl⟩ := h
  obtain rfl := k60_open s0
  exact rfl
theorem k90_openM {w : World} {base : Nat} {ok : Nat → Prop} {x : S90} {cs : List Value} (h : k90.M w base ok x cs) : cs = [.int .i64 x.f0.f0, .int .i64 x.f0.f1, .int .i64 x.f1] := by
  obtain ⟨_, _, rfl, s0, rfl⟩ := h
  obtain rfl := k60_openM s0
  exact rfl
theorem k90_mk (w : World) (x : S90)  : k90.K w x [.int .i64 x.f0.f0, .int .i64 x.f0.f1, .int .i64 x.f1] := ⟨[.int .i64 x.f0.f0, .int .i64 x.f0.f1], [.int .i64 x.f1], rfl, (k60_mk w x.f0 ), rfl⟩
theorem k90_mkM (w : World) (base : Nat) (ok : Nat → Prop) (x : S90)  : k90.M w base ok x [.int .i64 x.f0.f0, .int .i64 x.f0.f1, .int .i64 x.f1] := ⟨[.int .i64 x.f0.f0, .int .i64 x.f0.f1], [.int .i64 x.f1], rfl, (k60_mkM w base ok x.f0 ), rfl⟩
theorem k90_mkF (W : World) (ok : Nat → Prop) (x : S90) : Kd.FK k90 W ok x [.int .i64 x.f0.f0, .int .i64 x.f0.f1, .int .i64 x.f1] := fun W2 _ => k90_mk W2 x
def rd_T90 (xs : List S90) (i : Int) : S90 := xs.getD i.toNat z90
theorem at_T90 {w : World} {A : Option Addr} {n : Nat} {xs : List S90} (h : Kd.C k90 w A n xs) (i : Int) (h0 : 0 ≤ i) (h1 : i < n) : ∃ ad , A = some ad ∧ w.cell? (ad.add (i.toNat * 3)) = some (.int .i64 (rd_T90 xs i).f0.f0) ∧ w.cell? ⟨(ad.add (i.toNat * 3)).block, (ad.add (i.toNat * 3)).off + 1, none⟩ = some (.int .i64 (rd_T90 xs i).f0.f1) ∧ w.cell? ⟨(ad.add (i.toNat * 3)).block, (ad.add (i.toNat * 3)).off + 2, none⟩ = some (.int .i64 (rd_T90 xs i).f1) := by
  obtain ⟨ad, c, e, _, hK, hc0⟩ := Kd.C_get h z90 i h0 h1
  have hc : ∀ j u, c[j]? = some u → w.cell? (ad.add (i.toNat * 3 + j)) = some u := hc0
  obtain rfl := k90_open hK
  exact ⟨ad, e, hc 0 _ rfl, by rw [← add_field _ _ 1 (by omega)]; exact hc 1 _ rfl, by rw [← add_field _ _ 2 (by omega)]; exact hc 2 _ rfl⟩

/-! #### what comes in is read: slices and structs, whatever they hold (written by hand) -/
section
open Go.ChangeShapes Go.WideShapes Go.Deep
variable {H : Type} {enc : TypeId × Value → H} {P : Program} {w : World} {base : Nat} {spare : Nat → Bool} {held : Bool}
/-- What is read at type t is of the kind d. -/
def Tr {α : Type} (enc : TypeId × Value → H) (P : Program) (w : World) (base : Nat) (spare : Nat → Bool) (held : Bool) (t : TypeId) (d : Kd α) : Prop :=
  ∀ n cs x, DataW.trod enc P w base spare held n t cs = some x → ∃ p, d.K w p cs
theorem tr_int {t : TypeId} {k : IntKind} (ht : P.underlying t = some (.int k)) : Tr enc P w base spare held t (Kd.int k) := by
  intro n cs x h
  obtain ⟨z, hz, _⟩ := DataW.trod_int ht h
  exact ⟨z, hz⟩
theorem tr_struct2 {α β : Type} {a : Kd α} {b : Kd β} {t : TypeId} {f0 f1 : Field} (hs : P.underlying t = some (.struct #[f0, f1])) (h0 : f0.offset = 0) (h1 : f1.offset = P.cellsOf f0.type) (hc : P.cellsOf t = P.cellsOf f0.type + P.cellsOf f1.type)
    (T0 : Tr enc P w base spare held f0.type a) (T1 : Tr enc P w base spare held f1.type b) : Tr enc P w base spare held t (Kd.pair a b) := by
  intro n cs x h
  obtain ⟨xs, m, _, _, hl, hlen, hf⟩ := DataW.trod_struct hs h
  have e0 := hf 0 f0 rfl
  have e1 := hf 1 f1 rfl
  match xs, hlen with
  | [y0, y1], _ =>
    obtain ⟨p0, hp0⟩ := T0 m _ y0 e0
    obtain ⟨p1, hp1⟩ := T1 m _ y1 e1
    refine ⟨(p0, p1), _, _, ?_, hp0, hp1⟩
    rw [h0, h1, List.drop_zero]
    have : (cs.drop (P.cellsOf f0.type)).take (P.cellsOf f1.type) = cs.drop (P.cellsOf f0.type) := List.take_of_length_le (by rw [List.length_drop]; omega)
    rw [this, List.take_append_drop]
theorem tr_iso {α β : Type} {d : Kd α} {t : TypeId} (f : β → α) (g : α → β) (hfg : ∀ p, f (g p) = p) (h : Tr enc P w base spare held t d) : Tr enc P w base spare held t (Kd.iso d f) := by
  intro n cs x hx
  obtain ⟨p, hp⟩ := h n cs x hx
  exact ⟨g p, by show d.K w (f (g p)) cs; rw [hfg]; exact hp⟩
theorem reads_slice {α : Type} {d : Kd α} {t e : TypeId} {a : Option Addr} {len cap : Nat} {dd : DataW H} {p : List MemPlace} (T : Tr enc P w base spare held e d) (ht : P.underlying t = some (.slice e)) (hsz : P.cellsOf e = d.sz)
    (h : DataW.Trod enc P w base spare held t (.slice a len cap) dd p) : ∃ l : List α, l.length = len ∧ l.length ≤ maxLen ∧ l.length ≤ cap ∧ d.C w a l.length l := by
  obtain ⟨fuel, hf⟩ := h
  rcases open_slice ht hf with ⟨hcs, _⟩ | ⟨x, l, c, m, n, D, Pl, hcs, _, hl, hm, hmm, _, hi⟩
  · simp [Value.cells] at hcs
    obtain ⟨rfl, rfl, rfl⟩ := hcs
    exact ⟨[], rfl, by simp, by simp, rfl, by simp, by simp⟩
  · simp [Value.cells] at hcs
    obtain ⟨rfl, rfl, rfl⟩ := hcs
    have hlm : len ≤ m := by rw [hmm]; split <;> omega
    have hex : ∀ i, ∃ q : Option α, i < len → ∃ y, q = some y ∧ ∃ c, c.length = d.sz ∧ d.K w y c ∧ ∀ j u, c[j]? = some u → w.cell? (x.add (i * d.sz + j)) = some u := by
      intro i
      by_cases hil : i < len
      · obtain ⟨cs', hc, htr⟩ := hi i (by omega)
        obtain ⟨y, hy⟩ := T n cs' _ htr
        obtain ⟨_, hcl, hat⟩ := World.cells?_some hc
        refine ⟨some y, fun _ => ⟨y, rfl, cs', by rw [hcl, hsz], hy, fun j u hu => ?_⟩⟩
        have hj : j < cs'.length := (List.getElem?_eq_some_iff.1 hu).1
        rw [← hsz, ← Go.Deep.add_add, hat j (by omega), hu]
      · exact ⟨none, fun h => absurd h hil⟩
    have hch := fun i => Classical.choose_spec (hex i)
    generalize (fun i => Classical.choose (hex i)) = q at hch
    have key : ∀ m, m ≤ len → ∃ l : List α, l.length = m ∧ ∀ j y, l[j]? = some y → ∃ c, c.length = d.sz ∧ d.K w y c ∧ ∀ i u, c[i]? = some u → w.cell? (x.add (j * d.sz + i)) = some u := by
      intro m
      induction m with
      | zero => exact fun _ => ⟨[], rfl, fun j y h => by simp at h⟩
      | succ m ih =>
        intro hml
        obtain ⟨l, hl1, hl2⟩ := ih (by omega)
        obtain ⟨y, _, hy⟩ := hch m (by omega)
        refine ⟨l ++ [y], by simp [hl1], fun j z hz => ?_⟩
        rcases Nat.lt_or_ge j l.length with hj | hj
        · rw [List.getElem?_append_left hj] at hz
          exact hl2 j z hz
        · have hj' : j = l.length := by
            have := (List.getElem?_eq_some_iff.1 hz).1
            rw [List.length_append, List.length_singleton] at this
            omega
          subst hj'
          have : y = z := by simpa using hz
          subst this
          rw [hl1]
          exact hy
    obtain ⟨l, hl1, hl2⟩ := key len (Nat.le_refl _)
    refine ⟨l, hl1, by omega, by omega, rfl, by simp [maxLen] at hm; omega, fun _ => ⟨x, rfl, hl2⟩⟩
theorem reads_agg {α : Type} {d : Kd α} {t : TypeId} {fs : Array Field} {v : Value} {dd : DataW H} {p : List MemPlace} {r : Reach} {b0 : Nat} (T : Tr enc P w base spare held t d) (hs : P.underlying t = some (.struct fs))
    (h : DataW.Trod enc P w base spare held t v dd p) (hv : Value.okWide P w r b0 t v) : ∃ (x : α) (cs : Array Value), v = .agg cs ∧ d.K w x cs.toList := by
  obtain ⟨cs, rfl, hsz⟩ := okWide_struct hs hv
  obtain ⟨fuel, hf⟩ := h
  obtain ⟨y, hy⟩ := T _ _ _ hf
  exact ⟨y, cs, rfl, by simpa [Value.cells] using hy⟩
end

/-! #### lists: the first place at which a predicate holds -/
def idxB {α : Type} (p : α → Bool) (l : List α) : Int := if l.any p then (l.findIdx p : Int) else -1
theorem idxB_miss {α : Type} (p : α → Bool) (l : List α) (h : ∀ j, j < l.length → ∀ x, l[j]? = some x → p x = false) : idxB p l = -1 := by
  have : l.any p = false := by
    rw [List.any_eq_false]
    intro x hx
    obtain ⟨j, hj⟩ := List.getElem?_of_mem hx
    rw [h j (List.getElem?_eq_some_iff.1 hj).1 x hj]
    simp
  rw [idxB, this]; rfl
theorem idxB_hit {α : Type} (p : α → Bool) (l : List α) (k : Nat) (x : α) (hx : l[k]? = some x) (hp : p x = true) (h : ∀ j, j < k → ∀ x, l[j]? = some x → p x = false) : idxB p l = (k : Int) := by
  have h1 : l.any p = true := List.any_eq_true.2 ⟨x, List.mem_of_getElem? hx, hp⟩
  obtain ⟨hk, rfl⟩ := List.getElem?_eq_some_iff.1 hx
  rw [idxB, h1, if_pos rfl]
  congr 1
  rw [List.findIdx_eq hk]
  exact ⟨hp, fun j hj => by rw [h j hj _ (List.getElem?_eq_getElem (by omega))]⟩
theorem idxB_nonneg {α : Type} (p : α → Bool) (l : List α) : decide (idxB p l ≥ 0) = l.any p := by
  unfold idxB
  cases l.any p <;> simp
theorem idxB_nonneg' {α : Type} (p : α → Bool) (l : List α) : decide (0 ≤ idxB p l) = l.any p := idxB_nonneg p l

/-! #### equality of tiles -/
theorem tile_ext (a b : S60) : a = b ↔ a.f0 = b.f0 ∧ a.f1 = b.f1 := by cases a; cases b; simp
instance tileDec : DecidableEq S60 := fun a b => decidable_of_iff _ (tile_ext a b).symm
instance tileInh : Inhabited S60 := ⟨z60⟩

theorem tr_T58 {H : Type} {enc : TypeId × Value → H} {w : World} {base : Nat} {spare : Nat → Bool} {held : Bool} : Tr enc Try.prog w base spare held 58 k58 := by
  unfold k58
  refine tr_iso (fun x : S58 => (x.f0, x.f1)) (fun q => ⟨q.1, q.2⟩) (fun _ => rfl) ?_
  have c3 : Try.prog.cellsOf 3 = 1 := by kernel_rfl
  have c58 : Try.prog.cellsOf 58 = 2 := by kernel_rfl
  exact tr_struct2 Try.underlying58 rfl (by rw [c3]) (by rw [c58, c3]) (tr_int Try.underlying3) (tr_int Try.underlying3)
set_option maxRecDepth 100000 in
theorem reads_T58 {H : Type} {enc : TypeId × Value → H} {w : World} {base : Nat} {spare : Nat → Bool} {held : Bool} {v : Value} {dd : DataW H} {p : List MemPlace} {r : Reach} {b0 : Nat} (h : DataW.Trod enc Try.prog w base spare held 58 v dd p) (hv : Value.okWide Try.prog w r b0 58 v) : ∃ x : S58, v = .agg #[.int .i64 x.f0, .int .i64 x.f1] := by
  obtain ⟨x, cs, rfl, hK⟩ := reads_agg (tr_T58 (enc := enc)) Try.underlying58 h hv
  refine ⟨x, ?_⟩
  have := k58_open hK
  congr 1
  exact Array.toList_inj.1 this
end Go.Proofs.Ytgcfddomnohajaa.P
