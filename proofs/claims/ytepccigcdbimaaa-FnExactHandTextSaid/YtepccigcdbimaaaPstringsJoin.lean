-- Printed by a program of this session (wip/myprint.py, which drives the kit's print): what one function of the program does, and the proof that its call does so.
import Derived.Ground.NamesProg
import Derived.Shelf.Lay
import Derived.Shelf.Strings.OnBuilder
import Derived.WalkSpells
import Derived.Test.YtepccigcdbimaaaP0
namespace Go.Proofs.Ytepccigcdbimaaa.P
open Go.RowKit Go.Proofs.YtepccigcdbimaaaW.PrintWords Go.Proofs.YtepccigcdbimaaaW.PrintLast Go.Proofs.YtepccigcdbimaaaW.PrintMore
attribute [local go_sem] max2_int min2_int max_two min_two max_three min_three max_four min_four   -- for this text's walks alone
set_option linter.unusedVariables false
set_option linter.unusedSimpArgs false

/-! ### strings_Join: function 84: written by hand -/
open Go.Shelf in
shelf_lay Lays.n156 Nm 156 at Try as Try.joinLays
theorem joinExtra : Builder.Extra Try.prog Try.joinLays_ren where
  sizeBuilder := by kernel_rfl
  liesBuilder := by kernel_rfl
  t5 := Try.underlying5
  a5 := Try.isAgg5
  z5 := Try.sizeOf5
  v5 := Try.zeroValue5
  infoByte := by kernel_rfl
  cellsByte := by kernel_rfl
  sizeByte := by kernel_rfl
  neB5 := by decide
theorem addPlainJ (b off i : Nat) : (⟨b, off, none⟩ : Addr).add i = ⟨b, off + i, none⟩ := by unfold Addr.add; split <;> simp_all
def joinB (l : List ByteArray) (sep : ByteArray) : List UInt8 := Lib.join (l.map (·.data.toList)) sep.data.toList
def strings_Join.f (l0 : List ByteArray) (a1 : ByteArray) : Option ByteArray := if l0.length ≤ 140737488355328 ∧ (joinB l0 a1).length ≤ 140737488355328 then some ⟨(joinB l0 a1).toArray⟩ else none
set_option maxHeartbeats 4000000 in
theorem strings_Join.calls (A0 : Option Addr) (c0 : Nat) (l0 : List ByteArray) (a1 : ByteArray) (r : ByteArray) (w : World) (hr0 : Kd.C Kd.string w A0 l0.length l0) (hc0 : l0.length ≤ c0) (h : strings_Join.f l0 a1 = some r) :
    Calls Try.prog 84 #[.slice A0 l0.length c0, .string a1] w fun e w' => e = .returned (.string r) ∧ Below w.heap.size w w' := by
  unfold strings_Join.f at h
  by_cases c : l0.length ≤ 140737488355328 ∧ (joinB l0 a1).length ≤ 140737488355328
  · rw [if_pos c] at h
    obtain rfl := Option.some.inj h
    match l0, hr0, hc0, c with
    | [], hr0, hc0, c => exact (Any.strings_Join_none Try.joinLays joinExtra A0 c0 a1 w).mono fun e w' ⟨he, hw⟩ => ⟨he, hw ▸ Below.refl _ _⟩
    | x :: l, hr0, hc0, c =>
      obtain ⟨ad, rfl, hat⟩ := hr0.2.2 (by simp)
      have hcell : ∀ (j : Nat) y, (x :: l)[j]? = some y → w.cell? (ad.add j) = some (.string y) := by
        intro j y hj
        obtain ⟨cs, hcl, hK, hcc⟩ := hat j y hj
        have := hcc 0 (.string y) (by rw [show cs = [.string y] from hK]; rfl)
        simpa [show Kd.string.sz = 1 from rfl] using this
      obtain ⟨bk, o, t⟩ := ad
      have h0 := hcell 0 x rfl
      have ht : t = none := by
        cases t with
        | none => rfl
        | some t =>
          exfalso
          have e : ((⟨bk, o, some t⟩ : Addr).add 0) = ⟨bk, o, some t⟩ := by simp [Addr.add]
          rw [e] at h0
          unfold World.cell? at h0
          split at h0
          · simp at h0
          · cases h0
      subst ht
      have hlt := World.block_lt_of_cell? w _ h0
      exact Any.strings_Join Try.joinLays joinExtra bk o c0 (x :: l) a1 w (fun j y hj => by have := hcell j y hj; rwa [addPlainJ] at this) (by simpa [Addr.add] using hlt) c.1 hc0 c.2
  · rw [if_neg c] at h
    exact absurd h (by simp)

end Go.Proofs.Ytepccigcdbimaaa.P
