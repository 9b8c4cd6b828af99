-- Printed by a program of this session (wip/myprint.py, which drives the kit's print): what one function of the program does, and the proof that its call does so.
import Derived.Lib.IndexBytes
import Derived.Shelf.Strings.Split
import Derived.Test.YtiabjcgcbjeikaaDoorP0
namespace Go.Proofs.YtiabjcgcbjeikaaDoor.P
open Go.RowKit Go.Proofs.YtiabjcgcbjeikaaDoorW.PrintWords Go.Proofs.YtiabjcgcbjeikaaDoorW.PrintLast Go.Proofs.YtiabjcgcbjeikaaDoorW.PrintMore
attribute [local go_sem] max2_int min2_int max_two min_two max_three min_three max_four min_four   -- for this text's walks alone
set_option linter.unusedVariables false
set_option linter.unusedSimpArgs false

/-! ### strings_Split: function 10: written by hand -/
def Tryd.lays146_ren : Go.Shelf.Ren := ⟨fun | 146 => 10 | 221 => 15 | 268 => 22 | 138 => 23 | 143 => 24 | 195 => 29 | 197 => 30 | 218 => 31 | 219 => 32 | 260 => 34 | 217 => 35 | 225 => 36 | 224 => 37 | 267 => 38 | 266 => 39 | 314 => 40 | n => n, fun | 9 => 9 | 31 => 28 | 3 => 3 | 4 => 4 | 0 => 0 | 105 => 45 | 21 => 21 | 5 => 5 | 46 => 49 | 119 => 50 | 139 => 53 | 138 => 52 | 146 => 55 | 51 => 54 | n => n, fun | 1 => 0 | 3 => 1 | 4 => 2 | n => n⟩
theorem Tryd.lays146 : Go.Proofs.Lays.n146 Tryd.prog Tryd.lays146_ren := {
  mixed := by kernel_rfl
  f138 := Tryd.func23.trans (congrArg some (by kernel_rfl))
  f143 := Tryd.func24.trans (congrArg some (by kernel_rfl))
  f146 := Tryd.func10.trans (congrArg some (by kernel_rfl))
  f195 := Tryd.func29.trans (congrArg some (by kernel_rfl))
  f197 := Tryd.func30.trans (congrArg some (by kernel_rfl))
  f217 := Tryd.func35.trans (congrArg some (by kernel_rfl))
  f218 := Tryd.func31.trans (congrArg some (by kernel_rfl))
  f219 := Tryd.func32.trans (congrArg some (by kernel_rfl))
  f221 := Tryd.func15.trans (congrArg some (by kernel_rfl))
  f224 := Tryd.func37.trans (congrArg some (by kernel_rfl))
  f225 := Tryd.func36.trans (congrArg some (by kernel_rfl))
  f260 := Tryd.func34.trans (congrArg some (by kernel_rfl))
  f266 := Tryd.func39.trans (congrArg some (by kernel_rfl))
  f267 := Tryd.func38.trans (congrArg some (by kernel_rfl))
  f268 := Tryd.func22.trans (congrArg some (by kernel_rfl))
  f314 := Tryd.func40.trans (congrArg some (by kernel_rfl))
  t0 := Tryd.underlying0
  a0 := Tryd.isAgg0
  z0 := Tryd.sizeOf0
  v0 := Tryd.zeroValue0
  t3 := Tryd.underlying3
  a3 := Tryd.isAgg3
  z3 := Tryd.sizeOf3
  v3 := Tryd.zeroValue3
  t4 := Tryd.underlying4
  a4 := Tryd.isAgg4
  z4 := Tryd.sizeOf4
  v4 := Tryd.zeroValue4
  t5 := Tryd.underlying5
  a5 := Tryd.isAgg5
  z5 := Tryd.sizeOf5
  v5 := Tryd.zeroValue5
  t9 := Tryd.underlying9
  a9 := Tryd.isAgg9
  z9 := Tryd.sizeOf9
  v9 := Tryd.zeroValue9
  t21 := Tryd.underlying21
  a21 := Tryd.isAgg21
  z21 := Tryd.sizeOf21
  v21 := Tryd.zeroValue21
  t31 := Tryd.underlying28
  a31 := Tryd.isAgg28
  z31 := Tryd.sizeOf28
  v31 := Tryd.zeroValue28
  t46 := Tryd.underlying49
  a46 := Tryd.isAgg49
  z46 := Tryd.sizeOf49
  v46 := Tryd.zeroValue49
  t51 := Tryd.underlying54
  a51 := Tryd.isAgg54
  z51 := Tryd.sizeOf54
  v51 := Tryd.zeroValue54
  t105 := Tryd.underlying45
  a105 := Tryd.isAgg45
  z105 := Tryd.sizeOf45
  v105 := Tryd.zeroValue45
  t119 := Tryd.underlying50
  a119 := Tryd.isAgg50
  z119 := Tryd.sizeOf50
  t138 := Tryd.underlying52
  a138 := Tryd.isAgg52
  z138 := Tryd.sizeOf52
  v138 := Tryd.zeroValue52
  t139 := Tryd.underlying53
  a139 := Tryd.isAgg53
  z139 := Tryd.sizeOf53
  v139 := Tryd.zeroValue53
  t146 := Tryd.underlying55
  a146 := Tryd.isAgg55
  z146 := Tryd.sizeOf55
  v146 := Tryd.zeroValue55
  g1 := by kernel_rfl
  g3 := by kernel_rfl
  g4 := by kernel_rfl }
/-- strings.Split at a comma: no word of any variable of the library's is read. -/
theorem split_comma (s : ByteArray) (w : World) (hs : s.size < 4294967281) :
    Calls Tryd.prog 10 #[.string s, .string ⟨#[44]⟩] w fun e w' =>
      e = .returned (.slice (some ⟨w.heap.size, 0, none⟩) (Lib.countB s ⟨#[44]⟩ + 1) (Lib.countB s ⟨#[44]⟩ + 1)) ∧ w' = w.alloc (.cells ((Lib.splitB ⟨#[44]⟩ 0 (Lib.countB s ⟨#[44]⟩) s).map Value.string).toArray 9) := by
  have L := Tryd.lays146
  have h1 : 1 ≤ (⟨#[44]⟩ : ByteArray).size := by decide
  have hle := Lib.countB_le ⟨#[44]⟩ h1 s.size s (Nat.le_refl _)
  have hlen := Lib.splitB_all ⟨#[44]⟩ h1 0 _ s rfl
  have c := Any.strings_genSplit_core { L with } (by kernel_rfl) s ⟨#[44]⟩ 0 (-1) (Lib.countB s ⟨#[44]⟩ + 1) w hs h1 (Nat.zero_le _)
    (fun x cc hx => (Any.strings_Index_one { L with } x 44 _).mono fun e w' ⟨he, hw⟩ => ⟨by rw [he, ← Lib.index_one], hw⟩)
    ((Any.strings_Count_one { L with } s 44 w).mono fun e w' ⟨he, hw⟩ => ⟨by
      rw [he]
      show _ = Ending.returned (Value.int .i64 ((Lib.count s.data.toList [44] : Nat) : Int))
      rw [Lib.count_one]
      rfl, hw⟩) (by decide) (by decide) (by rw [if_pos (by decide)]; omega)
  rw [Nat.add_sub_cancel, hlen] at c
  have e2 : Lib.cellsOf (Lib.splitB ⟨#[44]⟩ 0 (Lib.countB s ⟨#[44]⟩) s) (Lib.countB s ⟨#[44]⟩ + 1) = ((Lib.splitB ⟨#[44]⟩ 0 (Lib.countB s ⟨#[44]⟩) s).map Value.string).toArray := by rw [← hlen]; exact Lib.cellsOf_full _
  rw [e2] at c
  have t3 := L.t3; have t9 := L.t9; have t31 := L.t31
  have a3 := L.a3; have a9 := L.a9; have a31 := L.a31
  have z3 := L.z3; have v3 := L.v3; have z9 := L.z9; have v9 := L.v9; have z31 := L.z31; have v31 := L.v31
  have e15 : ∀ args w, (callFunc 15 args).run Tryd.prog w = .ok (.enter 15 args) w := enters_of Tryd.func15 (by kernel_rfl) rfl
  go_enter Tryd.func10, Tryd.ntmps10
  go_wp2_with (go_at_fn 15; refine c.mono ?_; rintro e w' ⟨rfl, hw⟩; rw [hw])
  go_ret
  exact ⟨rfl, rfl⟩
theorem R_of_strings {w : World} {base g : Nat} {ok : Nat → Prop} (l : List ByteArray) (h : w.heap[g]? = some (.cells (l.map Value.string).toArray 9 (0, 0))) (hg : base ≤ g) (hok : ok g) (hc : l.length ≤ maxLen) : Kd.R Kd.string 9 w base ok (.slice (some ⟨g, 0, none⟩) l.length l.length) l := by
  have hl : (l.map Value.string).length = l.length * 1 := by simp
  refine ⟨fun k hk => ?_, l.map Value.string, ⟨hl, .inr ⟨g, l.length, (l.map Value.string).toArray, rfl, hg, h, Nat.le_refl _, hc, by simp [show Kd.string.sz = 1 from rfl], ?_⟩⟩, hl, fun j p hj => ?_⟩
  · have : g = k := by simpa [Value.ownBlock] using hk
    subst this; exact hok
  · simp [show Kd.string.sz = 1 from rfl]
    exact List.take_of_length_le (by rw [List.length_map]; exact Nat.le_refl _)
  · show ((l.map Value.string).drop (j * 1)).take 1 = [Value.string p]
    rw [Nat.mul_one]
    have hj2 : (l.map Value.string)[j]? = some (.string p) := by rw [List.getElem?_map, hj]; rfl
    obtain ⟨hlt, he⟩ := List.getElem?_eq_some_iff.1 hj2
    rw [List.drop_eq_getElem_cons hlt, he]; rfl
def strings_Split.f (a0 a1 : ByteArray) : Option (List ByteArray) := if a1.data = #[44] ∧ a0.size ≤ 1048576 then some (Lib.splitB a1 0 (Lib.countB a0 a1) a0) else none
theorem strings_Split.calls (a0 a1 : ByteArray) (r : List ByteArray) (w : World) (h : strings_Split.f a0 a1 = some r) :
    Calls Tryd.prog 10 #[.string a0, .string a1] w fun e w' => ∃ v0_ : Value, e = .returned (v0_) ∧ Kd.R Kd.string 9 w' w.heap.size (fun _ => True) v0_ r ∧ Below w.heap.size w w' := by
  unfold strings_Split.f at h
  by_cases c : a1.data = #[44] ∧ a0.size ≤ 1048576
  case neg => rw [if_neg c] at h; cases h
  rw [if_pos c] at h
  obtain rfl := Option.some.inj h
  obtain rfl : a1 = ⟨#[44]⟩ := by
    cases a1 with
    | mk d => have := c.1; simp only at this; rw [this]
  have h1 : 1 ≤ (⟨#[44]⟩ : ByteArray).size := by decide
  have hle := Lib.countB_le ⟨#[44]⟩ h1 a0.size a0 (Nat.le_refl _)
  have hlen := Lib.splitB_all ⟨#[44]⟩ h1 0 _ a0 rfl
  refine (split_comma a0 w (by omega)).mono fun e w' ⟨he, hw⟩ => ⟨_, he, ?_, ?_⟩
  · rw [hw, ← hlen]
    exact R_of_strings _ (heap_alloc_new _ _) (Nat.le_refl _) trivial (by rw [hlen]; simp [maxLen]; omega)
  · rw [hw]; exact (Below.refl w.heap.size w).alloc (Nat.le_refl _) _

end Go.Proofs.YtiabjcgcbjeikaaDoor.P
