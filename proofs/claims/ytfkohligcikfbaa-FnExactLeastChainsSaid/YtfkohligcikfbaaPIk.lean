-- Printed by a program of this session (wip/myprint.py, which drives the kit's print): what one function of the program does, and the proof that its call does so.
import Derived.Lib.SliceRun
import Derived.WalkSpells
import Derived.Test.YtfkohligcikfbaaP0
import Derived.Test.YtfkohligcikfbaaPIc
namespace Go.Proofs.Ytfkohligcikfbaa.P
open Go.RowKit Go.Proofs.YtfkohligcikfbaaW.PrintWords Go.Proofs.YtfkohligcikfbaaW.PrintLast Go.Proofs.YtfkohligcikfbaaW.PrintMore
attribute [local go_sem] max2_int min2_int max_two min_two max_three min_three max_four min_four   -- for this text's walks alone
set_option linter.unusedVariables false
set_option linter.unusedSimpArgs false

/-! ### slices_DeleteFunc_int: function 60: written by hand -/
theorem clear_ints {w : World} {g cap : Nat} {m : List Int} (h : rowI w g cap m) (i : Nat) (hi : i < m.length) (c' : Nat) (ty : TypeId) : (Builtin.clear_ #[41] ty #[.slice (some ⟨g, i, none⟩) (m.length - i) c']).run Try.prog w = .ok (.tuple #[]) (w.setCells g i (clearI (m.length - i))) := by
  obtain ⟨cur, h1, h2, h3, h4⟩ := h
  have hst := run_storeCells_cells (P := Try.prog) g i (clearI (m.length - i)) 0 w (fun j hj => by
    rw [clearI_length] at hj
    simp only [World.cell?, h1, Nat.add_zero]
    simp only [Option.isSome_none, Bool.false_eq_true, if_false]
    rw [Array.getElem?_eq_getElem (by omega)]; rfl) (fun j hj => by simp [World.frozen?, h1]) (clearI_one _)
  simp only [Nat.add_zero] at hst
  obtain ⟨n, hn⟩ : ∃ n, m.length - i = n + 1 := ⟨m.length - i - 1, by omega⟩
  rw [hn] at hst ⊢
  have hv := Try.zeroValue3
  simp [Builtin.clear_, run_underlying Try.underlying41, hv, clearI, Value.cells] at hst ⊢
  simp [hst]
/-- The call of a predicate at a number, in every world that leaves what lies below base: it answers p, and turns nothing. -/
def PredIB (g : Nat) (lb : Array Value) (p : Int → Bool) (base : Nat) (w : World) (x : Int) : Prop :=
  ∀ W, Below base w W → Calls Try.prog g (#[.int .i64 x] ++ lb) W fun e W' => e = .returned (.bool (p x)) ∧ Below W.heap.size W W'
set_option maxHeartbeats 4000000 in
set_option maxRecDepth 100000 in
theorem slices_DeleteFunc_int.gcalls (g : Nat) (lb : Array Value) (p : Int → Bool) (base : Nat) (ok : Nat → Prop) (v : Value) (l : List Int) (w : World) (eg : ∀ args w, (callFunc g args).run Try.prog w = .ok (.enter g args) w)
    (hbase : base ≤ w.heap.size) (ho : Kd.R (Kd.int .i64) 3 w base ok v l) (hp : ∀ x ∈ l, PredIB g lb p base w x) :
    Calls Try.prog 60 #[v, .func (.func g) #[] lb] w fun e w' => ∃ v', e = .returned v' ∧ Kd.R (Kd.int .i64) 3 w' base ok v' (l.filter fun x => !p x) ∧ Below base w w' := by
  obtain ⟨A, c, rfl, hlc, hC⟩ := Kd.R_reads ho
  have hIF := slices_IndexFunc_int.gcalls g lb p A c l w eg hC hlc (fun x hx W hb => (hp x hx W (hb.mono hbase)).mono fun e W' ⟨he, hb'⟩ => ⟨he, below_then hb hb.size hb'⟩)
  by_cases hany : l.any p = true
  case neg =>
    have hall : ∀ x ∈ l, p x = false := by
      intro x hx
      cases h : p x with
      | false => rfl
      | true => exact absurd (List.any_eq_true.2 ⟨x, hx, h⟩) hany
    have hi : idxB p l = -1 := by unfold idxB; rw [if_neg hany]
    rw [hi] at hIF
    have HO := Aside0.mk ho
    have HF := Aside0.mk (show (l.filter fun x => !p x) = l from List.filter_eq_self.2 fun x hx => by rw [hall x hx]; rfl)
    have HBS := Aside0.mk hbase
    clear ho hp hC hall hi hany
    go_enter Try.func60, Try.ntmps60
    go_wp2_with (go_at_call 82; refine hIF.mono ?_; rintro e w' ⟨rfl, hb⟩; have HB := Aside0.mk hb; clear hb)
    go_ret
    rw [HF.out]
    exact ⟨_, rfl, Kd.R_below HO.out HB.out, HB.out.mono HBS.out⟩
  case pos =>
    obtain ⟨k0, hk0, hi, hpk, hbef⟩ : ∃ k0, ∃ h : k0 < l.length, idxB p l = (k0 : Int) ∧ p l[k0] = true ∧ ∀ t, t < k0 → ∀ x, l[t]? = some x → p x = false := by
      refine ⟨l.findIdx p, List.findIdx_lt_length_of_exists (by simpa using hany), by unfold idxB; rw [if_pos hany], List.findIdx_getElem, fun t ht x hx => ?_⟩
      obtain ⟨h, rfl⟩ := List.getElem?_eq_some_iff.1 hx
      simpa using List.not_of_lt_findIdx ht
    rcases rowI_of_R ho with ⟨_, rfl⟩ | ⟨gb, cap, hv, hgb, hokg, hlcap, hcap, hrow⟩
    · exact absurd hk0 (Nat.not_lt_zero _)
    injection hv with e1 e2 e3
    subst e1 e3
    rw [hi] at hIF
    have hne : ((k0 : Int) == -1) = false := beq_eq_false_iff_ne.2 (by omega)
    have hst := KeptL.start (q := fun x => !p x) hk0 (by rw [hpk]; rfl) (fun t ht x hx => by rw [hbef t ht x hx]; rfl)
    have hbig : l.length ≤ 9223372036854775807 := hC.2.1
    have HP := Aside0.mk hp
    have HS := Aside0.mk hst
    have HR := Aside0.mk hrow
    have HG := Aside0.mk (show base ≤ gb ∧ ok gb ∧ c ≤ maxLen ∧ base ≤ w.heap.size from ⟨hgb, hokg, hcap, hbase⟩)
    clear ho hp hC hi hpk hbef hrow hst hgb hokg hcap hbase hany
    go_enter Try.func60, Try.ntmps60
    go_wp2_with (go_at_call 82; refine hIF.mono ?_; rintro e w1 ⟨rfl, hb⟩; have HB1 := Aside0.mk hb; clear hb)
    go_loopg [5, 6] l.length (fun gg s5 s6 wr => ∃ (i j : Nat) (m : List Int), s5 = .int .i64 i ∧ s6 = .int .i64 j ∧ j ≤ l.length ∧ l.length - j ≤ gg ∧ Aside0 (KeptL (fun x => !p x) l j i m) ∧ Aside0 (rowI wr gb c m) ∧ Aside0 (Below base w wr))
    case atStart => exact ⟨k0, k0 + 1, l, rfl, by go_num, by omega, by omega, HS, ⟨rowI_below HR.out HB1.out⟩, ⟨HB1.out.mono HG.out.2.2.2⟩⟩
    case round =>
      obtain ⟨i, j, m, rfl, rfl, hj, hg, HK, HRr, HBr⟩ := hrel
      have hij := HK.out.lt
      have hml := HK.out.len
      have hbs : base ≤ wr.heap.size := Nat.le_trans HG.out.2.2.2 HBr.out.size
      have HBS := Aside0.mk hbs
      clear hbs
      by_cases hlt : j < l.length
      · have hltz : (j : Int) < (l.length : Int) := by omega
        obtain ⟨x, hx⟩ : ∃ x, l[j]? = some x := ⟨_, List.getElem?_eq_getElem hlt⟩
        have hmx : m[j]? = some x := by rw [HK.out.high j (Nat.le_refl _)]; exact hx
        obtain ⟨y, hy⟩ : ∃ y, m[i]? = some y := ⟨_, List.getElem?_eq_getElem (by omega)⟩
        obtain ⟨hx0, _⟩ := rowI_at HRr.out j x hmx
        have HY := Aside0.mk hy
        have hxl : l[j] = x := by rw [List.getElem?_eq_getElem hlt] at hx; exact Option.some.inj hx
        have hcall : ∀ W, Below base w W → Calls Try.prog g (#[.int .i64 x] ++ lb) W fun e W' => e = .returned (.bool (p x)) ∧ Below W.heap.size W W' := fun W hb => HP.out x (List.mem_of_getElem? hx) W hb
        have HX := Aside0.mk hxl
        clear hmx hx hy hxl
        cases hq : p x with
        | true =>
          rw [hq] at hcall
          have HQ := Aside0.mk hq
          clear hq
          go_wp2_with (go_at_fn g; refine (hcall _ HBr.out).mono ?_; rintro e w2 ⟨rfl, hb2⟩)
          go_roundg (l.length - (j + 1))
          case measure => omega
          case rel =>
            exact ⟨i, j + 1, m, rfl, by go_num, by omega, Nat.le_refl _, ⟨HK.out.skip hlt (by rw [HX.out, HQ.out]; rfl)⟩, ⟨rowI_below HRr.out hb2⟩, ⟨below_then HBr.out HBS.out hb2⟩⟩
        | false =>
          rw [hq] at hcall
          have HQ := Aside0.mk hq
          clear hq
          have hlen2 : i < m.length := by omega
          have hyi : m[i]? = some y := HY.out
          go_wp2_with (go_at_fn g; refine (hcall _ HBr.out).mono ?_; rintro e w2 ⟨rfl, hb2⟩; have HBW := Aside0.mk hb2; have hrw := rowI_below HRr.out hb2; have HRW := Aside0.mk hrw; obtain ⟨hz0, hf0⟩ := rowI_at hrw i y hyi; clear hb2 hrw hyi hcall hx0)
          go_roundg (l.length - (j + 1))
          case measure => omega
          case rel => exact ⟨i + 1, j + 1, m.set i x, by go_num, by go_num, by omega, Nat.le_refl _, ⟨by have := HK.out.keep hlt (by rw [HX.out, HQ.out]; rfl); rwa [HX.out] at this⟩, ⟨rowI_set HRW.out i x hlen2⟩, ⟨below_row_set (below_then HBr.out HBS.out HBW.out) HG.out.1⟩⟩
      · obtain rfl : j = l.length := by omega
        have hltz : ¬ (l.length : Int) < (l.length : Int) := by omega
        have hcl := fun ty => clear_ints HRr.out i (by omega) (c - i) ty
        rw [hml] at hcl
        have hlow := HK.out.low
        rw [List.take_length] at hlow
        have HLW := Aside0.mk hlow
        have hmi : (m.take i).length = i := by simp; omega
        have HMI := Aside0.mk hmi
        clear hlow hmi
        go_wp2
        go_ret
        refine ⟨_, rfl, ?_, below_setCells HG.out.1 _ _ _ HBr.out⟩
        rw [← HLW.out]
        have := R_of_rowI (base := base) (ok := ok) (rowI_clear HRr.out i (by omega) (clearI (l.length - i))) HG.out.1 HG.out.2.1 HG.out.2.2.1
        rw [HMI.out] at this
        exact this

end Go.Proofs.Ytfkohligcikfbaa.P
