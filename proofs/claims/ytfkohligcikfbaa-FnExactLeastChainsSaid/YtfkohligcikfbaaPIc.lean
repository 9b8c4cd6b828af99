-- Printed by a program of this session (wip/myprint.py, which drives the kit's print): what one function of the program does, and the proof that its call does so.
import Derived.Shelf.Abstract
import Derived.Test.YtfkohligcikfbaaP0
namespace Go.Proofs.Ytfkohligcikfbaa.P
open Go.RowKit Go.Proofs.YtfkohligcikfbaaW.PrintWords Go.Proofs.YtfkohligcikfbaaW.PrintLast Go.Proofs.YtfkohligcikfbaaW.PrintMore
attribute [local go_sem] max2_int min2_int max_two min_two max_three min_three max_four min_four   -- for this text's walks alone
set_option linter.unusedVariables false
set_option linter.unusedSimpArgs false

/-! ### slices_IndexFunc_int: function 82: written by hand -/
/-- The call of a predicate at a whole number: it answers p, and what lay in w lies unturned. -/
def PredI (g : Nat) (lb : Array Value) (p : Int → Bool) (w : World) (x : Int) : Prop :=
  ∀ W, Below w.heap.size w W → Calls Try.prog g (#[.int .i64 x] ++ lb) W fun e W' => e = .returned (.bool (p x)) ∧ Below w.heap.size w W'
set_option maxHeartbeats 4000000 in
set_option maxRecDepth 100000 in
theorem slices_IndexFunc_int.gcalls (g : Nat) (lb : Array Value) (p : Int → Bool) (A0 : Option Addr) (c0 : Nat) (l0 : List Int) (w : World) (eg : ∀ args w, (callFunc g args).run Try.prog w = .ok (.enter g args) w)
    (hr0 : Kd.C (Kd.int .i64) w A0 l0.length l0) (hc0 : l0.length ≤ c0) (hp : ∀ x ∈ l0, PredI g lb p w x) :
    Calls Try.prog 82 #[.slice A0 l0.length c0, .func (.func g) #[] lb] w fun e w' => e = .returned (.int .i64 (idxB p l0)) ∧ Below w.heap.size w w' := by
  have HR0 := Aside0.mk hr0
  have HP := Aside0.mk hp
  have hbig : l0.length ≤ 9223372036854775807 := hr0.2.1
  clear hr0 hc0 hp
  go_enter Try.func82, Try.ntmps82
  go_wp2
  go_loopg [5, 8] l0.length (fun gg _ s8 wr => ∃ kk : Nat, kk ≤ l0.length ∧ l0.length - kk ≤ gg ∧ s8 = .int .i64 kk ∧ Aside0 (Below w.heap.size w wr) ∧ Aside0 (∀ j, j < kk → ∀ x, l0[j]? = some x → p x = false))
  case atStart => exact ⟨0, Nat.zero_le _, by omega, rfl, ⟨Below.refl _ w⟩, ⟨fun j hj => absurd hj (Nat.not_lt_zero _)⟩⟩
  case round =>
    obtain ⟨kk, hkk, hg, rfl, HB, HA⟩ := hrel
    by_cases hlt : kk < l0.length
    · have hltz : (kk : Int) < (l0.length : Int) := by omega
      have h0z : 0 ≤ (kk : Int) := by omega
      obtain ⟨ad, c, e, hs, hK, hc⟩ := ReadsRow.get_ HR0.out (0 : Int) (kk : Int) h0z hltz
      cases e
      have hx0 : w.cell? (ad.add kk) = some (.int .i64 (l0.getD kk 0)) := by
        have h2 := hc 0 (.int .i64 (l0.getD (kk : Int).toNat 0)) (by rw [show c = [.int .i64 (l0.getD (kk : Int).toNat 0)] from hK]; rfl)
        simpa [show (Kd.int .i64).sz = 1 from rfl] using h2
      clear hs hK hc
      replace hx0 := (HB.out.cell (World.block_lt_of_cell? w _ hx0)).trans hx0
      obtain ⟨x, hx⟩ : ∃ x, l0[kk]? = some x := ⟨_, List.getElem?_eq_getElem hlt⟩
      have hrd : l0.getD kk 0 = x := by
        rw [List.getD_eq_getElem?_getD, hx]; rfl
      rw [hrd] at hx0
      have hcall := HP.out x (List.mem_of_getElem? hx) _ HB.out
      have HX := Aside0.mk hx
      clear hx hrd
      cases hq : p x with
      | true =>
        rw [hq] at hcall
        have HQ := Aside0.mk hq
        clear hq
        go_wp2_with (go_at_fn g; refine hcall.mono ?_; rintro e w' ⟨rfl, hb'⟩)
        go_ret
        refine ⟨?_, hb'⟩
        have hm := idxB_hit p l0 kk x HX.out HQ.out HA.out
        rw [hm]
        rfl
      | false =>
        rw [hq] at hcall
        have HQ := Aside0.mk hq
        clear hq
        go_wp2_with (go_at_fn g; refine hcall.mono ?_; rintro e w' ⟨rfl, hb'⟩)
        go_roundg (l0.length - (kk + 1))
        case measure => omega
        case rel => exact ⟨kk + 1, by omega, by omega, by go_num, ⟨hb'⟩, ⟨fun j hj y hy => by
          by_cases e : j = kk
          · subst e
            rw [HX.out] at hy; cases hy; exact HQ.out
          · exact HA.out j (by omega) y hy⟩⟩
    · have hltz : ¬ (kk : Int) < (l0.length : Int) := by omega
      obtain rfl : kk = l0.length := by omega
      go_wp2
      go_ret
      refine ⟨?_, HB.out⟩
      have hm := idxB_miss p l0 HA.out
      rw [hm]
      rfl

end Go.Proofs.Ytfkohligcikfbaa.P
