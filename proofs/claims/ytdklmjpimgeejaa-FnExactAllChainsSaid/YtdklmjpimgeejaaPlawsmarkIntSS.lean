-- Printed by a program of this session (wip/myprint.py, which drives the kit's print): what one function of the program does, and the proof that its call does so.
import Derived.Test.YtdklmjpimgeejaaP0
import Derived.Test.YtdklmjpimgeejaaPlawsmarkIntS
namespace Go.Proofs.Ytdklmjpimgeejaa.P
open Go.RowKit Go.Proofs.YtdklmjpimgeejaaW.PrintWords Go.Proofs.YtdklmjpimgeejaaW.PrintLast Go.Proofs.YtdklmjpimgeejaaW.PrintMore
attribute [local go_sem] max2_int min2_int max_two min_two max_three min_three max_four min_four   -- for this text's walks alone
set_option linter.unusedVariables false
set_option linter.unusedSimpArgs false

/-! ### laws_markIntSS: function 13: written by hand -/
def laws_markIntSS.l0 : Nat → List (List Int) → Int → Int → Option (Int × List (List Int))
 | 0, _, _, _ => none
 | k + 1, x0, x1, x5 => if x5 < (x0.length : Int) then (if 0 ≤ x5 then ((laws_markIntS.f k (x0.getD x5.toNat []) x1).bind fun t => laws_markIntSS.l0 k (x0.set x5.toNat t.2) t.1 (wrap64 (x5 + 1))) else none) else some (x1, x0)
def laws_markIntSS.f (k : Nat) (l0 : List (List Int)) (a1 : Int) : Option (Int × List (List Int)) := laws_markIntSS.l0 k l0 a1 0
theorem laws_markIntSS.mono_l : ∀ k, (∀ y0 y1 y2, LeO (laws_markIntSS.l0 k y0 y1 y2) (laws_markIntSS.l0 (k + 1) y0 y1 y2))
 | 0 => fun _ _ _ r h => by simp [laws_markIntSS.l0] at h
 | k + 1 => by
  have ih0 := laws_markIntSS.mono_l k
  intro y0 y1 y2
  unfold laws_markIntSS.l0
  repeat' first
   | exact ih0 _ _ _
   | exact laws_markIntS.mono _ _ _
   | exact LeO.refl _
   | exact LeO.none _
   | refine LeO.ite ?_ ?_
   | refine LeO.bind ?_ (fun _ => ?_)
theorem laws_markIntSS.mono : ∀ a0 a1 k, LeO (laws_markIntSS.f k a0 a1) (laws_markIntSS.f (k + 1) a0 a1) := fun a0 a1 k => laws_markIntSS.mono_l k a0 a1 0
set_option maxHeartbeats 8000000 in
set_option maxRecDepth 100000 in
theorem laws_markIntSS.calls (k : Nat) (P0_ : Nat → Prop) (u9000_ : Value) (l0 : List (List Int)) (a1 : Int) (r1 : Int) (r2 : List (List Int)) (w0 w : World) (hB : Below w0.heap.size w0 w) (ho0 : Kd.S (Kd.slice 3 (Kd.int .i64)) 34 w w0.heap.size P0_ u9000_ l0) (h : laws_markIntSS.f k l0 a1 = some (r1, r2)) :
  Calls Try.prog 13 #[u9000_, .int .i64 a1] w fun e w' => e = .returned (.int .i64 r1) ∧ Kd.S (Kd.slice 3 (Kd.int .i64)) 34 w' w0.heap.size (fun k_ => (P0_ k_ ∨ w.heap.size ≤ k_)) u9000_ r2 ∧ Below w0.heap.size w0 w' ∧ Kept w w' (fun k_ => P0_ k_) := by
 have HO0 := aM (show Kd.S (Kd.slice 3 (Kd.int .i64)) 34 w w0.heap.size (fun k_ => (P0_ k_ ∨ w.heap.size ≤ k_)) u9000_ l0 from Kd.S_mono ho0 (fun k_ hk => (.inl hk)))
 have HK := aM (Kept.refl w (fun k_ => P0_ k_))
 have HW0 := aM hB.size
 have HB := aM hB
 clear hB ho0
 have H' := aM (show laws_markIntSS.l0 k l0 a1 0 = some (r1, r2) from h)
 clear h
 go_enter Try.func13, Try.ntmps13
 go_wp2
 go_loopg [1, 5] k (fun kq v1 v5 w' => ∃ (x0_1 : List (List Int)) (x1_1 : Int) (x5_1 : Int), v1 = .int .i64 x1_1 ∧ v5 = .int .i64 x5_1 ∧ Aside0 (laws_markIntSS.l0 kq x0_1 x1_1 x5_1 = some (r1, r2)) ∧ Aside0 (kq ≤ k) ∧ Aside0 (Kd.S (Kd.slice 3 (Kd.int .i64)) 34 w' w0.heap.size (fun k_ => (P0_ k_ ∨ w.heap.size ≤ k_)) u9000_ x0_1) ∧ Aside0 (Kept w w' (fun k_ => P0_ k_)) ∧ Aside0 (Below w0.heap.size w0 w'))
 case atStart => exact ⟨l0, a1, 0, rfl, rfl, H', ⟨Nat.le_refl _⟩, HO0, HK, HB⟩
 case round =>
  clear H' HO0 HK HB
  obtain ⟨x0_1, x1_1, x5_1, rfl, rfl, HA, HK1, HO_0, HK, HB⟩ := hrel
  cases gk with
  | zero => exact absurd HA.out (by simp [laws_markIntSS.l0])
  | succ k1 =>
   have H := HA.out
   clear HA
   simp only [laws_markIntSS.l0] at H
   obtain ⟨Ao, co, rfl⟩ := Kd.S_slice HO_0.out
   by_cases c3 : x5_1 < (x0_1.length : Int)
   ·rw [if_pos c3] at H
    by_cases c4 : 0 ≤ x5_1
    ·rw [if_pos c4] at H
     obtain ⟨⟨t1, t2⟩, hc, H⟩ := Option.bind_eq_some_iff.1 H
     obtain ⟨i, rfl⟩ := Int.eq_ofNat_of_zero_le c4
     simp only [Int.toNat_natCast] at H hc
     obtain ⟨g, cap, hv, hgb, hgl, hgt⟩ := Kd.S_form HO_0.out (by omega)
     obtain ⟨rfl, _, rfl⟩ := Value.slice.inj hv
     clear hv hgb hgl hgt
     obtain ⟨oki, cs, hcl, hM, hcc, hoki, hH⟩ := Kd.S_lend HO_0.out ([] : List Int) (i : Int) c4 c3
     simp only [Int.toNat_natCast] at hM hcc hH
     obtain ⟨v, rfl, hR⟩ := hM
     have hx0 : wr.cell? ⟨g, i, none⟩ = some v := by
      have := hcc 0 v rfl
      rw [Nat.add_zero, show i * (Kd.slice 3 (Kd.int .i64)).sz = i from Nat.mul_one i] at this
      exact this
     clear hcc hcl
     obtain ⟨Ai, ci, rfl⟩ := Kd.R_slice hR
     generalize (x0_1.getD i []) = xi at hR hc hx0 hH
     have HR := aM hR
     have HH := aM hH
     have HI := aM hoki
     have HF := aM hc
     have H' := aM H
     have hcall : ∀ W, Below wr.heap.size wr W → Calls Try.prog 18 #[.slice Ai xi.length ci, .int .i64 x1_1] W fun e w' => e = .returned (.int .i64 t1) ∧ Kd.R (Kd.int .i64) 3 w' w0.heap.size (fun k_ => (oki k_ ∨ W.heap.size ≤ k_)) (.slice Ai xi.length ci) t2 ∧ Below w0.heap.size w0 w' ∧ Kept W w' (fun k_ => oki k_) := fun W hb =>
      laws_markIntS.calls k1 oki (.slice Ai xi.length ci) xi x1_1 t1 t2 w0 W (below_then HB.out HB.out.size hb) (Kd.R_below HR.out hb) HF.out
     have HCL := aM hcall
     clear hR hH hoki hc H hcall
     have hi0 : (0 : Int) ≤ (i : Int) := c4
     go_wp2_with (go_at_call 18; refine (HCL.out _ (by first | exact Below.refl _ _ | exact Drawn0.below (by repeat (first | exact Drawn0.refl _ | apply Drawn0.step)))).mono ?_; rintro e w2 ⟨rfl, ho2, hb2, hk2⟩; have HO2 := aM ho2; have HB2 := aM hb2; have HK2 := aM hk2; clear ho2 hb2 hk2)
     go_roundg k1
     case measure => have := HK1.out; omega
     case rel =>
      have hsz : w.heap.size ≤ wr.heap.size := HK.out.1
      have hk3 : Kept wr w2 (fun k_ => oki k_) := HK2.out
      have hS : Kd.S (Kd.slice 3 (Kd.int .i64)) 34 w2 w0.heap.size (fun k_ => (P0_ k_ ∨ w.heap.size ≤ k_)) (.slice (some ⟨g, 0, none⟩) x0_1.length co) (x0_1.set i t2) :=
       Kd.H_back (Kd.H_step (Kd.H_widen HH.out) (fun k_ _ hn hlt => hk3.2 k_ hlt (fun c => hn (Or.inl c)))) ⟨_, rfl, HO2.out⟩ (fun k_ hk => Or.elim hk Or.inl (fun h => Or.inr ⟨Or.inr (Nat.le_trans hsz h), h⟩))
      exact ⟨x0_1.set i t2, t1, wrap64 ((i : Int) + 1), rfl, rfl, H', ⟨by have := HK1.out; omega⟩, ⟨hS⟩, ⟨HK.out.then_ hk3 (fun k_ hk => (HI.out k_ hk).1)⟩, HB2⟩
    ·rw [if_neg c4] at H
     exact absurd H (by simp)
   ·rw [if_neg c3] at H
    simp only [Option.some.injEq, Prod.mk.injEq] at H
    obtain ⟨rfl, rfl⟩ := H
    go_wp2
    go_ret
    exact ⟨rfl, HO_0.out, HB.out, HK.out⟩

end Go.Proofs.Ytdklmjpimgeejaa.P
