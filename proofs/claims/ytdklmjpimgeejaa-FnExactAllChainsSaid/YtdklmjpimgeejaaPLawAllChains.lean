-- Printed by a program of this session (wip/myprint.py, which drives the kit's print): what one function of the program does, and the proof that its call does so.
import Derived.Test.YtdklmjpimgeejaaP0
import Derived.Test.YtdklmjpimgeejaaPIl
import Derived.Test.YtdklmjpimgeejaaPLa
import Derived.Test.YtdklmjpimgeejaaPSt
import Derived.Test.YtdklmjpimgeejaaPlawseqIntSS
import Derived.Test.YtdklmjpimgeejaaPlawsheldIntSS
import Derived.Test.YtdklmjpimgeejaaPlawsmarkIntSS
import Derived.Test.YtdklmjpimgeejaaPlawsmarkTileS
namespace Go.Proofs.Ytdklmjpimgeejaa.P
open Go.RowKit Go.Proofs.YtdklmjpimgeejaaW.PrintWords Go.Proofs.YtdklmjpimgeejaaW.PrintLast Go.Proofs.YtdklmjpimgeejaaW.PrintMore
attribute [local go_sem] max2_int min2_int max_two min_two max_three min_three max_four min_four   -- for this text's walks alone
set_option linter.unusedVariables false
set_option linter.unusedSimpArgs false

/-! ### laws_FnExactAllChains: function 3: written by hand -/
/-- The law's own way: all calls answer, and all comparisons hold. -/
def laws_FnExactAllChains.f (k : Nat) (l0 : List S47) : Option Bool :=
 (laws_szTileS.f l0 1048576).bind fun s => if s < 0 then some true else
 (laws_toTileS.f k l0).bind fun lt => (spec_AllChains.f k lt).bind fun r => (impl_AllChains.f k lt).bind fun r' =>
 (laws_eqIntSS.f k r'.1 r.1).bind fun e1 => (laws_eqTileS.f k lt lt).bind fun e2 => (laws_markTileS.f k lt 1).bind fun m1 => (laws_markIntSS.f k r'.1 1).bind fun m2 => (laws_heldIntSS.f k m2.2 1).bind fun q =>
 if r' = r ∧ e1 = true ∧ e2 = true ∧ ¬ m1.1 < 0 ∧ ¬ q < 0 ∧ q = m2.1 ∧ m2.2.length = r.1.length then some true else none
set_option maxHeartbeats 8000000 in
set_option maxRecDepth 100000 in
theorem laws_FnExactAllChains.calls (k : Nat) (A0 : Option Addr) (c0 : Nat) (l0 : List S47) (r : Bool) (w : World) (hr0 : Kd.C k47 w A0 l0.length l0) (hc0 : l0.length ≤ c0) (h : laws_FnExactAllChains.f k l0 = some r) :
  Calls Try.prog 3 #[.slice A0 l0.length c0] w fun e w' => e = .returned (.bool r) ∧ Below w.heap.size w w' := by
 have HR0 := aM hr0
 have HC0 := aM hc0
 have HB := aM (Below.refl w.heap.size w)
 clear hr0 hc0
 unfold laws_FnExactAllChains.f at h
 obtain ⟨s, f1, h⟩ := Option.bind_eq_some_iff.1 h
 have F1 := aM f1
 clear f1
 by_cases cs : s < 0
 ·rw [if_pos cs] at h
  obtain rfl := Option.some.inj h
  have csb : decide (s < 0) = true := decide_eq_true cs
  have T1 := aM trivial
  clear h cs
  go_enter Try.func3, Try.ntmps3
  go_wp2_with ((go_at_call 6; clear T1; refine (laws_szTileS.calls A0 c0 l0 1048576 s _ HR0.out HC0.out F1.out).mono ?_; rintro e w1 ⟨rfl, hd⟩; have hb := hd.below; have HBb := aM (below_then HB.out HB.out.size hb); clear HB; have HB := HBb; clear HBb; clear hb hd))
  go_ret
  exact ⟨rfl, HB.out⟩
 rw [if_neg cs] at h
 obtain ⟨lt, f2, h⟩ := Option.bind_eq_some_iff.1 h
 obtain ⟨⟨r1, r2⟩, f3, h⟩ := Option.bind_eq_some_iff.1 h
 obtain ⟨r', f4, h⟩ := Option.bind_eq_some_iff.1 h
 obtain ⟨e1, f5, h⟩ := Option.bind_eq_some_iff.1 h
 obtain ⟨e2, f6, h⟩ := Option.bind_eq_some_iff.1 h
 obtain ⟨⟨m1, lt2⟩, f7, h⟩ := Option.bind_eq_some_iff.1 h
 obtain ⟨⟨m2, rr⟩, f8, h⟩ := Option.bind_eq_some_iff.1 h
 obtain ⟨q, f9, h⟩ := Option.bind_eq_some_iff.1 h
 by_cases cc : r' = (r1, r2) ∧ e1 = true ∧ e2 = true ∧ ¬ m1 < 0 ∧ ¬ q < 0 ∧ q = m2 ∧ rr.length = r1.length
 case neg => rw [if_neg cc] at h; cases h
 rw [if_pos cc] at h
 obtain rfl := Option.some.inj h
 obtain ⟨rfl, rfl, rfl, cm1, cq, rfl, hlr⟩ := cc
 simp only at f4 f5 f8 f9
 have csb : decide (s < 0) = false := decide_eq_false cs
 have cmb : decide (m1 < 0) = false := decide_eq_false cm1
 have cqb : decide (q < 0) = false := decide_eq_false cq
 have F2 := aM f2
 have F3 := aM f3
 have F4 := aM f4
 have F5 := aM f5
 have F6 := aM f6
 have F7 := aM f7
 have F8 := aM f8
 have F9 := aM f9
 have FL := aM hlr
 have T1 := aM trivial
 have T2 := aM trivial
 have T3 := aM trivial
 have T4 := aM trivial
 have T5 := aM trivial
 have T6 := aM trivial
 have T7 := aM trivial
 have T8 := aM trivial
 have T9 := aM trivial
 have T10 := aM trivial
 have T11 := aM trivial
 have T12 := aM trivial
 have T13 := aM trivial
 have T14 := aM trivial
 have T15 := aM trivial
 have T16 := aM trivial
 clear h f2 f3 f4 f5 f6 f7 f8 f9 cs cm1 cq hlr
 go_enter Try.func3, Try.ntmps3
 go_wp2_with (go_at_call 6; clear T1; refine (laws_szTileS.calls A0 c0 l0 1048576 s _ HR0.out HC0.out F1.out).mono ?_; rintro e w1 ⟨rfl, hd⟩; have hb := hd.below; have HBb := aM (below_then HB.out HB.out.size hb); clear HB; have HB := HBb; clear HBb; clear hb hd)
 go_wp2_with (go_at_call 8; clear T2; refine (laws_toTileS.calls k A0 c0 l0 lt _ (Kd.C_below HR0.out HB.out) HC0.out F2.out).mono ?_; rintro e w2 ⟨v1, rfl, ho, hb⟩; obtain ⟨A1, c1, rfl⟩ := Kd.R_slice ho; have Y0 := aM ho; have HBb := aM (below_then HB.out HB.out.size hb); clear HB; have HB := HBb; clear HBb; clear hb ho)
 go_wp2_with (go_at_call 7; clear T3; refine (spec_AllChains.calls k A1 c1 lt r1 r2 _ (Kd.R_reads' Y0.out).2.2 (Kd.R_reads' Y0.out).2.1 F3.out).mono ?_; rintro e w3 ⟨v2, rfl, ho, hb⟩; obtain ⟨A2, c2, rfl⟩ := Kd.S_slice ho; have W0 := aM (Kd.S_mono (Kd.S_bound ho) (ok' := fun q_ => q_ < w3.heap.size) (fun q_ hq => hq.2.2.1)); have HZ3 := aM (show w.heap.size ≤ w3.heap.size from Nat.le_trans HB.out.size hb.size); have Z3 := aM (show w3.heap.size ≤ w3.heap.size from Nat.le_refl _); have HBb := aM (below_then HB.out HB.out.size hb); clear HB; have HB := HBb; clear HBb; clear hb ho Y0)
 go_wp2_with (go_at_call 8; clear T4; refine (laws_toTileS.calls k A0 c0 l0 lt _ (Kd.C_below HR0.out HB.out) HC0.out F2.out).mono ?_; rintro e w4 ⟨v3, rfl, ho, hb⟩; obtain ⟨A3, c3, rfl⟩ := Kd.R_slice ho; have X0 := aM (Kd.R_mono (Kd.R_bound ho) (ok' := fun q_ => w3.heap.size ≤ q_ ∧ q_ < w4.heap.size) (fun q_ hq => ⟨hq.2.1, hq.2.2.1⟩)); have n_ := aM (Kd.S_below W0.out hb); clear W0; have W0 := n_; clear n_; have HBb := aM (below_then HB.out HB.out.size hb); clear HB; have HB := HBb; clear HBb; have HZ4 := aM (show w.heap.size ≤ w4.heap.size from HB.out.size); have Z4 := aM hb.size; clear hb ho)
 go_wp2_with (go_at_call 9; clear T5; refine (impl_AllChains.calls k A3 c3 lt r1 r2 _ (Kd.R_reads' X0.out).2.2 (Kd.R_reads' X0.out).2.1 F4.out).mono ?_; rintro e w5 ⟨v4, rfl, ho, hb⟩; obtain ⟨A4, c4, rfl⟩ := Kd.S_slice ho; have G0 := aM (Kd.S_mono (Kd.S_bound ho) (ok' := fun q_ => w4.heap.size ≤ q_) (fun q_ hq => hq.2.1)); have n_ := aM (Kd.S_below W0.out hb); clear W0; have W0 := n_; clear n_; have n_ := aM (Kd.R_below X0.out hb); clear X0; have X0 := n_; clear n_; have HBb := aM (below_then HB.out HB.out.size hb); clear HB; have HB := HBb; clear HBb; clear hb ho)
 go_wp2_with (go_at_call 10; clear T6; refine (laws_eqIntSS.calls k A4 c4 r1 A2 c2 r1 true _ (Kd.S_reads' G0.out).2.2 (Kd.S_reads' G0.out).2.1 (Kd.S_reads' W0.out).2.2 (Kd.S_reads' W0.out).2.1 F5.out).mono ?_; rintro e w6 ⟨rfl, hb_⟩; (first | (have hb := Drawn0.below hb_) | (have hb := hb_)); have n_ := aM (Kd.S_below W0.out hb); clear W0; have W0 := n_; clear n_; have n_ := aM (Kd.R_below X0.out hb); clear X0; have X0 := n_; clear n_; have n_ := aM (Kd.S_below G0.out hb); clear G0; have G0 := n_; clear n_; have HBb := aM (below_then HB.out HB.out.size hb); clear HB; have HB := HBb; clear HBb; clear hb hb_)
 go_wp2_with (go_at_call 8; clear T7; refine (laws_toTileS.calls k A0 c0 l0 lt _ (Kd.C_below HR0.out HB.out) HC0.out F2.out).mono ?_; rintro e w7 ⟨v5, rfl, ho, hb⟩; obtain ⟨A5, c5, rfl⟩ := Kd.R_slice ho; have Y0 := aM ho; have n_ := aM (Kd.S_below W0.out hb); clear W0; have W0 := n_; clear n_; have n_ := aM (Kd.R_below X0.out hb); clear X0; have X0 := n_; clear n_; have n_ := aM (Kd.S_below G0.out hb); clear G0; have G0 := n_; clear n_; have HBb := aM (below_then HB.out HB.out.size hb); clear HB; have HB := HBb; clear HBb; clear hb ho)
 go_wp2_with (go_at_call 11; clear T8; refine (laws_eqTileS.calls k A3 c3 lt A5 c5 lt true _ (Kd.R_reads' X0.out).2.2 (Kd.R_reads' X0.out).2.1 (Kd.R_reads' Y0.out).2.2 (Kd.R_reads' Y0.out).2.1 F6.out).mono ?_; rintro e w8 ⟨rfl, hb_⟩; (first | (have hb := Drawn0.below hb_) | (have hb := hb_)); have n_ := aM (Kd.S_below W0.out hb); clear W0; have W0 := n_; clear n_; have n_ := aM (Kd.R_below X0.out hb); clear X0; have X0 := n_; clear n_; have n_ := aM (Kd.S_below G0.out hb); clear G0; have G0 := n_; clear n_; have HBb := aM (below_then HB.out HB.out.size hb); clear HB; have HB := HBb; clear HBb; clear hb hb_ Y0)
 go_wp2_with (go_at_call 12; clear T9; refine (laws_markTileS.calls k (fun q_ => w3.heap.size ≤ q_ ∧ q_ < w4.heap.size) _ lt 1 m1 lt2 w _ HB.out (Kd.R_lower X0.out (show w.heap.size ≤ w3.heap.size from HZ3.out)) F7.out).mono ?_; rintro e w9 ⟨rfl, _, hb, hk⟩; have n_ := aM (Kd.S_kept W0.out hk (fun q_ hq hn => by have h1 := hn.1; have h2 : q_ < w3.heap.size := hq; omega)); clear W0; have W0 := n_; clear n_; have n_ := aM (Kd.S_kept G0.out hk (fun q_ hq hn => by have h1 := hn.2; have h2 : w4.heap.size ≤ q_ := hq; omega)); clear G0; have G0 := n_; clear n_; clear HB; have HB := aM hb; clear hb hk X0)
 go_wp2_with (go_at_call 10; clear T10; refine (laws_eqIntSS.calls k A4 c4 r1 A2 c2 r1 true _ (Kd.S_reads' G0.out).2.2 (Kd.S_reads' G0.out).2.1 (Kd.S_reads' W0.out).2.2 (Kd.S_reads' W0.out).2.1 F5.out).mono ?_; rintro e w10 ⟨rfl, hb_⟩; (first | (have hb := Drawn0.below hb_) | (have hb := hb_)); have n_ := aM (Kd.S_below W0.out hb); clear W0; have W0 := n_; clear n_; have n_ := aM (Kd.S_below G0.out hb); clear G0; have G0 := n_; clear n_; have HBb := aM (below_then HB.out HB.out.size hb); clear HB; have HB := HBb; clear HBb; clear hb hb_)
 go_wp2_with (go_at_call 13; clear T11; refine (laws_markIntSS.calls k (fun q_ => w4.heap.size ≤ q_) _ r1 1 q rr w _ HB.out (Kd.S_lower G0.out (show w.heap.size ≤ w4.heap.size from HZ4.out)) F8.out).mono ?_; rintro e w11 ⟨rfl, ho, hb, hk⟩; have n_ := aM (Kd.S_kept W0.out hk (fun q_ hq hn => by have h1 : w4.heap.size ≤ q_ := hn; have h2 : q_ < w3.heap.size := hq; have h3 := Z4.out; omega)); clear W0; have W0 := n_; clear n_; clear HB G0; have HB := aM hb; have G0 := aM ho; clear hb hk ho)
 go_wp2_with (go_at_call 14; clear T12; have hq_ := fun W_ h1_ h2_ => laws_heldIntSS.calls k A4 c4 rr 1 q W_ h1_ h2_ F9.out; simp only [FL.out] at hq_; refine (hq_ _ (by have h2_ := (Kd.S_reads' G0.out).2.2; rw [FL.out] at h2_; exact h2_) (Kd.S_reads' G0.out).2.1).mono ?_; rintro e w12 ⟨rfl, hb_⟩; (first | (have hb := Drawn0.below hb_) | (have hb := hb_)); have n_ := aM (Kd.S_below W0.out hb); clear W0; have W0 := n_; clear n_; have n_ := aM (Kd.S_below G0.out hb); clear G0; have G0 := n_; clear n_; have HBb := aM (below_then HB.out HB.out.size hb); clear HB; have HB := HBb; clear HBb; clear hb hb_)
 go_wp2_with (go_at_call 8; clear T13; refine (laws_toTileS.calls k A0 c0 l0 lt _ (Kd.C_below HR0.out HB.out) HC0.out F2.out).mono ?_; rintro e w13 ⟨v6, rfl, ho, hb⟩; obtain ⟨A6, c6, rfl⟩ := Kd.R_slice ho; have Y0 := aM ho; have n_ := aM (Kd.S_below W0.out hb); clear W0; have W0 := n_; clear n_; have n_ := aM (Kd.S_below G0.out hb); clear G0; have G0 := n_; clear n_; have HBb := aM (below_then HB.out HB.out.size hb); clear HB; have HB := HBb; clear HBb; clear hb ho)
 go_wp2_with (go_at_call 9; clear T14; refine (impl_AllChains.calls k A6 c6 lt r1 r2 _ (Kd.R_reads' Y0.out).2.2 (Kd.R_reads' Y0.out).2.1 F4.out).mono ?_; rintro e w14 ⟨v7, rfl, ho, hb⟩; obtain ⟨A7, c7, rfl⟩ := Kd.S_slice ho; have H0 := aM ho; have n_ := aM (Kd.S_below W0.out hb); clear W0; have W0 := n_; clear n_; have n_ := aM (Kd.S_below G0.out hb); clear G0; have G0 := n_; clear n_; have HBb := aM (below_then HB.out HB.out.size hb); clear HB; have HB := HBb; clear HBb; clear hb ho Y0)
 go_wp2_with (go_at_call 10; clear T15; refine (laws_eqIntSS.calls k A7 c7 r1 A2 c2 r1 true _ (Kd.S_reads' H0.out).2.2 (Kd.S_reads' H0.out).2.1 (Kd.S_reads' W0.out).2.2 (Kd.S_reads' W0.out).2.1 F5.out).mono ?_; rintro e w15 ⟨rfl, hb_⟩; (first | (have hb := Drawn0.below hb_) | (have hb := hb_)); have n_ := aM (Kd.S_below G0.out hb); clear G0; have G0 := n_; clear n_; have HBb := aM (below_then HB.out HB.out.size hb); clear HB; have HB := HBb; clear HBb; clear hb hb_ H0 W0)
 go_wp2_with (go_at_call 14; clear T16; have hq_ := fun W_ h1_ h2_ => laws_heldIntSS.calls k A4 c4 rr 1 q W_ h1_ h2_ F9.out; simp only [FL.out] at hq_; refine (hq_ _ (by have h2_ := (Kd.S_reads' G0.out).2.2; rw [FL.out] at h2_; exact h2_) (Kd.S_reads' G0.out).2.1).mono ?_; rintro e w16 ⟨rfl, hb_⟩; (first | (have hb := Drawn0.below hb_) | (have hb := hb_)); have HBb := aM (below_then HB.out HB.out.size hb); clear HB; have HB := HBb; clear HBb; clear hb hb_)
 go_ret
 exact ⟨rfl, HB.out⟩

/-- What is left to prove of laws_FnExactAllChains. -/
def laws_FnExactAllChains.Pure : Prop := ∀ (l0 : List (S47)), l0.length ≤ maxLen → ∃ k, laws_FnExactAllChains.f k l0 = some true

end Go.Proofs.Ytdklmjpimgeejaa.P
