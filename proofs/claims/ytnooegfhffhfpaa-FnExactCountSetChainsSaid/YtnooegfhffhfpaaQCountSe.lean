/- Plain lists and numbers: what the program's functions and the reference's compute. -/
import Derived.Test.YtnooegfhffhfpaaPFCountSetChains
import Derived.Test.YtnooegfhffhfpaaPIa
import Derived.Test.YtnooegfhffhfpaaPIb
import Derived.Test.YtnooegfhffhfpaaPIp
import Derived.Test.YtnooegfhffhfpaaPIx
import Derived.Test.YtnooegfhffhfpaaPSa
import Derived.Test.YtnooegfhffhfpaaPSb
import Derived.Test.YtnooegfhffhfpaaPSl
import Derived.Test.YtnooegfhffhfpaaPSm
import Derived.Test.YtnooegfhffhfpaaQBaseF
import Derived.Test.YtnooegfhffhfpaaQBaseG
import Derived.Test.YtnooegfhffhfpaaQBaseH
import Derived.Test.YtnooegfhffhfpaaQCountE
import Derived.Test.YtnooegfhffhfpaaQCountI
import Derived.Test.YtnooegfhffhfpaaQCountS
import Derived.Test.YtnooegfhffhfpaaQDblC
import Derived.Test.YtnooegfhffhfpaaQTrails
namespace Go.Proofs.Ytnooegfhffhfpaa.Q
open Go.RowKit Go.Proofs.Ytnooegfhffhfpaa.P Go.Proofs.YtnooegfhffhfpaaW.PrintWords Go.Proofs.YtnooegfhffhfpaaW.PrintLast Go.Proofs.YtnooegfhffhfpaaW.PrintMore
set_option linter.unusedVariables false
set_option linter.unusedSimpArgs false

theorem set_good {n : Nat} (h : n < 10) : ∀ t ∈ setN n, goodT t = true := by
  have H : ∀ m : Fin 10, (setN m.val).all goodT = true := by decide +kernel
  exact List.all_eq_true.1 (H ⟨n, h⟩)
theorem set_nodup {n : Nat} (h : n < 10) : (setN n).Nodup := by
  have H : ∀ m : Fin 10, decide (setN m.val).Nodup = true := by decide +kernel
  exact of_decide_eq_true (H ⟨n, h⟩)
theorem total0 : totalN (dblT (sortN (setN 0))) (plnT (sortN (setN 0))) = 1 := by decide +kernel
theorem total1 : totalN (dblT (sortN (setN 1))) (plnT (sortN (setN 1))) = 2 := by decide +kernel
theorem total2 : totalN (dblT (sortN (setN 2))) (plnT (sortN (setN 2))) = 12 := by decide +kernel
theorem odd3 : (oddT (plnT (sortN (setN 3)))).length = 4 := by decide +kernel
theorem odd5 : (oddT (plnT (sortN (setN 5)))).length = 6 := by decide +kernel
theorem total3 : totalN (dblT (sortN (setN 3))) (plnT (sortN (setN 3))) = 0 := total_zero _ fun c => by have := c.2; rw [odd3] at this; omega
theorem total5 : totalN (dblT (sortN (setN 5))) (plnT (sortN (setN 5))) = 0 := total_zero _ fun c => by have := c.2; rw [odd5] at this; omega
theorem cnt0 : cntT (plnT (sortN (setN 0))).length 0 (plnT (sortN (setN 0))) = 1 := by decide +kernel
theorem cnt2 : cntT (plnT (sortN (setN 2))).length 0 (plnT (sortN (setN 2))) = 2 := by decide +kernel
theorem cnt4 : cntT (plnT (sortN (setN 4))).length 0 (plnT (sortN (setN 4))) = 528 := by decide +kernel
theorem total4 : totalN (dblT (sortN (setN 4))) (plnT (sortN (setN 4))) = 126720 := by decide +kernel
/-- What the product over the numbers ends at. -/
theorem set_prod (a c : Int) : ∀ (d i : Nat) (x : Int), (i : Int) + d = a → a ≤ 5 → Ev (fun k => spec_CountSetChains.l0 k a x (i : Int)) ((List.range d).foldl (fun y _ => wrap64 (y * (wrap64 (Int.tdiv a 2)))) x, true) := by
  intro d
  induction d with
  | zero =>
    intro i x hi ha
    refine Ev.step (f := fun _ => some (x, true)) (fun k => ?_) (Ev.now _)
    simp only [spec_CountSetChains.l0]
    rw [if_neg (by omega)]
  | succ d ih =>
    intro i x hi ha
    have h := ih (i + 1) (wrap64 (x * (wrap64 (Int.tdiv a 2)))) (by omega) ha
    have e : (List.range (d + 1)).foldl (fun y _ => wrap64 (y * (wrap64 (Int.tdiv a 2)))) x = (List.range d).foldl (fun y _ => wrap64 (y * (wrap64 (Int.tdiv a 2)))) (wrap64 (x * (wrap64 (Int.tdiv a 2)))) := by
      rw [List.range_succ_eq_map, List.foldl_cons, List.foldl_map]
    rw [e]
    refine Ev.step (fun k => ?_) h
    simp only [spec_CountSetChains.l0]
    rw [if_pos (by omega), wrap_succ (by omega)]
theorem setImpl {n : Nat} (h : n ≤ 5) (T : Int) (hT : totalN (dblT (sortN (setN n))) (plnT (sortN (setN n))) = T) (hT2 : wrap64 T = T) : Ev (fun k => impl_CountSetChains.f k (n : Int)) (T, true) := by
  have hw : impl_within.f (n : Int) 0 5 = some true := by unfold impl_within.f; rw [if_pos (by omega), decide_eq_true (by omega)]
  have ec := countWhole_ev (set_good (by omega : n < 10)) (set_nodup (by omega)) (setN_length n (by omega))
  rw [hT, hT2] at ec
  refine Ev.congr (f := fun k => (impl_setOf.f k (n : Int)).bind fun t346 => ((impl_countWhole.f k t346).bind fun t349 => (some (t349, true)))) (fun k => by unfold impl_CountSetChains.f; rw [hw, Option.bind_some, if_pos rfl]) (Ev.bind (setOf_ev n (by omega)) (Ev.bind ec (Ev.now _)))
theorem setSpec {n : Nat} (h : n ≤ 5) (he : n % 2 = 0) (c T : Int) (hc : cntT (plnT (sortN (setN n))).length 0 (plnT (sortN (setN n))) = c) (hT : (List.range n).foldl (fun y _ => wrap64 (y * (wrap64 (Int.tdiv n 2)))) (wrap64 ((wrap64 ((wrap64 ((n : Int) + 1)) * wrap64 c)) * (wrap64 ((wrap64 (Int.tdiv n 2)) + 1)))) = T) : Ev (fun k => spec_CountSetChains.f k (n : Int)) (T, true) := by
  have hi : spec_l1In.f (n : Int) 0 5 = some true := by unfold spec_l1In.f; rw [if_pos (by omega), decide_eq_true (by omega)]
  have hm : ¬ Int.tmod (n : Int) 2 = 1 := by rw [Int.tmod_eq_emod_of_nonneg (by omega)]; omega
  have hs : (setN n).length ≤ 1000000000 := by have := setN_length n (by omega); omega
  have ew := whPlain_ev (setN n) hs
  have ec := whCount_ev _ (plnT (sortN (setN n))) 0 (pln_good _) (pln_nodup _) rfl (pln_len _) (by omega)
  rw [hc] at ec
  have ep := set_prod (n : Int) c n 0 (wrap64 ((wrap64 ((wrap64 ((n : Int) + 1)) * wrap64 c)) * (wrap64 ((wrap64 (Int.tdiv n 2)) + 1)))) (by omega) (by omega)
  rw [hT] at ep
  refine Ev.congr (f := fun k => (spec_tiSet.f k (n : Int)).bind fun t332 => ((spec_whPlain.f k t332).bind fun t335 => ((spec_whCount.f k t335 0).bind fun t338 => (spec_CountSetChains.l0 k (n : Int) (wrap64 ((wrap64 ((wrap64 ((n : Int) + 1)) * t338)) * (wrap64 ((wrap64 (Int.tdiv (n : Int) 2)) + 1)))) 0)))) (fun k => ?_) (Ev.bind (tiSet_ev n (by omega)) (Ev.bind ew (Ev.bind ec ep)))
  unfold spec_CountSetChains.f
  rw [hi, Option.bind_some, if_pos rfl, if_neg (by omega), if_neg hm]
theorem setOdd {n : Nat} (h : n ≤ 5) (he : n % 2 = 1) (h1 : n ≠ 1) : Ev (fun k => spec_CountSetChains.f k (n : Int)) (0, true) := by
  have hi : spec_l1In.f (n : Int) 0 5 = some true := by unfold spec_l1In.f; rw [if_pos (by omega), decide_eq_true (by omega)]
  have hm : Int.tmod (n : Int) 2 = 1 := by rw [Int.tmod_eq_emod_of_nonneg (by omega)]; omega
  refine ev_const fun k => ?_
  unfold spec_CountSetChains.f
  rw [hi, Option.bind_some, if_pos rfl, if_neg (by omega), if_pos hm]
theorem CountSetChains_same (a : Int) : ∃ r, Ev (fun k => spec_CountSetChains.f k a) r ∧ Ev (fun k => impl_CountSetChains.f k a) r := by
  by_cases hr : 0 ≤ a ∧ a ≤ 5
  case neg =>
    have h1 : spec_l1In.f a 0 5 = some false := by
      unfold spec_l1In.f
      by_cases c : a ≥ 0
      · rw [if_pos c, decide_eq_false (by omega)]
      · rw [if_neg c]
    have h2 : impl_within.f a 0 5 = some false := by
      unfold impl_within.f
      by_cases c : 0 ≤ a
      · rw [if_pos c, decide_eq_false (by omega)]
      · rw [if_neg c]
    refine ⟨(0, false), ev_const fun k => ?_, ev_const fun k => ?_⟩
    · unfold spec_CountSetChains.f; rw [h1]; rfl
    · unfold impl_CountSetChains.f; rw [h2]; rfl
  case pos =>
    obtain ⟨n, rfl⟩ : ∃ n : Nat, a = n := ⟨a.toNat, by omega⟩
    have h6 : n = 0 ∨ n = 1 ∨ n = 2 ∨ n = 3 ∨ n = 4 ∨ n = 5 := by omega
    rcases h6 with rfl | rfl | rfl | rfl | rfl | rfl
    · exact ⟨(1, true), setSpec (by omega) (by omega) 1 1 cnt0 (by decide +kernel), setImpl (by omega) 1 total0 (by decide +kernel)⟩
    · refine ⟨(2, true), ev_const fun k => ?_, setImpl (by omega) 2 total1 (by decide +kernel)⟩
      unfold spec_CountSetChains.f
      rw [show spec_l1In.f ((1 : Nat) : Int) 0 5 = some true from by decide +kernel, Option.bind_some, if_pos rfl, if_pos (by rfl)]
    · exact ⟨(12, true), setSpec (by omega) (by omega) 2 12 cnt2 (by decide +kernel), setImpl (by omega) 12 total2 (by decide +kernel)⟩
    · exact ⟨(0, true), setOdd (by omega) (by omega) (by omega), setImpl (by omega) 0 total3 (by decide +kernel)⟩
    · exact ⟨(126720, true), setSpec (by omega) (by omega) 528 126720 cnt4 (by decide +kernel), setImpl (by omega) 126720 total4 (by decide +kernel)⟩
    · exact ⟨(0, true), setOdd (by omega) (by omega) (by omega), setImpl (by omega) 0 total5 (by decide +kernel)⟩

end Go.Proofs.Ytnooegfhffhfpaa.Q
