/- Plain lists and numbers: what the program's functions and the reference's compute. -/
import Derived.Test.YtnooegfhffhfpaaP0
import Derived.Test.YtnooegfhffhfpaaPIb
import Derived.Test.YtnooegfhffhfpaaPSa
import Derived.Test.YtnooegfhffhfpaaPSc
import Derived.Test.YtnooegfhffhfpaaPSl
import Derived.Test.YtnooegfhffhfpaaPSm
import Derived.Test.YtnooegfhffhfpaaQBaseF
import Derived.Test.YtnooegfhffhfpaaQBaseH
import Derived.Test.YtnooegfhffhfpaaQFleury
import Derived.Test.YtnooegfhffhfpaaQTrails
import Derived.Test.YtnooegfhffhfpaaQWalkC
namespace Go.Proofs.Ytnooegfhffhfpaa.Q
open Go.RowKit Go.Proofs.Ytnooegfhffhfpaa.P Go.Proofs.YtnooegfhffhfpaaW.PrintWords Go.Proofs.YtnooegfhffhfpaaW.PrintLast Go.Proofs.YtnooegfhffhfpaaW.PrintMore
set_option linter.unusedVariables false
set_option linter.unusedSimpArgs false

theorem whCount_loop {a : List S39} {n : Int} {d : Nat} (hg : ∀ t ∈ a, goodT t = true) (hnd : a.Nodup) (hl : a.length ≤ 55) (hd : a.length = d + 1)
    (ih : ∀ (b : List S39) (m : Int), (∀ t ∈ b, goodT t = true) → b.Nodup → b.length = d → (0 ≤ m ∧ m ≤ 9) → Ev (fun k => spec_whCount.f k b m) (wrap64 (cntT d m b))) :
    ∀ (e j : Nat) (X : Int), j + e = 10 → Ev (fun k => spec_whCount.l0 k a n (wrap64 X) (j : Int)) (wrap64 (X + sumF (fun m => if mkT n m ∈ a then cntT d m (a.erase (mkT n m)) else 0) (upFrom j e))) := by
  intro e
  induction e with
  | zero =>
    intro j X hj
    refine Ev.step (f := fun _ => some (wrap64 X)) (fun k => ?_) (ev_const fun k => by simp [upFrom, sumF])
    simp only [spec_whCount.l0]
    rw [if_neg (by omega)]
  | succ e ihe =>
    intro j X hj
    have hp := tiPlace_ev a (mkT n j) (by omega)
    have hsj : Same (a.erase (mkT n j)) (withoutT a (mkT n j)) := Same.without ⟨hnd, hnd, fun _ => Iff.rfl⟩ hg _
    have hge : ∀ t ∈ a.erase (mkT n j), goodT t = true := fun t ht => hg t (List.mem_of_mem_erase ht)
    refine Ev.step (f := fun k => (spec_tiPlace.f k a (mkT n j).f0 (mkT n j).f1).bind fun t188 => (if t188 < 0 then (spec_whCount.l0 k a n (wrap64 X) ((j + 1 : Nat) : Int)) else ((spec_whWithout.f k a n j).bind fun t189 => ((spec_whFrom.f k t189 j).bind fun t192 => (if t192 = true then ((spec_whCount.f k t189 j).bind fun t193 => (spec_whCount.l0 k a n (wrap64 (wrap64 X + t193)) ((j + 1 : Nat) : Int))) else (spec_whCount.l0 k a n (wrap64 X) ((j + 1 : Nat) : Int))))))) (fun k => ?_) (Ev.bind hp ?_)
    · simp only [spec_whCount.l0]
      rw [if_pos (by omega), tiOf_some, Option.bind_some, wrap_succ (by omega)]
    · rw [upFrom, sumF]
      by_cases hm : mkT n j ∈ a
      · have hpn : ¬ placeT a (mkT n j) < 0 := by have := (placeT_nonneg a (mkT n j)).2 hm; omega
        have hlen : (withoutT a (mkT n j)).length = d := by rw [← hsj.perm.length_eq, List.length_erase_of_mem hm]; omega
        have hgw := hsj.good hge
        obtain ⟨b, hb, eb⟩ := whFrom_ev hgw hsj.2.1 (by omega) (n := (j : Int)) (by omega)
        simp only [hpn, if_false]
        rw [if_pos hm, cntT_same d j hsj]
        refine Ev.bind (whWithout_ev a n j (by omega)) (Ev.bind eb ?_)
        cases b with
        | true =>
          simp only [if_true]
          refine Ev.bind (ih _ j hgw hsj.2.1 hlen (by omega)) ?_
          have := ihe (j + 1) (X + cntT d j (withoutT a (mkT n j))) (by omega)
          rw [Int.add_assoc] at this
          rwa [wrap_addl, wrap_addr]
        | false =>
          simp only [Bool.false_eq_true, if_false]
          have hz : cntT d j (withoutT a (mkT n j)) = 0 := by
            by_cases c : cntT d j (withoutT a (mkT n j)) = 0
            · exact c
            · obtain ⟨r, x, ht⟩ := cntT_trail d j _ hlen c
              have : false = true := hb.2 (.inr ⟨ht.from_, par_odd ht.par (by omega) (ht.last (by omega))⟩)
              cases this
          rw [hz, Int.zero_add]
          exact ihe (j + 1) X (by omega)
      · have hpn : placeT a (mkT n j) < 0 := by
          have h1 := mt (placeT_nonneg a (mkT n j)).1 hm
          omega
        simp only [hpn, if_true]
        rw [if_neg hm, Int.zero_add]
        exact ihe (j + 1) X (by omega)
theorem whCount_ev : ∀ (d : Nat) (a : List S39) (n : Int), (∀ t ∈ a, goodT t = true) → a.Nodup → a.length = d → d ≤ 55 → (0 ≤ n ∧ n ≤ 9) → Ev (fun k => spec_whCount.f k a n) (wrap64 (cntT d n a))
  | 0, a, n, hg, hnd, hd, _, hn => by
    refine Ev.step (f := fun _ => some (wrap64 1)) (fun k => ?_) (Ev.now _)
    simp only [spec_whCount.f]
    rw [if_pos (by omega), wrap_eq (x := 1) (by omega) (by omega)]
  | d + 1, a, n, hg, hnd, hd, h55, hn => by
    refine Ev.step (f := fun k => spec_whCount.l0 k a n (wrap64 0) ((0 : Nat) : Int)) (fun k => ?_) ?_
    · simp only [spec_whCount.f]
      rw [if_neg (by omega), wrap_eq (x := 0) (by omega) (by omega)]; rfl
    · have := whCount_loop (n := n) hg hnd (by omega) hd (fun b m hgb hnb hlb hm => whCount_ev d b m hgb hnb hlb (by omega) hm) 10 0 0 (by omega)
      rw [Int.zero_add] at this
      exact this
theorem whAll_l1 {a : List S39} (hl : a.length ≤ 55) (own : List Int) (ho : own.length ≤ 1000) (j : Nat) (x6 X7 C : Int) {r : Int × Int} : ∀ (e i : Nat) (Y : Int), i + e = own.length →
    Ev (fun k => spec_whAll.l0 k a own x6 (wrap64 (X7 + C * (Y * prodI (facT a j) (own.drop i)))) (wrap64 ((j : Int) + 1))) r →
    Ev (fun k => spec_whAll.l1 k a own x6 (wrap64 X7) (j : Int) (wrap64 C) (wrap64 Y) own (own.length : Int) (i : Int)) r := by
  intro e
  induction e with
  | zero =>
    intro i Y hi h
    refine Ev.step (fun k => ?_) h
    simp only [spec_whAll.l1]
    rw [if_neg (by omega), List.drop_of_length_le (by omega), prodI, Int.mul_one, wrap_mull, wrap_mulr, wrap_addl, wrap_addr]
  | succ e ih =>
    intro i Y hi h
    have hlt : i < own.length := by omega
    obtain ⟨v, hv⟩ : ∃ x, own[i]? = some x := ⟨_, List.getElem?_eq_getElem hlt⟩
    have hd : own.drop i = v :: own.drop (i + 1) := by
      rw [List.drop_eq_getElem_cons hlt]
      rw [List.getElem?_eq_getElem hlt] at hv
      cases hv; rfl
    rw [hd, prodI] at h
    have h2 := ih (i + 1) (Y * facT a j v) (by omega) (by rw [Int.mul_assoc]; exact h)
    have hb := timesT_bd a v
    have hdiv : Int.tdiv (timesT a v + 1) 2 = (timesT a v + 1) / 2 := Int.tdiv_eq_ediv_of_nonneg (by omega)
    have e1 : wrap64 (timesT a v + 1) = timesT a v + 1 := wrap_eq (by omega) (by omega)
    have e2 : wrap64 ((timesT a v + 1) / 2) = (timesT a v + 1) / 2 := wrap_eq (by omega) (by omega)
    have e3 : wrap64 ((timesT a v + 1) / 2 + 1) = (timesT a v + 1) / 2 + 1 := wrap_eq (by omega) (by omega)
    refine Ev.step (f := fun k => (spec_tiTimes.f k a v).bind fun t197 => ((spec_whOdd.f k a).bind fun t198 => (if (t198.length : Int) = 0 then (if v = (j : Int) then (spec_whAll.l1 k a own x6 (wrap64 X7) (j : Int) (wrap64 C) (wrap64 (wrap64 Y * (wrap64 ((wrap64 (Int.tdiv (wrap64 (t197 + 1)) 2)) + 1)))) own (own.length : Int) ((i + 1 : Nat) : Int)) else (spec_whAll.l1 k a own x6 (wrap64 X7) (j : Int) (wrap64 C) (wrap64 (wrap64 Y * (wrap64 (Int.tdiv (wrap64 (t197 + 1)) 2)))) own (own.length : Int) ((i + 1 : Nat) : Int))) else (spec_whAll.l1 k a own x6 (wrap64 X7) (j : Int) (wrap64 C) (wrap64 (wrap64 Y * (wrap64 (Int.tdiv (wrap64 (t197 + 1)) 2)))) own (own.length : Int) ((i + 1 : Nat) : Int))))) (fun k => ?_) (Ev.bind (tiTimes_ev a v (by omega)) (Ev.bind (whOdd_ev a (by omega)) ?_))
    · simp only [spec_whAll.l1]
      rw [if_pos (by omega), if_pos (by omega), if_pos (by omega), rd_nat own i v hv, wrap_succ (by omega)]
    · unfold facT at h2
      rw [e1, hdiv, e2, e3]
      by_cases c : oddT a = []
      · by_cases c2 : v = (j : Int)
        · refine Ev.congr (fun k => ?_) h2
          rw [if_pos (by rw [c]; rfl), if_pos c2, if_pos ⟨c, c2⟩, wrap_mull]
        · refine Ev.congr (fun k => ?_) h2
          rw [if_pos (by rw [c]; rfl), if_neg c2, if_neg (fun q => c2 q.2), wrap_mull, Int.add_zero]
      · refine Ev.congr (fun k => ?_) h2
        have hne : ¬ ((oddT a).length : Int) = 0 := by have := List.length_pos_iff.2 c; omega
        rw [if_neg hne, if_neg (fun q => c q.1), wrap_mull, Int.add_zero]
theorem whAll_loop {a : List S39} (hg : ∀ t ∈ a, goodT t = true) (hnd : a.Nodup) (hl : a.length ≤ 55) (own : List Int) (ho : own.length ≤ 1000) : ∀ (e j : Nat) (X6 X7 : Int), j + e = 10 →
    Ev (fun k => spec_whAll.l0 k a own (wrap64 X6) (wrap64 X7) (j : Int)) (wrap64 (X6 + sumF (fun n => cntT a.length n a) (upFrom j e)), wrap64 (X7 + sumF (fun n => prodI (facT a n) own * cntT a.length n a) (upFrom j e))) := by
  intro e
  induction e with
  | zero =>
    intro j X6 X7 hj
    refine Ev.step (f := fun _ => some (wrap64 X6, wrap64 X7)) (fun k => ?_) (ev_const fun k => by simp [upFrom, sumF])
    simp only [spec_whAll.l0]
    rw [if_neg (by omega)]
  | succ e ih =>
    intro j X6 X7 hj
    obtain ⟨b, hb, eb⟩ := whFrom_ev hg hnd hl (n := (j : Int)) (by omega)
    refine Ev.step (f := fun k => (spec_whFrom.f k a j).bind fun t194 => (if t194 = true then ((spec_whCount.f k a j).bind fun t195 => (spec_whAll.l1 k a own (wrap64 (wrap64 X6 + t195)) (wrap64 X7) (j : Int) t195 (wrap64 1) own (own.length : Int) ((0 : Nat) : Int))) else (spec_whAll.l0 k a own (wrap64 X6) (wrap64 X7) ((j + 1 : Nat) : Int)))) (fun k => ?_) (Ev.bind eb ?_)
    · simp only [spec_whAll.l0]
      rw [if_pos (by omega), wrap_succ (by omega), wrap_eq (x := 1) (by omega) (by omega)]; rfl
    · rw [upFrom, sumF, sumF, ← Int.add_assoc, ← Int.add_assoc]
      cases b with
      | true =>
        simp only [if_true]
        refine Ev.bind (whCount_ev a.length a j hg hnd rfl hl (by omega)) ?_
        refine whAll_l1 hl own ho j _ X7 (cntT a.length j a) own.length 0 1 (by omega) ?_
        rw [List.drop_zero, Int.one_mul, wrap_succ (by omega), wrap_addl, wrap_addr, Int.mul_comm (cntT a.length j a)]
        exact ih (j + 1) _ _ (by omega)
      | false =>
        simp only [Bool.false_eq_true, if_false]
        have hz : cntT a.length j a = 0 := by
          by_cases c : cntT a.length j a = 0
          · exact c
          · obtain ⟨r, x, ht⟩ := cntT_trail _ j _ rfl c
            have : false = true := hb.2 (.inr ⟨ht.from_, par_odd ht.par (by omega) (ht.last (by omega))⟩)
            cases this
        rw [hz, Int.mul_zero, Int.add_zero, Int.add_zero]
        exact ih (j + 1) X6 X7 (by omega)
theorem whAll_ev {a : List S39} (hg : ∀ t ∈ a, goodT t = true) (hnd : a.Nodup) (hl : a.length ≤ 55) (own : List Int) (ho : own.length ≤ 1000) : Ev (fun k => spec_whAll.f k a own) (wrap64 (sumF (fun n => cntT a.length n a) (upFrom 0 10)), wrap64 (sumF (fun n => prodI (facT a n) own * cntT a.length n a) (upFrom 0 10))) := by
  have := whAll_loop hg hnd hl own ho 10 0 0 0 (by omega)
  rw [Int.zero_add, Int.zero_add, wrap_eq (x := 0) (by omega) (by omega)] at this
  exact this

end Go.Proofs.Ytnooegfhffhfpaa.Q
