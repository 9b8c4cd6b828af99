/- Plain lists and numbers: what the program's functions and the reference's compute. -/
import Derived.Test.YtcomlipkmcphfaaP0
import Derived.Test.YtcomlipkmcphfaaPFChainsOfHand
import Derived.Test.YtcomlipkmcphfaaPFFirstWhole
import Derived.Test.YtcomlipkmcphfaaPIf
import Derived.Test.YtcomlipkmcphfaaPSl
import Derived.Test.YtcomlipkmcphfaaPimplPartsOfHand
import Derived.Test.YtcomlipkmcphfaaQBaseF
import Derived.Test.YtcomlipkmcphfaaQBaseG
import Derived.Test.YtcomlipkmcphfaaQFirst3
import Derived.Test.YtcomlipkmcphfaaQParts
namespace Go.Proofs.Ytcomlipkmcphfaa.Q
open Go.RowKit Go.Proofs.Ytcomlipkmcphfaa.P Go.Proofs.YtcomlipkmcphfaaW.PrintWords Go.Proofs.YtcomlipkmcphfaaW.PrintLast Go.Proofs.YtcomlipkmcphfaaW.PrintMore
set_option linter.unusedVariables false
set_option linter.unusedSimpArgs false

theorem chains_loop (ps : List (List S41)) (hp : ∀ p ∈ ps, handB p = true) (hl : ps.length ≤ 1000) : ∀ (d i : Nat) (acc : List (List Int)), i + d = ps.length → acc.length ≤ i → (∀ g ∈ acc, g.length ≤ 1000) → ∃ r : List (List Int) × Bool, Ev (fun k => spec_ChainsOfHand.l0 k acc ps (ps.length : Int) (i : Int)) r ∧ Ev (fun k => impl_ChainsOfHand.l0 k acc ps (ps.length : Int) (i : Int)) r ∧ r.1.length ≤ 1000 ∧ ∀ g ∈ r.1, g.length ≤ 1000 := by
  intro d
  induction d with
  | zero =>
    intro i acc hi ha hg
    refine ⟨(acc, true), ?_, ?_, by show acc.length ≤ _; omega, hg⟩
    · refine Ev.step (f := fun _ => some (acc, true)) (fun k => ?_) (Ev.now _)
      simp only [spec_ChainsOfHand.l0]
      rw [if_neg (by omega)]
    · refine Ev.step (f := fun _ => some (acc, true)) (fun k => ?_) (Ev.now _)
      simp only [impl_ChainsOfHand.l0]
      rw [if_neg (by omega)]
  | succ d ih =>
    intro i acc hi ha hg
    obtain ⟨p, hpi⟩ : ∃ p, ps[i]? = some p := ⟨_, List.getElem?_eq_getElem (by omega)⟩
    have hhp := hp p (List.mem_of_getElem? hpi)
    have hrd : rd_L3 ps (i : Int) = p := by
      show ps.getD (i : Int).toNat _ = p
      rw [Int.toNat_natCast, List.getD_eq_getElem?_getD, hpi]; rfl
    obtain ⟨b, hb, eb, r, hr, e1, e2, e3⟩ := first_both (handB_good hhp) (handB_nodup hhp) (handB_len hhp)
    have h2 := IsHand_ev p
    rw [hhp] at h2
    have ei : Ev (fun k => impl_FirstWhole.f k p) (r, b) := by
      refine bind_true h2 ?_
      cases hcb : b with
      | true => rw [hcb] at eb; exact bind_true eb (Ev.bind (e2 hcb) (Ev.now _))
      | false => rw [hcb] at eb; rw [e3 hcb]; exact bind_false eb (Ev.now _)
    cases hcb : b with
    | false =>
      rw [hcb] at e1 ei
      refine ⟨([], false), ?_, ?_, by simp, by simp⟩
      · refine Ev.step (f := fun k => (spec_whFirst.f k p).bind fun t => if t.2 = true then (if acc.length < 5864062014805 then spec_ChainsOfHand.l0 k (acc ++ [t.1]) ps (ps.length : Int) ((i + 1 : Nat) : Int) else none) else some ([], false)) (fun k => ?_) (Ev.bind e1 (Ev.now _))
        simp only [spec_ChainsOfHand.l0]
        rw [if_pos (by omega), if_pos (by omega), if_pos (by omega), hrd, wrap_succ (by omega)]
      · refine Ev.step (f := fun k => (impl_FirstWhole.f k p).bind fun t => if t.2 = true then (if acc.length < 5864062014805 then impl_ChainsOfHand.l0 k (acc ++ [t.1]) ps (ps.length : Int) ((i + 1 : Nat) : Int) else none) else some ([], false)) (fun k => ?_) (Ev.bind ei (Ev.now _))
        simp only [impl_ChainsOfHand.l0]
        rw [if_pos (by omega), if_pos (by omega), if_pos (by omega), hrd, wrap_succ (by omega)]
    | true =>
      rw [hcb] at e1 ei
      obtain ⟨q, q1, q2, q3, q4⟩ := ih (i + 1) (acc ++ [r]) (by omega) (by simp; omega) (fun g hg' => by
        rcases List.mem_append.1 hg' with c | c
        · exact hg g c
        · rw [List.mem_singleton.1 c]; omega)
      refine ⟨q, ?_, ?_, q3, q4⟩
      · refine Ev.step (f := fun k => (spec_whFirst.f k p).bind fun t => if t.2 = true then (if acc.length < 5864062014805 then spec_ChainsOfHand.l0 k (acc ++ [t.1]) ps (ps.length : Int) ((i + 1 : Nat) : Int) else none) else some ([], false)) (fun k => ?_) (Ev.bind e1 (Ev.congr (fun k => ?_) q1))
        · simp only [spec_ChainsOfHand.l0]
          rw [if_pos (by omega), if_pos (by omega), if_pos (by omega), hrd, wrap_succ (by omega)]
        · simp only [if_true]
          rw [if_pos (by omega)]
      · refine Ev.step (f := fun k => (impl_FirstWhole.f k p).bind fun t => if t.2 = true then (if acc.length < 5864062014805 then impl_ChainsOfHand.l0 k (acc ++ [t.1]) ps (ps.length : Int) ((i + 1 : Nat) : Int) else none) else some ([], false)) (fun k => ?_) (Ev.bind ei (Ev.congr (fun k => ?_) q2))
        · simp only [impl_ChainsOfHand.l0]
          rw [if_pos (by omega), if_pos (by omega), if_pos (by omega), hrd, wrap_succ (by omega)]
        · simp only [if_true]
          rw [if_pos (by omega)]
theorem ChainsOfHand_same (l : List S41) : ∃ r, Ev (fun k => spec_ChainsOfHand.f k l) r ∧ Ev (fun k => impl_ChainsOfHand.f k l) r ∧ r.1.length ≤ 1000 ∧ (∀ g ∈ r.1, g.length ≤ 1000) := by
  have h1 := tiHand_ev l
  have h2 := IsHand_ev l
  cases hc : handB l with
  | false =>
    rw [hc] at h1 h2
    have hp : Ev (fun k => impl_PartsOfHand.f k l) ([], false) := bind_false h2 (Ev.now _)
    exact ⟨([], false), bind_false h1 (Ev.now _), Ev.bind hp (Ev.now _), by simp, by simp⟩
  | true =>
    rw [hc] at h1 h2
    have hl := handB_len hc
    have hg := handB_good hc
    have hn := handB_nodup hc
    have hup : upI 0 10 = [0, 1, 2, 3, 4, 5, 6, 7, 8, 9] := rfl
    have hlab : ∀ v, 0 ≤ v → v ≤ 9 → IsLeast l v (rd (roundsN l l.length (upI 0 10)) v) := by
      intro v h0 h9
      rw [roundsN_L, hup]
      exact groups_least hg v h0 h9
    have es := whParts_is hg (by omega) hlab
    have hp : Ev (fun k => impl_PartsOfHand.f k l) (partsL l (rd (roundsN l l.length (upI 0 10))) (upFrom 0 10), true) := bind_true h2 (Ev.bind (parts_ev hg hn hl) (Ev.now _))
    have hlen : (partsL l (rd (roundsN l l.length (upI 0 10))) (upFrom 0 10)).length ≤ 1000 := by
      unfold partsL
      rw [List.length_map]
      exact Nat.le_trans (List.length_filter_le _ _) (by rw [upFrom_length]; omega)
    have hhand : ∀ p ∈ partsL l (rd (roundsN l l.length (upI 0 10))) (upFrom 0 10), handB p = true := by
      intro g hgm
      obtain ⟨c, _, rfl⟩ := List.mem_map.1 hgm
      unfold handB partBy
      rw [Bool.and_eq_true, Bool.and_eq_true, decide_eq_true_eq, decide_eq_true_eq, List.all_eq_true]
      exact ⟨Nat.le_trans (List.length_filter_le _ _) (sortN_length l), fun x hx => sortN_good l x (List.mem_filter.1 hx).1, (sortN_nodup l).filter _⟩
    generalize partsL l (rd (roundsN l l.length (upI 0 10))) (upFrom 0 10) = ps at es hp hlen hhand
    obtain ⟨r, r1, r2, r3, r4⟩ := chains_loop ps hhand hlen ps.length 0 [] (by omega) (by simp) (by simp)
    refine ⟨r, bind_true h1 (Ev.bind es r1), Ev.bind hp ?_, r3, r4⟩
    exact r2

end Go.Proofs.Ytcomlipkmcphfaa.Q
