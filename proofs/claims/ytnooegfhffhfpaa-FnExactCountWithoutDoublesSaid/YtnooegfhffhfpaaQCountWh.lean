/- Plain lists and numbers: what the program's functions and the reference's compute. -/
import Derived.Test.YtnooegfhffhfpaaP0
import Derived.Test.YtnooegfhffhfpaaPFCountWhole
import Derived.Test.YtnooegfhffhfpaaPIb
import Derived.Test.YtnooegfhffhfpaaPSm
import Derived.Test.YtnooegfhffhfpaaQBaseF
import Derived.Test.YtnooegfhffhfpaaQBaseG
import Derived.Test.YtnooegfhffhfpaaQBaseH
import Derived.Test.YtnooegfhffhfpaaQCountE
import Derived.Test.YtnooegfhffhfpaaQCountI
import Derived.Test.YtnooegfhffhfpaaQCountS
import Derived.Test.YtnooegfhffhfpaaQDblC
import Derived.Test.YtnooegfhffhfpaaQTrails
namespace Go.Proofs.Ytnooegfhffhfpaa.Q
open Go.RowKit Go.Proofs.Ytnooegfhffhfpaa.P Go.Proofs.YtnooegfhffhfpaaW.PrintWords Go.Proofs.YtnooegfhffhfpaaW.PrintLast Go.Proofs.YtnooegfhffhfpaaW.PrintMore
set_option linter.unusedVariables false
set_option linter.unusedSimpArgs false

theorem counted_ev (l : List S39) : Ev (fun k => impl_isCounted.f k l) (handB l && decide (l.length ≤ 12)) := by
  have h2 := IsHand_ev l
  cases hc : handB l with
  | false =>
    rw [hc] at h2
    exact bind_false h2 (Ev.now _)
  | true =>
    rw [hc] at h2
    refine bind_true (A := fun _ => some (decide ((l.length : Int) ≤ 12))) (B := fun _ => some false) h2 (ev_const fun k => ?_)
    rw [Bool.true_and]
    congr 1
    exact decide_eq_decide.2 (by omega)
theorem own_perm {l : List S39} (hg : ∀ t ∈ l, goodT t = true) (hn : l.Nodup) : (dblT (sortN l)).Perm (dblT l) := by
  unfold dblT
  exact (((same_sort hg hn).perm.symm).filter _).map _
theorem CountWhole_same (l : List S39) : ∃ r, Ev (fun k => spec_CountWhole.f k l) r ∧ Ev (fun k => impl_CountWhole.f k l) r := by
  have h1 := tiHand_ev l
  have h2 := counted_ev l
  cases hc : handB l with
  | false =>
    rw [hc] at h1 h2
    refine ⟨(0, false), bind_false h1 ?_, bind_false h2 (Ev.now _)⟩
    exact Ev.step (f := fun _ => some (0, false)) (fun k => by simp only [spec_CountWhole.j0]; rw [if_pos trivial]) (Ev.now _)
  | true =>
    rw [hc] at h1 h2
    by_cases h12 : l.length ≤ 12
    case neg =>
      rw [decide_eq_false h12] at h2
      refine ⟨(0, false), bind_true h1 ?_, bind_false h2 (Ev.now _)⟩
      exact Ev.step (f := fun _ => some (0, false)) (fun k => by simp only [spec_CountWhole.j0]; rw [if_pos (by simp; omega)]) (Ev.now _)
    case pos =>
      rw [decide_eq_true h12] at h2
      have hg := handB_good hc
      have hn := handB_nodup hc
      have ew := whPlain_ev l (by omega)
      have ed := whDoubles_ev l (by omega)
      have ho : (dblT l).length ≤ 1000 := Nat.le_trans (dblT_length l) (by omega)
      have ea := whAll_ev (pln_good l) (pln_nodup l) (pln_len l) (dblT l) ho
      have ec := countWhole_ev hg hn (by omega)
      have hT : totalN (dblT (sortN l)) (plnT (sortN l)) = sumF (fun n => prodI (facT (plnT (sortN l)) n) (dblT l) * cntT (plnT (sortN l)).length n (plnT (sortN l))) (upFrom 0 10) := by
        unfold totalN
        exact sumF_congr _ fun n _ => by rw [prodI_perm (own_perm hg hn)]
      rw [hT] at ec
      refine ⟨(wrap64 (sumF (fun n => prodI (facT (plnT (sortN l)) n) (dblT l) * cntT (plnT (sortN l)).length n (plnT (sortN l))) (upFrom 0 10)), true), bind_true h1 ?_, bind_true h2 (Ev.bind ec (Ev.now _))⟩
      refine Ev.step (f := fun k => (spec_whPlain.f k l).bind fun t215 => ((spec_whDoubles.f k l).bind fun t218 => ((spec_whAll.f k t215 t218).bind fun bt221 => (some (bt221.2, true))))) (fun k => ?_) (Ev.bind ew (Ev.bind ed (Ev.bind ea (Ev.now _))))
      simp only [spec_CountWhole.j0]
      rw [if_neg (by simp; omega)]

end Go.Proofs.Ytnooegfhffhfpaa.Q
