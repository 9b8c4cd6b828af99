/- Plain lists and numbers: what the program's functions and the reference's compute. -/
import Derived.Test.YtnooegfhffhfpaaP0
import Derived.Test.YtnooegfhffhfpaaPFCountWithoutDoubles
import Derived.Test.YtnooegfhffhfpaaPIx
import Derived.Test.YtnooegfhffhfpaaPSm
import Derived.Test.YtnooegfhffhfpaaQBaseF
import Derived.Test.YtnooegfhffhfpaaQBaseG
import Derived.Test.YtnooegfhffhfpaaQBaseH
import Derived.Test.YtnooegfhffhfpaaQCountE
import Derived.Test.YtnooegfhffhfpaaQCountI
import Derived.Test.YtnooegfhffhfpaaQCountS
import Derived.Test.YtnooegfhffhfpaaQCountWh
import Derived.Test.YtnooegfhffhfpaaQDblC
import Derived.Test.YtnooegfhffhfpaaQTrails
namespace Go.Proofs.Ytnooegfhffhfpaa.Q
open Go.RowKit Go.Proofs.Ytnooegfhffhfpaa.P Go.Proofs.YtnooegfhffhfpaaW.PrintWords Go.Proofs.YtnooegfhffhfpaaW.PrintLast Go.Proofs.YtnooegfhffhfpaaW.PrintMore
set_option linter.unusedVariables false
set_option linter.unusedSimpArgs false

theorem dbl_plain (l : List S39) : dblT (plnT (sortN l)) = [] := by
  unfold dblT plnT
  rw [List.filter_filter, List.filter_eq_nil_iff.2 ?_]; rfl
  intro t _
  simp
  omega
theorem pln_sort (l : List S39) : sortN (plnT (sortN l)) = plnT (sortN l) :=
  sortN_self (pln_good l) ((sortN_sorted l).sublist List.filter_sublist) (pln_nodup l)
theorem pln_pln (l : List S39) : plnT (plnT (sortN l)) = plnT (sortN l) := by
  unfold plnT
  rw [List.filter_filter]
  exact List.filter_congr fun t _ => by simp
theorem CountWithoutDoubles_same (l : List S39) : ∃ r, Ev (fun k => spec_CountWithoutDoubles.f k l) r ∧ Ev (fun k => impl_CountWithoutDoubles.f k l) r := by
  have h1 := tiHand_ev l
  have h2 := counted_ev l
  cases hc : handB l with
  | false =>
    rw [hc] at h1 h2
    refine ⟨(0, false), bind_false h1 ?_, bind_false h2 (Ev.now _)⟩
    exact Ev.step (f := fun _ => some (0, false)) (fun k => by simp only [spec_CountWithoutDoubles.j0]; rw [if_pos trivial]) (Ev.now _)
  | true =>
    rw [hc] at h1 h2
    by_cases h12 : l.length ≤ 12
    case neg =>
      rw [decide_eq_false h12] at h2
      refine ⟨(0, false), bind_true h1 ?_, bind_false h2 (Ev.now _)⟩
      exact Ev.step (f := fun _ => some (0, false)) (fun k => by simp only [spec_CountWithoutDoubles.j0]; rw [if_pos (by simp; omega)]) (Ev.now _)
    case pos =>
      rw [decide_eq_true h12] at h2
      have hg := handB_good hc
      have hn := handB_nodup hc
      have ew := whPlain_ev l (by omega)
      have ea := whAll_ev (pln_good l) (pln_nodup l) (pln_len l) [] (by simp)
      have ec := countWhole_ev (pln_good l) (pln_nodup l) (pln_len l)
      have hT : totalN (dblT (sortN (plnT (sortN l)))) (plnT (sortN (plnT (sortN l)))) = sumF (fun n => cntT (plnT (sortN l)).length n (plnT (sortN l))) (upFrom 0 10) := by
        rw [pln_sort, dbl_plain, pln_pln]
        unfold totalN
        exact sumF_congr _ fun n _ => by rw [prodI, Int.one_mul]
      rw [hT] at ec
      have hp := plain_some hg hn (by omega)
      refine ⟨(wrap64 (sumF (fun n => cntT (plnT (sortN l)).length n (plnT (sortN l))) (upFrom 0 10)), true), bind_true h1 ?_, bind_true h2 ?_⟩
      · refine Ev.step (f := fun k => (spec_whPlain.f k l).bind fun t306 => ((spec_whAll.f k t306 ([] : List Int)).bind fun bt309 => (some (bt309.1, true)))) (fun k => ?_) (Ev.bind ew (Ev.bind ea (Ev.now _)))
        simp only [spec_CountWithoutDoubles.j0]
        rw [if_neg (by simp; omega)]
      · refine Ev.congr (f := fun k => (impl_countWhole.f k (plnT (sortN l))).bind fun t => some (t, true)) (fun k => ?_) (Ev.bind ec (Ev.now _))
        rw [hp, Option.bind_some]

end Go.Proofs.Ytnooegfhffhfpaa.Q
