/- Plain lists and numbers: what the program's functions and the reference's compute. -/
import Derived.Test.YtcomlipkmcphfaaP0
import Derived.Test.YtcomlipkmcphfaaPFFirstWhole
import Derived.Test.YtcomlipkmcphfaaPSv
import Derived.Test.YtcomlipkmcphfaaQBaseF
import Derived.Test.YtcomlipkmcphfaaQFirst3
namespace Go.Proofs.Ytcomlipkmcphfaa.Q
open Go.RowKit Go.Proofs.Ytcomlipkmcphfaa.P Go.Proofs.YtcomlipkmcphfaaW.PrintWords Go.Proofs.YtcomlipkmcphfaaW.PrintLast Go.Proofs.YtcomlipkmcphfaaW.PrintMore
set_option linter.unusedVariables false
set_option linter.unusedSimpArgs false

theorem FirstWhole_same (l : List S41) : ∃ r, Ev (fun k => spec_FirstWhole.f k l) r ∧ Ev (fun k => impl_FirstWhole.f k l) r ∧ r.1.length ≤ 1048576 := by
  have h1 := tiHand_ev l
  have h2 := IsHand_ev l
  cases hc : handB l with
  | false =>
    rw [hc] at h1 h2
    exact ⟨([], false), bind_false h1 (Ev.now _), bind_false h2 (Ev.now _), by simp⟩
  | true =>
    rw [hc] at h1 h2
    obtain ⟨b, hb, eb, r, hr, e1, e2, e3⟩ := first_both (handB_good hc) (handB_nodup hc) (handB_len hc)
    refine ⟨(r, b), bind_true h1 (Ev.bind e1 (Ev.now _)), bind_true h2 ?_, by show r.length ≤ _; omega⟩
    cases hcb : b with
    | true => rw [hcb] at eb; exact bind_true eb (Ev.bind (e2 hcb) (Ev.now _))
    | false => rw [hcb] at eb; rw [e3 hcb]; exact bind_false eb (Ev.now _)

end Go.Proofs.Ytcomlipkmcphfaa.Q
