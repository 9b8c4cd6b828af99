/- Plain lists and numbers: what the program's functions and the reference's compute. -/
import Derived.Test.YtcomlipkmcphfaaP0
import Derived.Test.YtcomlipkmcphfaaPIb
import Derived.Test.YtcomlipkmcphfaaPSc
import Derived.Test.YtcomlipkmcphfaaPSk2
import Derived.Test.YtcomlipkmcphfaaPSk3
import Derived.Test.YtcomlipkmcphfaaQBaseF
import Derived.Test.YtcomlipkmcphfaaQBaseG
import Derived.Test.YtcomlipkmcphfaaQBaseH
import Derived.Test.YtcomlipkmcphfaaQBaseK
namespace Go.Proofs.Ytcomlipkmcphfaa.Q
open Go.RowKit Go.Proofs.Ytcomlipkmcphfaa.P Go.Proofs.YtcomlipkmcphfaaW.PrintWords Go.Proofs.YtcomlipkmcphfaaW.PrintLast Go.Proofs.YtcomlipkmcphfaaW.PrintMore
set_option linter.unusedVariables false
set_option linter.unusedSimpArgs false

theorem whCan_ev {h : List S41} (hg : ∀ t ∈ h, goodT t = true) (hl : h.length ≤ 55) (ring : Bool) : ∃ b : Bool, (b = true ↔ OneC h ∧ ((oddT h).length = 0 ∨ ((oddT h).length = 2 ∧ ring = false))) ∧ Ev (fun k => spec_whCan.f k h ring) b := by
  obtain ⟨ps, e1, e2⟩ := whParts_ev hg (by omega)
  have ho := whOdd_ev h (by omega)
  refine ⟨decide (ps.length ≤ 1) && (decide ((oddT h).length = 0) || (decide ((oddT h).length = 2) && !ring)), ?_, Ev.bind (g := fun k => spec_whOdd.f k h) ho (Ev.bind (g := fun k => spec_whParts.f k h) e1 (ev_const fun k => ?_))⟩
  · rw [Bool.and_eq_true, decide_eq_true_eq, Bool.or_eq_true, decide_eq_true_eq, Bool.and_eq_true, decide_eq_true_eq, e2]
    cases ring <;> simp
  · by_cases c : ps.length ≤ 1
    · rw [if_pos (by omega), decide_eq_true c, Bool.true_and]
      by_cases c0 : (oddT h).length = 0
      · rw [if_pos (by omega), decide_eq_true c0]; rfl
      · rw [if_neg (by omega), decide_eq_false c0, Bool.false_or]
        by_cases c2 : (oddT h).length = 2
        · rw [if_pos (by omega), decide_eq_true c2]; rfl
        · rw [if_neg (by omega), decide_eq_false c2]; rfl
    · rw [if_neg (by omega), decide_eq_false c]; rfl

end Go.Proofs.Ytcomlipkmcphfaa.Q
