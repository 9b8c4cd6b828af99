/- Plain lists and numbers: what the program's functions and the reference's compute. -/
import Derived.Test.YtepccigcdbimaaaP0
import Derived.Test.YtepccigcdbimaaaPFSpinnerOf
import Derived.Test.YtepccigcdbimaaaQEv40
import Derived.Test.YtepccigcdbimaaaQSpread
namespace Go.Proofs.Ytepccigcdbimaaa.Q
open Go.RowKit Go.Proofs.Ytepccigcdbimaaa.P Go.Proofs.YtepccigcdbimaaaW.PrintWords Go.Proofs.YtepccigcdbimaaaW.PrintLast Go.Proofs.YtepccigcdbimaaaW.PrintMore
set_option linter.unusedVariables false
set_option linter.unusedSimpArgs false

theorem SpinnerOf_same (l : List S61) : ∃ r, Ev (fun k => spec_SpinnerOf.f k l) r ∧ Ev (fun k => impl_SpinnerOf.f k l) r := by
  refine ⟨_, ev40 _, ?_⟩
  unfold impl_SpinnerOf.f
  rcases spread_both l with ⟨h1, h2⟩ | ⟨s, u, h1, h2, h3, h4⟩
  · rw [h1, h2]; exact ev40 _
  · rw [h1, h2]
    simp only
    rw [h3.sp]
    exact ev40 _

end Go.Proofs.Ytepccigcdbimaaa.Q
