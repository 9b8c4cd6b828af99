/- Plain lists and numbers: what the program's functions and the reference's compute. -/
import Derived.Test.YtepccigcdbimaaaP0
import Derived.Test.YtepccigcdbimaaaPFLaidTiles
import Derived.Test.YtepccigcdbimaaaQEv40
import Derived.Test.YtepccigcdbimaaaQSpread
namespace Go.Proofs.Ytepccigcdbimaaa.Q
open Go.RowKit Go.Proofs.Ytepccigcdbimaaa.P Go.Proofs.YtepccigcdbimaaaW.PrintWords Go.Proofs.YtepccigcdbimaaaW.PrintLast Go.Proofs.YtepccigcdbimaaaW.PrintMore
set_option linter.unusedVariables false
set_option linter.unusedSimpArgs false

theorem LaidTiles_same (l : List S61) : ∃ r, Ev (fun k => spec_LaidTiles.f k l) r ∧ Ev (fun k => impl_LaidTiles.f k l) r ∧ r.1.length ≤ 1048576 := by
  refine ⟨_, ev40 _, ?_⟩
  unfold impl_LaidTiles.f
  rcases spread_both l with ⟨h1, h2⟩ | ⟨s, u, h1, h2, h3, h4⟩
  · rw [h1, h2]; exact ⟨ev40 _, by simp⟩
  · rw [h1, h2]
    simp only [Option.getD_some, Option.isSome_some]
    rw [h3.tiles]
    exact ⟨ev40 _, by have := h3.ln; omega⟩

end Go.Proofs.Ytepccigcdbimaaa.Q
