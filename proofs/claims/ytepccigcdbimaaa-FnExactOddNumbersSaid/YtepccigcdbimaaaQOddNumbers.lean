/- Plain lists and numbers: what the program's functions and the reference's compute. -/
import Derived.Test.YtepccigcdbimaaaP0
import Derived.Test.YtepccigcdbimaaaPFOddNumbers
import Derived.Test.YtepccigcdbimaaaQHand
import Derived.Test.YtepccigcdbimaaaQOdd
import Derived.Test.YtepccigcdbimaaaQScaf2
namespace Go.Proofs.Ytepccigcdbimaaa.Q
open Go.RowKit Go.Proofs.Ytepccigcdbimaaa.P Go.Proofs.YtepccigcdbimaaaW.PrintWords Go.Proofs.YtepccigcdbimaaaW.PrintLast Go.Proofs.YtepccigcdbimaaaW.PrintMore
set_option linter.unusedVariables false
set_option linter.unusedSimpArgs false

theorem OddNumbers_same (l : List S59) : ∃ r, Ev (fun k => spec_OddNumbers.f k l) r ∧ Ev (fun k => impl_OddNumbers.f k l) r ∧ r.1.length ≤ 1048576 := by
  have h1 := tiHand_ev l
  have h2 := IsHand_ev l
  cases h : handB l with
  | true =>
    have hl := handB_len h
    rw [h] at h1 h2
    exact ⟨(oddT l, true), bind_true h1 (Ev.bind (whOdd_ev l (by omega)) (Ev.now _)), bind_true h2 (Ev.bind (odd_ev l (by omega)) (Ev.now _)), by have := oddT_len l; simp only; omega⟩
  | false =>
    rw [h] at h1 h2
    exact ⟨([], false), bind_false h1 (Ev.now _), bind_false h2 (Ev.now _), by simp⟩

end Go.Proofs.Ytepccigcdbimaaa.Q
