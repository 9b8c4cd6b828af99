/- Plain lists and numbers: what the program's functions and the reference's compute. -/
import Derived.Test.YtdpimdaofikmjaaP0
import Derived.Test.YtdpimdaofikmjaaPFSortHand
import Derived.Test.YtdpimdaofikmjaaQHand
import Derived.Test.YtdpimdaofikmjaaQPick
import Derived.Test.YtdpimdaofikmjaaQScaf
import Derived.Test.YtdpimdaofikmjaaQScaf2
import Derived.Test.YtdpimdaofikmjaaQSorted
namespace Go.Proofs.Ytdpimdaofikmjaa.Q
open Go.RowKit Go.Proofs.Ytdpimdaofikmjaa.P Go.Proofs.YtdpimdaofikmjaaW.PrintWords Go.Proofs.YtdpimdaofikmjaaW.PrintLast Go.Proofs.YtdpimdaofikmjaaW.PrintMore
set_option linter.unusedVariables false
set_option linter.unusedSimpArgs false

theorem SortHand_same (l : List S67) : ∃ r, Ev (fun k => spec_SortHand.f k l) r ∧ Ev (fun k => impl_SortHand.f k l) r ∧ r.1.length ≤ 1048576 := by
  have h1 := tiHand_ev l
  have h2 := IsHand_ev l
  cases hc : handB l with
  | false =>
    rw [hc] at h1 h2
    exact ⟨([], false), bind_false h1 (Ev.now _), bind_false h2 (Ev.now _), by simp⟩
  | true =>
    rw [hc] at h1 h2
    have hn := handB_len hc
    refine ⟨(sortN l, true), bind_true h1 (Ev.bind (tiSort_ev l (by omega)) (Ev.now _)), bind_true h2 (ev_const fun k => ?_), by have := sortN_length l; simp only; omega⟩
    rw [sorted_some (handB_good hc) (handB_nodup hc) (by omega)]; rfl

end Go.Proofs.Ytdpimdaofikmjaa.Q
