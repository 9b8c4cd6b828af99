/- Plain lists and numbers: what the program's functions and the reference's compute. -/
import Derived.Test.YtdpimdaofikmjaaP0
import Derived.Test.YtdpimdaofikmjaaPFJoinHands
import Derived.Test.YtdpimdaofikmjaaPIb
import Derived.Test.YtdpimdaofikmjaaPIg
import Derived.Test.YtdpimdaofikmjaaQConcatT
import Derived.Test.YtdpimdaofikmjaaQHand
import Derived.Test.YtdpimdaofikmjaaQPick
import Derived.Test.YtdpimdaofikmjaaQScaf
import Derived.Test.YtdpimdaofikmjaaQScaf2
import Derived.Test.YtdpimdaofikmjaaQSorted
namespace Go.Proofs.Ytdpimdaofikmjaa.Q
open Go.RowKit Go.Proofs.Ytdpimdaofikmjaa.P Go.Proofs.YtdpimdaofikmjaaW.PrintWords Go.Proofs.YtdpimdaofikmjaaW.PrintLast Go.Proofs.YtdpimdaofikmjaaW.PrintMore
set_option linter.unusedVariables false
set_option linter.unusedSimpArgs false

theorem leT_antiP (a b : S67) (h : leT a b = true) (g : leT b a = true) : a = b := leT_anti a b h g
/-- Sorted, of equal neighbours the first one: the tiles, each once, sorted. -/
theorem compact_sorted {l : List S67} (h : ∀ x ∈ l, goodT x = true) : compL (l.mergeSort leT) = sortN l := by
  have hp : (l.mergeSort leT).Pairwise fun a b => leT a b = true := List.pairwise_mergeSort leT_trans leT_total l
  have hc := compL_sorted (fun a b => leT a b = true) (fun a b => leT_antiP a b) _ hp
  refine List.Perm.eq_of_pairwise (le := fun a b => leT a b = true) (fun a b _ _ => leT_anti a b) (hc.imp fun h => h.1) (sortN_sorted l) ?_
  rw [List.perm_ext_iff_of_nodup (hc.imp fun h => h.2) (sortN_nodup l)]
  intro t
  rw [compL_mem, List.mem_mergeSort, mem_sortN h]
theorem JoinHands_same (a b : List S67) : ∃ r, Ev (fun k => spec_JoinHands.f k a b) r ∧ Ev (fun k => impl_JoinHands.f k a b) r ∧ r.1.length ≤ 1048576 := by
  have h1 := tiHand_ev a
  have h2 := IsHand_ev a
  have h3 := tiHand_ev b
  have h4 := IsHand_ev b
  cases hc : handB a with
  | false =>
    rw [hc] at h1 h2
    exact ⟨([], false), bind_false h1 (Ev.now _), bind_false h2 (Ev.now _), by simp⟩
  | true =>
    rw [hc] at h1 h2
    cases hd : handB b with
    | false =>
      rw [hd] at h3 h4
      exact ⟨([], false), bind_true h1 (bind_false h3 (Ev.now _)), bind_true h2 (bind_false h4 (Ev.now _)), by simp⟩
    | true =>
      rw [hd] at h3 h4
      have na := handB_len hc
      have nb := handB_len hd
      have hs := sortN_length (a ++ b)
      have hg : ∀ x ∈ a ++ b, goodT x = true := by
        intro x hx
        rcases List.mem_append.1 hx with hx | hx
        · exact handB_good hc x hx
        · exact handB_good hd x hx
      have hso : impl_sorted.f (a ++ b) = some ((a ++ b).mergeSort leT) := by
        unfold impl_sorted.f
        rw [if_pos ⟨by simp; omega, fun x hx => good_in (hg x hx)⟩]
      refine ⟨(sortN (a ++ b), true), bind_true h1 (bind_true h3 ?_), bind_true h2 (bind_true h4 (Ev.bind (concat2_evT a b (by omega)) (ev_const fun k => by rw [hso, Option.bind_some, compact_sorted hg]))), by simp only; omega⟩
      refine Ev.congr (fun k => ?_) (Ev.bind (f := fun _ t => some (t, true)) (tiSort_ev (a ++ b) (by simp; omega)) (Ev.now _))
      simp only [Option.bind_some, List.nil_append, List.length_nil, Nat.zero_add]
      rw [if_pos (by omega), if_pos (by omega)]

end Go.Proofs.Ytdpimdaofikmjaa.Q
