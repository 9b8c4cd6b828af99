/- Plain lists and numbers: what the program's functions and the reference's compute. -/
import Derived.Test.YtdpimdaofikmjaaP0
import Derived.Test.YtdpimdaofikmjaaPFBothHands
import Derived.Test.YtdpimdaofikmjaaPIb
import Derived.Test.YtdpimdaofikmjaaQHand
import Derived.Test.YtdpimdaofikmjaaQLess
import Derived.Test.YtdpimdaofikmjaaQPick
import Derived.Test.YtdpimdaofikmjaaQScaf2
import Derived.Test.YtdpimdaofikmjaaQSorted
import Derived.Test.YtdpimdaofikmjaaQThose
namespace Go.Proofs.Ytdpimdaofikmjaa.Q
open Go.RowKit Go.Proofs.Ytdpimdaofikmjaa.P Go.Proofs.YtdpimdaofikmjaaW.PrintWords Go.Proofs.YtdpimdaofikmjaaW.PrintLast Go.Proofs.YtdpimdaofikmjaaW.PrintMore
set_option linter.unusedVariables false
set_option linter.unusedSimpArgs false

theorem both_ev {a : List S67} (h : ∀ x ∈ a, goodT x = true) (hn : a.Nodup) (ha : a.length ≤ 1000000000) (b : List S67) (hb : b.length ≤ 1000000000) : Ev (fun k => impl_BothHands.g k a b) ((sortN a).filter (fun t => decide (t ∈ b) == true), true) := by
  obtain ⟨K, hK⟩ := ev_all (f := fun (x : S67) k => slices_Contains_Tile.f k b x.f0 x.f1) (r := fun x => decide (x ∈ b)) a (fun x _ => contains_ev b x (by omega))
  refine ⟨K, fun k hk => ?_⟩
  unfold impl_BothHands.g
  dsimp only
  rw [if_pos ⟨by omega, fun x hx => good_in (h x hx), hK k hk⟩, mergeSort_eq h hn]
  congr 2
  apply List.filter_congr
  intro x _
  cases decide (x ∈ b) <;> rfl
theorem BothHands_same (a b : List S67) : ∃ r, Ev (fun k => spec_BothHands.f k a b) r ∧ Ev (fun k => impl_BothHands.f k a b) r ∧ r.1.length ≤ 1048576 := by
  have h1 := tiHand_ev a
  have h2 := IsHand_ev a
  have h3 := tiHand_ev b
  have h4 := IsHand_ev b
  cases hc : handB a with
  | false =>
    rw [hc] at h1 h2
    exact ⟨([], false), bind_false h1 (Ev.now _), bind_false h2 (Ev.now _), by simp⟩
  | true =>
    rw [hc] at h1 h2
    cases hd : handB b with
    | false =>
      rw [hd] at h3 h4
      exact ⟨([], false), bind_true h1 (bind_false h3 (Ev.now _)), bind_true h2 (bind_false h4 (Ev.now _)), by simp⟩
    | true =>
      rw [hd] at h3 h4
      have na := handB_len hc
      have nb := handB_len hd
      have hl := List.length_filter_le (fun t => decide (t ∈ b) == true) (sortN a)
      have hs := sortN_length a
      exact ⟨((sortN a).filter fun t => decide (t ∈ b) == true, true), bind_true h1 (bind_true h3 (Ev.bind (tiThose_ev a b true (by omega) (by omega)) (Ev.now _))), bind_true h2 (bind_true h4 (both_ev (handB_good hc) (handB_nodup hc) (by omega) b (by omega))), by simp only; omega⟩

end Go.Proofs.Ytdpimdaofikmjaa.Q
