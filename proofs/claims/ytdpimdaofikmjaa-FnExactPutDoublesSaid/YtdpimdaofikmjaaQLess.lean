/- Plain lists and numbers: what the program's functions and the reference's compute. -/
import Derived.Test.YtdpimdaofikmjaaP0
import Derived.Test.YtdpimdaofikmjaaPIb
import Derived.Test.YtdpimdaofikmjaaPIg
import Derived.Test.YtdpimdaofikmjaaQHand
import Derived.Test.YtdpimdaofikmjaaQPick
import Derived.Test.YtdpimdaofikmjaaQSorted
namespace Go.Proofs.Ytdpimdaofikmjaa.Q
open Go.RowKit Go.Proofs.Ytdpimdaofikmjaa.P Go.Proofs.YtdpimdaofikmjaaW.PrintWords Go.Proofs.YtdpimdaofikmjaaW.PrintLast Go.Proofs.YtdpimdaofikmjaaW.PrintMore
set_option linter.unusedVariables false
set_option linter.unusedSimpArgs false

theorem ev_all {α β : Type} {f : α → Nat → Option β} {r : α → β} : ∀ l : List α, (∀ x ∈ l, Ev (f x) (r x)) → ∃ K, ∀ k, K ≤ k → ∀ x ∈ l, f x k = some (r x)
  | [], _ => ⟨0, fun _ _ x hx => by cases hx⟩
  | y :: l, h => by
    obtain ⟨K, hK⟩ := ev_all l fun x hx => h x (List.mem_cons_of_mem _ hx)
    obtain ⟨K1, hK1⟩ := h y List.mem_cons_self
    refine ⟨K + K1, fun k hk x hx => ?_⟩
    rcases List.mem_cons.1 hx with rfl | hx
    · exact hK1 k (by omega)
    · exact hK k (by omega) x hx
theorem less_ev {a : List S67} (h : ∀ x ∈ a, goodT x = true) (hn : a.Nodup) (ha : a.length ≤ 1000000000) (b : List S67) (hb : b.length ≤ 1000000000) : Ev (fun k => impl_less.f k a b) ((sortN a).filter fun t => decide (t ∈ b) == false) := by
  obtain ⟨K, hK⟩ := ev_all (f := fun (x : S67) k => slices_Contains_Tile.f k b x.f0 x.f1) (r := fun x => decide (x ∈ b)) a (fun x _ => contains_ev b x (by omega))
  refine ⟨K, fun k hk => ?_⟩
  unfold impl_less.f
  dsimp only
  rw [if_pos ⟨by omega, fun x hx => good_in (h x hx), hK k hk⟩, mergeSort_eq h hn]
  congr 1
  apply List.filter_congr
  intro x _
  cases decide (x ∈ b) <;> rfl

end Go.Proofs.Ytdpimdaofikmjaa.Q
