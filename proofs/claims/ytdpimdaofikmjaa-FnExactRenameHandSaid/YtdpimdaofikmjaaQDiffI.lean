/- Plain lists and numbers: what the program's functions and the reference's compute. -/
import Derived.Test.YtdpimdaofikmjaaPimplareDifferentint
import Derived.Test.YtdpimdaofikmjaaPslicesContainsint
import Derived.Test.YtdpimdaofikmjaaQHand
import Derived.Test.YtdpimdaofikmjaaQIntHas
import Derived.Test.YtdpimdaofikmjaaQScaf
namespace Go.Proofs.Ytdpimdaofikmjaa.Q
open Go.RowKit Go.Proofs.Ytdpimdaofikmjaa.P Go.Proofs.YtdpimdaofikmjaaW.PrintWords Go.Proofs.YtdpimdaofikmjaaW.PrintLast Go.Proofs.YtdpimdaofikmjaaW.PrintMore
set_option linter.unusedVariables false
set_option linter.unusedSimpArgs false

theorem differentI_loop (l : List Int) (hl : l.length ≤ 1000000000) : ∀ d i, i + d = l.length → (l.take i).Nodup → Ev (fun k => impl_areDifferent_int.l0 k l l (l.length : Int) (i : Int)) (decide l.Nodup) := by
  intro d
  induction d with
  | zero =>
    intro i h hn
    refine ⟨1, fun k hk => ?_⟩
    obtain ⟨k, rfl⟩ : ∃ m, k = m + 1 := ⟨k - 1, by omega⟩
    rw [List.take_of_length_le (by omega)] at hn
    simp only [impl_areDifferent_int.l0]
    rw [if_neg (by omega), decide_eq_true hn]
  | succ d ih =>
    intro i h hn
    have hi : i < l.length := by omega
    have ex := List.getElem?_eq_getElem hi
    have h1 : (i : Int) < (l.length : Int) := by omega
    have hstep : ∀ k, impl_areDifferent_int.l0 (k + 1) l l (l.length : Int) (i : Int) = (slices_Contains_int.f k (l.take i) l[i]).bind fun t => if t = true then some false else impl_areDifferent_int.l0 k l l (l.length : Int) ((i + 1 : Nat) : Int) := fun k => by
      simp only [impl_areDifferent_int.l0]
      rw [if_pos h1, if_pos (by omega), if_pos h1, if_pos (by omega), rd_nat l i _ ex, Int.toNat_natCast, wrap_succ (by omega)]
    refine Ev.step hstep (Ev.bind (containsI_ev (l.take i) l[i] (by simp; omega)) ?_)
    by_cases hm : l[i] ∈ l.take i
    · rw [decide_eq_false (not_nodup_of l i _ ex hm)]
      exact ev_const (fun k => by rw [if_pos (decide_eq_true hm)])
    · have hsn := take_snoc l i _ ex
      refine Ev.congr (fun k => by rw [if_neg (by simpa using hm)]) (ih (i + 1) (by omega) ?_)
      rw [hsn, nodup_snoc]; exact ⟨hn, hm⟩
theorem differentI_ev (l : List Int) (hl : l.length ≤ 1000000000) : Ev (fun k => impl_areDifferent_int.f k l) (decide l.Nodup) :=
  differentI_loop l hl l.length 0 (by omega) (by simp)

end Go.Proofs.Ytdpimdaofikmjaa.Q
