/- Plain lists and numbers: what the program's functions and the reference's compute. -/
import Derived.Test.YtdpimdaofikmjaaP0
import Derived.Test.YtdpimdaofikmjaaPIa
import Derived.Test.YtdpimdaofikmjaaPIb
import Derived.Test.YtdpimdaofikmjaaPIr
import Derived.Test.YtdpimdaofikmjaaQPick
import Derived.Test.YtdpimdaofikmjaaQScaf
import Derived.Test.YtdpimdaofikmjaaQSorted
namespace Go.Proofs.Ytdpimdaofikmjaa.Q
open Go.RowKit Go.Proofs.Ytdpimdaofikmjaa.P Go.Proofs.YtdpimdaofikmjaaW.PrintWords Go.Proofs.YtdpimdaofikmjaaW.PrintLast Go.Proofs.YtdpimdaofikmjaaW.PrintMore
set_option linter.unusedVariables false
set_option linter.unusedSimpArgs false

/-- The numbers of the doubles. -/
def dblT (l : List S67) : List Int := (l.filter fun t => decide (t.f0 = t.f1)).map fun t => t.f0
theorem dblT_length (l : List S67) : (dblT l).length ≤ l.length := by
  unfold dblT; rw [List.length_map]; exact List.length_filter_le _ _
theorem dblT_cons (x : S67) (l : List S67) : dblT (x :: l) = if x.f0 = x.f1 then x.f0 :: dblT l else dblT l := by
  unfold dblT
  by_cases h : x.f0 = x.f1
  · rw [if_pos h, List.filter_cons_of_pos (by simpa using h)]; rfl
  · rw [if_neg h, List.filter_cons_of_neg (by simpa using h)]
theorem dbl_impl (s : List S67) (hs : s.length ≤ 1000000000) : ∀ d i (acc : List Int), i + d = s.length → acc.length ≤ i → Ev (fun k => impl_doubles.l0 k acc s (s.length : Int) (i : Int)) (acc ++ dblT (s.drop i)) := by
  intro d
  induction d with
  | zero =>
    intro i acc h ha
    refine ⟨1, fun k hk => ?_⟩
    obtain ⟨k, rfl⟩ : ∃ m, k = m + 1 := ⟨k - 1, by omega⟩
    simp only [impl_doubles.l0]
    rw [if_neg (by omega), List.drop_of_length_le (by omega)]
    simp [dblT]
  | succ d ih =>
    intro i acc h ha
    have hi : i < s.length := by omega
    obtain ⟨x, hx⟩ : ∃ x, s[i]? = some x := ⟨_, List.getElem?_eq_getElem hi⟩
    have hd : s.drop i = x :: s.drop (i + 1) := by
      rw [List.drop_eq_getElem_cons hi]
      rw [List.getElem?_eq_getElem hi] at hx
      cases hx; rfl
    rw [hd, dblT_cons]
    by_cases c : x.f0 = x.f1
    · have := ih (i + 1) (acc ++ [x.f0]) (by omega) (by simp; omega)
      rw [List.append_assoc] at this
      rw [if_pos c]
      refine Ev.step (fun k => ?_) this
      simp only [impl_doubles.l0]
      rw [if_pos (by omega), if_pos (by omega), if_pos (by omega), rdT_nat s i x hx, wrap_succ (by omega), show impl_isDouble.f x.f0 x.f1 = some true from by unfold impl_isDouble.f; rw [beq_iff_eq.2 c], Option.bind_some, if_pos rfl, if_pos (by omega)]
    · have := ih (i + 1) acc (by omega) (by omega)
      rw [if_neg c]
      refine Ev.step (fun k => ?_) this
      simp only [impl_doubles.l0]
      rw [if_pos (by omega), if_pos (by omega), if_pos (by omega), rdT_nat s i x hx, wrap_succ (by omega), show impl_isDouble.f x.f0 x.f1 = some false from by unfold impl_isDouble.f; rw [beq_eq_false_iff_ne.2 c], Option.bind_some, if_neg (by decide)]
theorem doubles_ev {l : List S67} (h : ∀ x ∈ l, goodT x = true) (hn : l.Nodup) (hl : l.length ≤ 1000000000) : Ev (fun k => impl_doubles.f k l) (dblT (sortN l)) := by
  have hs := sortN_length l
  have := dbl_impl (sortN l) (by omega) (sortN l).length 0 [] (by omega) (by simp)
  refine Ev.congr (fun k => ?_) this
  unfold impl_doubles.f
  rw [sorted_some h hn hl]; rfl

end Go.Proofs.Ytdpimdaofikmjaa.Q
