/- Plain lists and numbers: what the program's functions and the reference's compute. -/
import Derived.Test.YtdpimdaofikmjaaP0
import Derived.Test.YtdpimdaofikmjaaPFWithNumber
import Derived.Test.YtdpimdaofikmjaaPIa
import Derived.Test.YtdpimdaofikmjaaPSa
import Derived.Test.YtdpimdaofikmjaaPSb
import Derived.Test.YtdpimdaofikmjaaQHand
import Derived.Test.YtdpimdaofikmjaaQPick
import Derived.Test.YtdpimdaofikmjaaQScaf
import Derived.Test.YtdpimdaofikmjaaQScaf2
import Derived.Test.YtdpimdaofikmjaaQSorted
namespace Go.Proofs.Ytdpimdaofikmjaa.Q
open Go.RowKit Go.Proofs.Ytdpimdaofikmjaa.P Go.Proofs.YtdpimdaofikmjaaW.PrintWords Go.Proofs.YtdpimdaofikmjaaW.PrintLast Go.Proofs.YtdpimdaofikmjaaW.PrintMore
set_option linter.unusedVariables false
set_option linter.unusedSimpArgs false

theorem isNumber_eqW (n : Int) : impl_isNumber.f n = some (decide (0 ≤ n) && decide (n ≤ 9)) := by
  unfold impl_isNumber.f impl_within.f
  by_cases h : 0 ≤ n
  · rw [if_pos h]; simp [h]
  · rw [if_neg h]; simp [h]
theorem tiNumber_someW (n : Int) : spec_tiNumber.f n = some (decide (0 ≤ n) && decide (n ≤ 9)) := by
  unfold spec_tiNumber.f spec_l1In.f
  by_cases h : n ≥ 0
  · rw [if_pos h]; simp [h]
  · rw [if_neg h]; simp [h]
theorem withN_loop (n : Int) (s : List S67) (hs : s.length ≤ 1000000000) : ∀ d i (acc : List S67), i + d = s.length → acc.length ≤ i → Ev (fun k => spec_WithNumber.l0 k n acc s (s.length : Int) (i : Int)) (acc ++ (s.drop i).filter (hasB n), true) := by
  intro d
  induction d with
  | zero =>
    intro i acc h ha
    refine ⟨1, fun k hk => ?_⟩
    obtain ⟨k, rfl⟩ : ∃ m, k = m + 1 := ⟨k - 1, by omega⟩
    simp only [spec_WithNumber.l0]
    rw [if_neg (by omega), List.drop_of_length_le (by omega)]
    simp
  | succ d ih =>
    intro i acc h ha
    have hi : i < s.length := by omega
    obtain ⟨x, hx⟩ : ∃ x, s[i]? = some x := ⟨_, List.getElem?_eq_getElem hi⟩
    have hd : s.drop i = x :: s.drop (i + 1) := by
      rw [List.drop_eq_getElem_cons hi]
      rw [List.getElem?_eq_getElem hi] at hx
      cases hx; rfl
    rw [hd, List.filter_cons]
    by_cases c : x.f0 = n
    · have := ih (i + 1) (acc ++ [x]) (by omega) (by simp; omega)
      rw [List.append_assoc] at this
      rw [if_pos (show hasB n x = true by unfold hasB; simp [c])]
      refine Ev.step (fun k => ?_) this
      simp only [spec_WithNumber.l0]
      rw [if_pos (by omega), if_pos (by omega), if_pos (by omega), rdT_nat s i x hx, wrap_succ (by omega), if_pos c, if_pos (by omega)]
    · by_cases c2 : x.f1 = n
      · have := ih (i + 1) (acc ++ [x]) (by omega) (by simp; omega)
        rw [List.append_assoc] at this
        rw [if_pos (show hasB n x = true by unfold hasB; simp [c2])]
        refine Ev.step (fun k => ?_) this
        simp only [spec_WithNumber.l0]
        rw [if_pos (by omega), if_pos (by omega), if_pos (by omega), rdT_nat s i x hx, wrap_succ (by omega), if_neg c, if_pos c2, if_pos (by omega)]
      · have := ih (i + 1) acc (by omega) (by omega)
        rw [if_neg (show ¬ hasB n x = true by unfold hasB; simp [c, c2])]
        refine Ev.step (fun k => ?_) this
        simp only [spec_WithNumber.l0]
        rw [if_pos (by omega), if_pos (by omega), if_pos (by omega), rdT_nat s i x hx, wrap_succ (by omega), if_neg c, if_neg c2]
theorem WithNumber_same (l : List S67) (n : Int) : ∃ r, Ev (fun k => spec_WithNumber.f k l n) r ∧ Ev (fun k => impl_WithNumber.f k l n) r ∧ r.1.length ≤ 1048576 := by
  have h1 := tiHand_ev l
  have h2 := IsHand_ev l
  have h3 := tiNumber_someW n
  have h4 := isNumber_eqW n
  have sbad : Ev (fun k => spec_WithNumber.j0 k l n true) ([], false) := ⟨1, fun k hk => by obtain ⟨k, rfl⟩ : ∃ m, k = m + 1 := ⟨k - 1, by omega⟩; simp only [spec_WithNumber.j0, ↓reduceIte]⟩
  cases hc : handB l with
  | false =>
    rw [hc] at h1 h2
    exact ⟨([], false), bind_false h1 sbad, bind_false h2 (Ev.now _), by simp⟩
  | true =>
    rw [hc] at h1 h2
    have na := handB_len hc
    cases hn : (decide (0 ≤ n) && decide (n ≤ 9)) with
    | false =>
      rw [hn] at h3 h4
      exact ⟨([], false), bind_true h1 (Ev.congr (fun k => by rw [h3, Option.bind_some]; rfl) sbad), bind_true h2 (ev_const fun k => by rw [h4, Option.bind_some, if_neg (by decide)]), by simp⟩
    | true =>
      rw [hn] at h3 h4
      have hs := sortN_length l
      have hl := List.length_filter_le (hasB n) (sortN l)
      have hloop := withN_loop n (sortN l) (by omega) (sortN l).length 0 [] (by omega) (by simp)
      refine ⟨((sortN l).filter (hasB n), true), bind_true h1 (Ev.congr (f := fun k => spec_WithNumber.j0 k l n false) (fun k => by rw [h3, Option.bind_some]; rfl) ?_), bind_true h2 (ev_const fun k => ?_), by simp only; omega⟩
      · refine Ev.step (f := fun k => (spec_tiSort.f k l).bind fun t => spec_WithNumber.l0 k n [] t (t.length : Int) 0) (fun k => by simp only [spec_WithNumber.j0, Bool.false_eq_true, ↓reduceIte]) (Ev.bind (tiSort_ev l (by omega)) hloop)
      · rw [h4, Option.bind_some, if_pos rfl]
        unfold impl_WithNumber.g
        rw [if_pos ⟨by omega, fun x hx => good_in (handB_good hc x hx)⟩, mergeSort_eq (handB_good hc) (handB_nodup hc)]

end Go.Proofs.Ytdpimdaofikmjaa.Q
