/- Plain lists and numbers: what the program's functions and the reference's compute. -/
import Derived.Test.YtdpimdaofikmjaaP0
import Derived.Test.YtdpimdaofikmjaaPFMissingFrom
import Derived.Test.YtdpimdaofikmjaaPIa
import Derived.Test.YtdpimdaofikmjaaPId
import Derived.Test.YtdpimdaofikmjaaPIg
import Derived.Test.YtdpimdaofikmjaaPIm
import Derived.Test.YtdpimdaofikmjaaPSa
import Derived.Test.YtdpimdaofikmjaaPSb
import Derived.Test.YtdpimdaofikmjaaQHand
import Derived.Test.YtdpimdaofikmjaaQLess
import Derived.Test.YtdpimdaofikmjaaQPick
import Derived.Test.YtdpimdaofikmjaaQScaf
import Derived.Test.YtdpimdaofikmjaaQScaf2
import Derived.Test.YtdpimdaofikmjaaQSetMore
import Derived.Test.YtdpimdaofikmjaaQSetN
namespace Go.Proofs.Ytdpimdaofikmjaa.Q
open Go.RowKit Go.Proofs.Ytdpimdaofikmjaa.P Go.Proofs.YtdpimdaofikmjaaW.PrintWords Go.Proofs.YtdpimdaofikmjaaW.PrintLast Go.Proofs.YtdpimdaofikmjaaW.PrintMore
set_option linter.unusedVariables false
set_option linter.unusedSimpArgs false

theorem tiNumber_someM (n : Int) : spec_tiNumber.f n = some (decide (0 ≤ n) && decide (n ≤ 9)) := by
  unfold spec_tiNumber.f spec_l1In.f
  by_cases h : n ≥ 0
  · rw [if_pos h]; simp [h]
  · rw [if_neg h]; simp [h]
theorem isNumber_eqM (n : Int) : impl_isNumber.f n = some (decide (0 ≤ n) && decide (n ≤ 9)) := by
  unfold impl_isNumber.f impl_within.f
  by_cases h : 0 ≤ n
  · rw [if_pos h]; simp [h]
  · rw [if_neg h]; simp [h]
theorem tiWithin_loop (n : Int) (s : List S67) (hs : s.length ≤ 1000000000) : ∀ d i, i + d = s.length → Ev (fun k => spec_tiWithin.l0 k n s (s.length : Int) (i : Int)) (!(s.drop i).any fun x => decide (n < x.f1)) := by
  intro d
  induction d with
  | zero =>
    intro i h
    refine ⟨1, fun k hk => ?_⟩
    obtain ⟨k, rfl⟩ : ∃ m, k = m + 1 := ⟨k - 1, by omega⟩
    simp only [spec_tiWithin.l0]
    rw [if_neg (by omega), List.drop_of_length_le (by omega)]
    simp
  | succ d ih =>
    intro i h
    have hi : i < s.length := by omega
    obtain ⟨x, hx⟩ : ∃ x, s[i]? = some x := ⟨_, List.getElem?_eq_getElem hi⟩
    have hd : s.drop i = x :: s.drop (i + 1) := by
      rw [List.drop_eq_getElem_cons hi]
      rw [List.getElem?_eq_getElem hi] at hx
      cases hx; rfl
    rw [hd, List.any_cons]
    by_cases c : x.f1 > n
    · rw [decide_eq_true (show n < x.f1 from c)]
      refine Ev.step (f := fun _ => some false) (fun k => ?_) (Ev.now _)
      simp only [spec_tiWithin.l0]
      rw [if_pos (by omega), if_pos (by omega), if_pos (by omega), rdT_nat s i x hx, if_pos c]
    · have := ih (i + 1) (by omega)
      rw [decide_eq_false (show ¬ n < x.f1 from c), Bool.false_or]
      refine Ev.step (fun k => ?_) this
      simp only [spec_tiWithin.l0]
      rw [if_pos (by omega), if_pos (by omega), if_pos (by omega), rdT_nat s i x hx, wrap_succ (by omega), if_neg c]
theorem MissingFrom_same (l : List S67) (n : Int) : ∃ r, Ev (fun k => spec_MissingFrom.f k l n) r ∧ Ev (fun k => impl_MissingFrom.f k l n) r ∧ r.1.length ≤ 1048576 := by
  have h1 := tiHand_ev l
  have h2 := IsHand_ev l
  have h3 := tiNumber_someM n
  have h4 := isNumber_eqM n
  have ibad : Ev (fun k => impl_MissingFrom.j0 k l n true) ([], false) := ⟨1, fun k hk => by obtain ⟨k, rfl⟩ : ∃ m, k = m + 1 := ⟨k - 1, by omega⟩; simp only [impl_MissingFrom.j0, ↓reduceIte]⟩
  cases hc : handB l with
  | false =>
    rw [hc] at h1 h2
    exact ⟨([], false), bind_false h1 (Ev.now _), bind_false h2 ibad, by simp⟩
  | true =>
    rw [hc] at h1 h2
    have na := handB_len hc
    cases hn : (decide (0 ≤ n) && decide (n ≤ 9)) with
    | false =>
      rw [hn] at h3 h4
      exact ⟨([], false), bind_true h1 (ev_const fun k => by rw [h3, Option.bind_some, if_neg (by decide)]), bind_true h2 (Ev.congr (fun k => by rw [h4, Option.bind_some, if_neg (by decide)]) ibad), by simp⟩
    | true =>
      rw [hn] at h3 h4
      have h5 := tiWithin_loop n l (by omega) l.length 0 (by omega)
      rw [List.drop_zero] at h5
      have h6 : impl_isUpTo.f l n = some (!l.any fun x => decide (n < x.f1)) := rfl
      cases hu : (!l.any fun x => decide (n < x.f1)) with
      | false =>
        rw [hu] at h5 h6
        refine ⟨([], false), bind_true h1 (Ev.congr (fun k => by rw [h3, Option.bind_some, if_pos rfl]) (bind_false (g := fun k => spec_tiWithin.f k l n) h5 (Ev.now _))), bind_true h2 (Ev.congr (fun k => by rw [h4, Option.bind_some, if_pos rfl, h6, Option.bind_some]; rfl) ibad), by simp⟩
      | true =>
        rw [hu] at h5 h6
        simp only [Bool.and_eq_true, decide_eq_true_eq] at hn
        obtain ⟨m, rfl⟩ := Int.eq_ofNat_of_zero_le hn.1
        have hm : m < 10 := by omega
        have hp := tiPick_ev m hm l false (by omega)
        have hls := setN_length m hm
        have hll := List.length_filter_le (fun t => decide (t ∈ l) == false) (setN m)
        have hless := less_ev (setN_good m hm) (setN_nodup m hm) (by omega) l (by omega)
        rw [sortN_setN m hm] at hless
        refine ⟨((setN m).filter fun t => decide (t ∈ l) == false, true), bind_true h1 (Ev.congr (fun k => by rw [h3, Option.bind_some, if_pos rfl]) (bind_true (g := fun k => spec_tiWithin.f k l m) h5 (Ev.bind hp (Ev.now _)))), bind_true h2 (Ev.congr (f := fun k => impl_MissingFrom.j0 k l m false) (fun k => by rw [h4, Option.bind_some, if_pos rfl, h6, Option.bind_some]; rfl) ?_), by simp only; omega⟩
        refine Ev.step (f := fun k => (impl_setOf.f k (m : Int)).bind fun t => (impl_less.f k t l).bind fun u => some (u, true)) (fun k => by simp only [impl_MissingFrom.j0, Bool.false_eq_true, ↓reduceIte]) (Ev.bind (setOf_ev m hm) (Ev.bind hless (Ev.now _)))

end Go.Proofs.Ytdpimdaofikmjaa.Q
