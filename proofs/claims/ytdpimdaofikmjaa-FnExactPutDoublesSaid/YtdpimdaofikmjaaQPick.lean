/- Plain lists and numbers: what the program's functions and the reference's compute. -/
import Derived.Test.YtdpimdaofikmjaaP0
import Derived.Test.YtdpimdaofikmjaaPSa
import Derived.Test.YtdpimdaofikmjaaPSb
import Derived.Test.YtdpimdaofikmjaaQHand
import Derived.Test.YtdpimdaofikmjaaQScaf
import Derived.Test.YtdpimdaofikmjaaQSetN
namespace Go.Proofs.Ytdpimdaofikmjaa.Q
open Go.RowKit Go.Proofs.Ytdpimdaofikmjaa.P Go.Proofs.YtdpimdaofikmjaaW.PrintWords Go.Proofs.YtdpimdaofikmjaaW.PrintLast Go.Proofs.YtdpimdaofikmjaaW.PrintMore
set_option linter.unusedVariables false
set_option linter.unusedSimpArgs false

theorem tiPick_loop (l : List S67) (b : Bool) (s : List S67) (hs : s.length ≤ 1000000000) (hl : l.length ≤ 1000000000) : ∀ d i (acc : List S67), i + d = s.length → acc.length ≤ i → Ev (fun k => spec_tiPick.l0 k l b acc s (s.length : Int) (i : Int)) (acc ++ (s.drop i).filter fun t => decide (t ∈ l) == b) := by
  intro d
  induction d with
  | zero =>
    intro i acc h ha
    refine ⟨1, fun k hk => ?_⟩
    obtain ⟨k, rfl⟩ : ∃ m, k = m + 1 := ⟨k - 1, by omega⟩
    simp only [spec_tiPick.l0]
    rw [if_neg (by omega), List.drop_of_length_le (by omega)]
    simp
  | succ d ih =>
    intro i acc h ha
    have hi : i < s.length := by omega
    obtain ⟨x, hx⟩ : ∃ x, s[i]? = some x := ⟨_, List.getElem?_eq_getElem hi⟩
    have hd : s.drop i = x :: s.drop (i + 1) := by
      rw [List.drop_eq_getElem_cons hi]
      rw [List.getElem?_eq_getElem hi] at hx
      cases hx; rfl
    have hc : (decide (placeT l x ≥ 0) == b) = (decide (x ∈ l) == b) := by
      have := placeT_nonneg l x
      by_cases c : x ∈ l
      · rw [decide_eq_true c, decide_eq_true (this.2 c)]
      · rw [decide_eq_false c, decide_eq_false (fun h => c (this.1 h))]
    refine Ev.step (f := fun k => (spec_tiPlace.f k l x.f0 x.f1).bind fun t => if ((decide (t ≥ 0)) == b) = true then (if acc.length < 8796093022208 then spec_tiPick.l0 k l b (acc ++ [x]) s (s.length : Int) ((i + 1 : Nat) : Int) else none) else spec_tiPick.l0 k l b acc s (s.length : Int) ((i + 1 : Nat) : Int)) (fun k => ?_) (Ev.bind (tiPlace_ev l x (by omega)) ?_)
    · simp only [spec_tiPick.l0]
      rw [if_pos (by omega), if_pos (by omega), if_pos (by omega), rdT_nat s i x hx, wrap_succ (by omega)]
    · rw [hd]
      by_cases c : (decide (x ∈ l) == b) = true
      · have := ih (i + 1) (acc ++ [x]) (by omega) (by simp; omega)
        rw [List.filter_cons, if_pos c]
        rw [List.append_assoc] at this
        exact Ev.congr (fun k => by rw [if_pos (hc.trans c), if_pos (by omega)]) this
      · have := ih (i + 1) acc (by omega) (by omega)
        rw [List.filter_cons, if_neg c]
        exact Ev.congr (fun k => by rw [if_neg (by rw [hc]; exact c)]) this
theorem tiPick_ev (n : Nat) (h : n < 10) (l : List S67) (b : Bool) (hl : l.length ≤ 1000000000) : Ev (fun k => spec_tiPick.f k (n : Int) l b) ((setN n).filter fun t => decide (t ∈ l) == b) := by
  have hn := setN_length n h
  have := tiPick_loop l b (setN n) (by omega) hl (setN n).length 0 [] (by omega) (by simp)
  exact Ev.bind (f := fun k s => spec_tiPick.l0 k l b [] s (s.length : Int) 0) (tiSet_ev n h) this
/-- The tiles of a list, each once, sorted. -/
def sortN (l : List S67) : List S67 := (setN 9).filter fun t => decide (t ∈ l) == true
theorem sortN_length (l : List S67) : (sortN l).length ≤ 55 := Nat.le_trans (List.length_filter_le _ _) (setN_length 9 (by omega))
theorem tiSort_ev (l : List S67) (hl : l.length ≤ 1000000000) : Ev (fun k => spec_tiSort.f k l) (sortN l) := Ev.bind (tiPick_ev 9 (by omega) l true hl) (Ev.now _)

end Go.Proofs.Ytdpimdaofikmjaa.Q
