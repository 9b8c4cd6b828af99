/- Plain lists and numbers: what the program's functions and the reference's compute. -/
import Derived.Test.YtepccigcdbimaaaP0
import Derived.Test.YtepccigcdbimaaaPFDropDoubles
import Derived.Test.YtepccigcdbimaaaQChain
import Derived.Test.YtepccigcdbimaaaQScaf
import Derived.Test.YtepccigcdbimaaaQScaf2
namespace Go.Proofs.Ytepccigcdbimaaa.Q
open Go.RowKit Go.Proofs.Ytepccigcdbimaaa.P Go.Proofs.YtepccigcdbimaaaW.PrintWords Go.Proofs.YtepccigcdbimaaaW.PrintLast Go.Proofs.YtepccigcdbimaaaW.PrintMore
set_option linter.unusedVariables false
set_option linter.unusedSimpArgs false

theorem drop_loop (l : List Int) (hl : l.length ≤ 1000000) : ∀ d i (acc : List Int), i + d = l.length → acc = compL (l.take i) → Ev (fun k => spec_DropDoubles.l0 k l acc l (l.length : Int) (i : Int)) (compL l, true) := by
  intro d
  induction d with
  | zero =>
    intro i acc h ha
    refine ⟨1, fun k hk => ?_⟩
    obtain ⟨k, rfl⟩ : ∃ m, k = m + 1 := ⟨k - 1, by omega⟩
    simp only [spec_DropDoubles.l0]
    rw [if_neg (by omega), ha, List.take_of_length_le (by omega)]
  | succ d ih =>
    intro i acc h ha
    have hi : i < l.length := by omega
    have ex := List.getElem?_eq_getElem hi
    have hal : acc.length ≤ i := by
      have := compL_length (l.take i)
      rw [ha]
      rw [List.length_take] at this
      omega
    by_cases h0 : i = 0
    · subst h0
      have hacc : acc = [] := by rw [ha]; rfl
      subst hacc
      have := ih 1 [l[0]] (by omega) (by
        match l, hi with
        | x :: r, _ => simp [compL, compF])
      refine Ev.step (fun k => ?_) this
      simp only [spec_DropDoubles.l0]
      rw [if_pos (by omega), if_pos (by omega), if_pos (by omega), if_pos (by omega), if_pos (by simp), rd_nat l 0 _ ex, wrap_succ (by omega)]
      rfl
    · have hi1 : i - 1 < l.length := by omega
      have ex1 := List.getElem?_eq_getElem hi1
      have w1 : wrap64 ((i : Int) - 1) = ((i - 1 : Nat) : Int) := by rw [wrap_eq (by omega) (by omega)]; omega
      have hs := compL_take_succ l i (by omega) hi
      by_cases e : l[i - 1] = l[i]
      · rw [if_pos e.symm, List.append_nil] at hs
        have := ih (i + 1) acc (by omega) (by rw [hs, ha])
        refine Ev.step (fun k => ?_) this
        simp only [spec_DropDoubles.l0]
        rw [if_pos (by omega), if_pos (by omega), if_pos (by omega), if_neg (by omega), w1, if_pos (by omega), if_pos (by omega), rd_nat l i _ ex, rd_nat l (i - 1) _ ex1, if_pos e, wrap_succ (by omega)]
      · rw [if_neg (fun c => e c.symm)] at hs
        have := ih (i + 1) (acc ++ [l[i]]) (by omega) (by rw [hs, ha])
        refine Ev.step (fun k => ?_) this
        simp only [spec_DropDoubles.l0]
        rw [if_pos (by omega), if_pos (by omega), if_pos (by omega), if_neg (by omega), w1, if_pos (by omega), if_pos (by omega), rd_nat l i _ ex, rd_nat l (i - 1) _ ex1, if_neg e, if_pos (by omega), wrap_succ (by omega)]
theorem DropDoubles_same (l : List Int) (hl : l.length ≤ 1048576) : ∃ r, Ev (fun k => spec_DropDoubles.f k l) r ∧ Ev (fun k => impl_DropDoubles.f k l) r ∧ r.1.length ≤ 1048576 := by
  have h1 := haGood_ev l (by omega)
  have h2 := IsChain_ev l (by omega)
  cases hc : chainB l with
  | false =>
    rw [hc] at h1 h2
    exact ⟨([], false), bind_false h1 (Ev.now _), bind_false h2 (Ev.now _), by simp⟩
  | true =>
    rw [hc] at h1 h2
    have nc := chainB_len hc
    have hcl := compL_length l
    have hloop := drop_loop l (by omega) l.length 0 [] (by omega) rfl
    exact ⟨(compL l, true), bind_true h1 hloop, bind_true h2 (ev_const fun k => by rw [if_pos (by omega)]), by simp only; omega⟩

end Go.Proofs.Ytepccigcdbimaaa.Q
