/- Plain lists and numbers: what the program's functions and the reference's compute. -/
import Derived.Test.YtdpimdaofikmjaaP0
import Derived.Test.YtdpimdaofikmjaaPFFittingTiles
import Derived.Test.YtdpimdaofikmjaaPIb
import Derived.Test.YtdpimdaofikmjaaPIc
import Derived.Test.YtdpimdaofikmjaaPIg
import Derived.Test.YtdpimdaofikmjaaPIo
import Derived.Test.YtdpimdaofikmjaaPIq
import Derived.Test.YtdpimdaofikmjaaPSa
import Derived.Test.YtdpimdaofikmjaaPSb
import Derived.Test.YtdpimdaofikmjaaPSd
import Derived.Test.YtdpimdaofikmjaaQChain
import Derived.Test.YtdpimdaofikmjaaQHand
import Derived.Test.YtdpimdaofikmjaaQLess
import Derived.Test.YtdpimdaofikmjaaQPick
import Derived.Test.YtdpimdaofikmjaaQScaf
import Derived.Test.YtdpimdaofikmjaaQScaf2
import Derived.Test.YtdpimdaofikmjaaQSetMore
import Derived.Test.YtdpimdaofikmjaaQSorted
namespace Go.Proofs.Ytdpimdaofikmjaa.Q
open Go.RowKit Go.Proofs.Ytdpimdaofikmjaa.P Go.Proofs.YtdpimdaofikmjaaW.PrintWords Go.Proofs.YtdpimdaofikmjaaW.PrintLast Go.Proofs.YtdpimdaofikmjaaW.PrintMore
set_option linter.unusedVariables false
set_option linter.unusedSimpArgs false

theorem haOther_nonneg (x : S67) (h : goodT x = true) (n : Int) : ∃ o, spec_haOther.f x.f0 x.f1 n = some o ∧ (o ≥ 0 ↔ (decide (x.f0 = n) || decide (x.f1 = n)) = true) := by
  rw [goodT_iff] at h
  unfold spec_haOther.f
  by_cases h0 : n = x.f0
  · rw [if_pos h0]
    exact ⟨_, rfl, by simp [h0]; omega⟩
  · rw [if_neg h0]
    by_cases h1 : n = x.f1
    · rw [if_pos h1]
      exact ⟨_, rfl, by simp [h1]; omega⟩
    · rw [if_neg h1]
      have e0 : ¬ x.f0 = n := fun e => h0 e.symm
      have e1 : ¬ x.f1 = n := fun e => h1 e.symm
      exact ⟨_, rfl, by simp [e0, e1]⟩
theorem fit_loop (ch : List Int) (h0 : 0 < ch.length) (hch : ch.length ≤ 1000000000) (laid : List S67) (hlaid : laid.length ≤ 1000000000) (s : List S67) (hg : ∀ x ∈ s, goodT x = true) (hs : s.length ≤ 1000000000) : ∀ d i (acc : List S67), i + d = s.length → acc.length ≤ i → Ev (fun k => spec_FittingTiles.l0 k ch acc laid s (s.length : Int) (i : Int)) (acc ++ (s.drop i).filter fun t => fitB ch[0] (ch[ch.length - 1]'(by omega)) t && !decide (t ∈ laid), true) := by
  intro d
  obtain ⟨w1, w2⟩ := rd_last ch h0 hch
  have w0 := rd_zero ch h0
  induction d with
  | zero =>
    intro i acc h ha
    refine ⟨1, fun k hk => ?_⟩
    obtain ⟨k, rfl⟩ : ∃ m, k = m + 1 := ⟨k - 1, by omega⟩
    simp only [spec_FittingTiles.l0]
    rw [if_neg (by omega), List.drop_of_length_le (by omega)]
    simp
  | succ d ih =>
    intro i acc h ha
    have hi : i < s.length := by omega
    obtain ⟨x, hx⟩ : ∃ x, s[i]? = some x := ⟨_, List.getElem?_eq_getElem hi⟩
    have hgx := hg x (List.mem_of_getElem? hx)
    have hd : s.drop i = x :: s.drop (i + 1) := by
      rw [List.drop_eq_getElem_cons hi]
      rw [List.getElem?_eq_getElem hi] at hx
      cases hx; rfl
    rw [hd, List.filter_cons]
    obtain ⟨o1, ho1, hp1⟩ := haOther_nonneg x hgx ch[0]
    obtain ⟨o2, ho2, hp2⟩ := haOther_nonneg x hgx (ch[ch.length - 1]'(by omega))
    have hpl := placeT_nonneg laid x
    have no := ih (i + 1) acc (by omega) (by omega)
    have yes := ih (i + 1) (acc ++ [x]) (by omega) (by simp; omega)
    rw [List.append_assoc] at yes
    have start : ∀ r, Ev (fun k => if placeT laid x < 0 then (if o1 ≥ 0 then spec_FittingTiles.l0 k ch (acc ++ [x]) laid s (s.length : Int) ((i + 1 : Nat) : Int) else if o2 ≥ 0 then spec_FittingTiles.l0 k ch (acc ++ [x]) laid s (s.length : Int) ((i + 1 : Nat) : Int) else spec_FittingTiles.l0 k ch acc laid s (s.length : Int) ((i + 1 : Nat) : Int)) else spec_FittingTiles.l0 k ch acc laid s (s.length : Int) ((i + 1 : Nat) : Int)) r → Ev (fun k => spec_FittingTiles.l0 k ch acc laid s (s.length : Int) (i : Int)) r := by
      intro r hr
      refine Ev.step (f := fun k => (spec_tiPlace.f k laid x.f0 x.f1).bind fun t => if t < 0 then (if o1 ≥ 0 then spec_FittingTiles.l0 k ch (acc ++ [x]) laid s (s.length : Int) ((i + 1 : Nat) : Int) else if o2 ≥ 0 then spec_FittingTiles.l0 k ch (acc ++ [x]) laid s (s.length : Int) ((i + 1 : Nat) : Int) else spec_FittingTiles.l0 k ch acc laid s (s.length : Int) ((i + 1 : Nat) : Int)) else spec_FittingTiles.l0 k ch acc laid s (s.length : Int) ((i + 1 : Nat) : Int)) (fun k => ?_) (Ev.bind (tiPlace_ev laid x (by omega)) hr)
      simp only [spec_FittingTiles.l0]
      rw [if_pos (by omega), if_pos (by omega), if_pos (by omega), rdT_nat s i x hx, wrap_succ (by omega), w0, w1, w2, ho1, ho2, if_pos (show (0 : Int) < (ch.length : Int) by omega), if_pos (show (0 : Int) ≤ ((ch.length - 1 : Nat) : Int) by omega), if_pos (show ((ch.length - 1 : Nat) : Int) < (ch.length : Int) by omega), if_pos (show acc.length < 8796093022208 by omega)]
      simp only [Option.bind_some]
    by_cases cl : x ∈ laid
    · rw [if_neg (show ¬ (fitB ch[0] (ch[ch.length - 1]'(by omega)) x && !decide (x ∈ laid)) = true by simp [cl])]
      have hpl0 : ¬ placeT laid x < 0 := by have := hpl.2 cl; omega
      exact start _ (Ev.congr (fun k => by rw [if_neg hpl0]) no)
    · have hpl0 : placeT laid x < 0 := by
        rcases Int.lt_or_le (placeT laid x) 0 with h | h
        · exact h
        · exact absurd (hpl.1 h) cl
      by_cases c1 : o1 ≥ 0
      · rw [if_pos (show (fitB ch[0] (ch[ch.length - 1]'(by omega)) x && !decide (x ∈ laid)) = true by unfold fitB; rw [hp1.1 c1]; simp [cl])]
        exact start _ (Ev.congr (fun k => by rw [if_pos hpl0, if_pos c1]) yes)
      · by_cases c2 : o2 ≥ 0
        · rw [if_pos (show (fitB ch[0] (ch[ch.length - 1]'(by omega)) x && !decide (x ∈ laid)) = true by unfold fitB; rw [hp2.1 c2]; simp [cl])]
          exact start _ (Ev.congr (fun k => by rw [if_pos hpl0, if_neg c1, if_pos c2]) yes)
        · have e1 : (decide (x.f0 = ch[0]) || decide (x.f1 = ch[0])) = false := by
            cases h : (decide (x.f0 = ch[0]) || decide (x.f1 = ch[0])) with
            | false => rfl
            | true => exact absurd (hp1.2 h) c1
          have e2 : (decide (x.f0 = ch[ch.length - 1]'(by omega)) || decide (x.f1 = ch[ch.length - 1]'(by omega))) = false := by
            cases h : (decide (x.f0 = ch[ch.length - 1]'(by omega)) || decide (x.f1 = ch[ch.length - 1]'(by omega))) with
            | false => rfl
            | true => exact absurd (hp2.2 h) c2
          rw [if_neg (show ¬ (fitB ch[0] (ch[ch.length - 1]'(by omega)) x && !decide (x ∈ laid)) = true by unfold fitB; rw [e1, e2]; simp)]
          exact start _ (Ev.congr (fun k => by rw [if_pos hpl0, if_neg c1, if_neg c2]) no)
theorem FittingTiles_same (ch : List Int) (l : List S67) (hch : ch.length ≤ 1048576) : ∃ r, Ev (fun k => spec_FittingTiles.f k ch l) r ∧ Ev (fun k => impl_FittingTiles.f k ch l) r ∧ r.1.length ≤ 1048576 := by
  have h1 := haGood_ev ch (by omega)
  have h2 := IsChain_ev ch (by omega)
  have h3 := tiHand_ev l
  have h4 := IsHand_ev l
  have sbad : Ev (fun k => spec_FittingTiles.j0 k ch l true) ([], false) := ⟨1, fun k hk => by obtain ⟨k, rfl⟩ : ∃ m, k = m + 1 := ⟨k - 1, by omega⟩; simp only [spec_FittingTiles.j0, ↓reduceIte]⟩
  cases hc : chainB ch with
  | false =>
    rw [hc] at h1 h2
    exact ⟨([], false), bind_false h1 sbad, bind_false h2 (Ev.now _), by simp⟩
  | true =>
    rw [hc] at h1 h2
    have nc := chainB_len hc
    cases hd : handB l with
    | false =>
      rw [hd] at h3 h4
      exact ⟨([], false), bind_true h1 (Ev.bind (f := fun k t => spec_FittingTiles.j0 k ch l (!t)) h3 sbad), bind_true h2 (bind_false h4 (Ev.now _)), by simp⟩
    | true =>
      rw [hd] at h3 h4
      have na := handB_len hd
      have hs := sortN_length l
      have htl := tilesT_length ch
      obtain ⟨w1, w2⟩ := rd_last ch nc.1 (by omega)
      have hends : impl_ends.f ch = some (ch[0], ch[ch.length - 1]) := by
        unfold impl_ends.f
        rw [w1, if_pos (by omega), if_pos (by omega), if_pos (by omega), rd_zero ch nc.1, w2]
      have hloop := fit_loop ch nc.1 (by omega) (tilesT ch) (by omega) (sortN l) (sortN_good l) (by omega) (sortN l).length 0 [] (by omega) (by simp)
      have hll := List.length_filter_le (fun t => fitB ch[0] (ch[ch.length - 1]'(by omega)) t && !decide (t ∈ tilesT ch)) (sortN l)
      refine ⟨((sortN l).filter fun t => fitB ch[0] (ch[ch.length - 1]'(by omega)) t && !decide (t ∈ tilesT ch), true), bind_true h1 (Ev.bind (f := fun k t => spec_FittingTiles.j0 k ch l (!t)) h3 ?_), bind_true h2 (bind_true h4 ?_), by simp only; omega⟩
      · refine Ev.step (f := fun k => (spec_haTiles.f k ch).bind fun t => (spec_tiSort.f k l).bind fun u => spec_FittingTiles.l0 k ch [] t u (u.length : Int) 0) (fun k => by simp only [spec_FittingTiles.j0, Bool.not_true, Bool.false_eq_true, ↓reduceIte]) (Ev.bind (haTiles_ev ch (by omega)) (Ev.bind (tiSort_ev l (by omega)) hloop))
      · have hms := mergeSort_eq (handB_good hd) (handB_nodup hd)
        have hfl := List.length_filter_le (fitB ch[0] (ch[ch.length - 1]'(by omega))) (sortN l)
        have hless := less_ev (a := (sortN l).filter (fitB ch[0] (ch[ch.length - 1]'(by omega)))) (fun x hx => sortN_good l x (List.mem_filter.1 hx).1) ((sortN_nodup l).sublist List.filter_sublist) (by omega) (tilesT ch) (by omega)
        rw [sortN_filter, List.filter_filter] at hless
        refine Ev.congr (f := fun k => (impl_tilesOf.f k ch).bind fun ts => (impl_less.f k ((sortN l).filter (fitB ch[0] (ch[ch.length - 1]'(by omega)))) ts).bind fun r => some (r, true)) (fun k => ?_) (Ev.bind (tilesOf_ev ch (by omega)) (Ev.bind hless ?_))
        · rw [hends, Option.bind_some]
          unfold impl_FittingTiles.g
          rw [if_pos ⟨by omega, fun x hx => good_in (handB_good hd x hx)⟩, hms]
        · refine ev_const fun k => ?_
          congr 2
          apply List.filter_congr
          intro x _
          cases decide (x ∈ tilesT ch) <;> cases fitB ch[0] (ch[ch.length - 1]'(by omega)) x <;> rfl

end Go.Proofs.Ytdpimdaofikmjaa.Q
