/- Plain lists and numbers: what the program's functions and the reference's compute. -/
import Derived.Test.YtdpimdaofikmjaaP0
import Derived.Test.YtdpimdaofikmjaaPFPutDoubles
import Derived.Test.YtdpimdaofikmjaaPIn
import Derived.Test.YtdpimdaofikmjaaPIr
import Derived.Test.YtdpimdaofikmjaaPSa
import Derived.Test.YtdpimdaofikmjaaPSd
import Derived.Test.YtdpimdaofikmjaaQChain
import Derived.Test.YtdpimdaofikmjaaQDoubles
import Derived.Test.YtdpimdaofikmjaaQHand
import Derived.Test.YtdpimdaofikmjaaQHasI
import Derived.Test.YtdpimdaofikmjaaQLess
import Derived.Test.YtdpimdaofikmjaaQPick
import Derived.Test.YtdpimdaofikmjaaQScaf
import Derived.Test.YtdpimdaofikmjaaQScaf2
import Derived.Test.YtdpimdaofikmjaaQSetMore
import Derived.Test.YtdpimdaofikmjaaQSetN
import Derived.Test.YtdpimdaofikmjaaQSorted
namespace Go.Proofs.Ytdpimdaofikmjaa.Q
open Go.RowKit Go.Proofs.Ytdpimdaofikmjaa.P Go.Proofs.YtdpimdaofikmjaaW.PrintWords Go.Proofs.YtdpimdaofikmjaaW.PrintLast Go.Proofs.YtdpimdaofikmjaaW.PrintMore
set_option linter.unusedVariables false
set_option linter.unusedSimpArgs false

/-- A number put in once more behind its first place. -/
def hpL (n : Int) : List Int → List Int
  | [] => []
  | x :: r => if x = n then x :: x :: r else x :: hpL n r
theorem hpL_length (n : Int) : ∀ l, (hpL n l).length ≤ l.length + 1
  | [] => by simp [hpL]
  | x :: r => by
    have := hpL_length n r
    unfold hpL
    split <;> simp <;> omega
theorem hpL_mem (n x : Int) : ∀ l, x ∈ hpL n l ↔ x ∈ l
  | [] => Iff.rfl
  | y :: r => by
    unfold hpL
    split
    · simp
    · rw [List.mem_cons, hpL_mem n x r, List.mem_cons]
theorem hpL_none (n : Int) : ∀ l, n ∉ l → hpL n l = l
  | [], _ => rfl
  | y :: r, h => by
    unfold hpL
    rw [if_neg (fun e => h (by rw [← e]; exact List.mem_cons_self)), hpL_none n r (fun c => h (List.mem_cons_of_mem _ c))]
theorem hpL_at (n : Int) (suf : List Int) : ∀ pre, n ∉ pre → hpL n (pre ++ n :: suf) = pre ++ n :: n :: suf
  | [], _ => by simp [hpL]
  | y :: pre, h => by
    rw [List.cons_append, List.cons_append]
    unfold hpL
    rw [if_neg (fun e => h (by rw [← e]; exact List.mem_cons_self)), hpL_at n suf pre (fun c => h (List.mem_cons_of_mem _ c))]
theorem haPut_done (n : Int) (l : List Int) (hl : l.length ≤ 1000000) : ∀ d i (acc : List Int), i + d = l.length → acc.length ≤ i + 1 → Ev (fun k => spec_haPut.l0 k n acc true l (l.length : Int) (i : Int)) (acc ++ l.drop i) := by
  intro d
  induction d with
  | zero =>
    intro i acc h ha
    refine ⟨1, fun k hk => ?_⟩
    obtain ⟨k, rfl⟩ : ∃ m, k = m + 1 := ⟨k - 1, by omega⟩
    simp only [spec_haPut.l0]
    rw [if_neg (by omega), List.drop_of_length_le (by omega), List.append_nil]
  | succ d ih =>
    intro i acc h ha
    have hi : i < l.length := by omega
    have ex := List.getElem?_eq_getElem hi
    have := ih (i + 1) (acc ++ [l[i]]) (by omega) (by simp; omega)
    rw [List.append_assoc] at this
    rw [List.drop_eq_getElem_cons hi]
    refine Ev.step (fun k => ?_) this
    simp only [spec_haPut.l0, Option.bind_some, ↓reduceIte]
    rw [if_pos (by omega), if_pos (by omega), if_pos (by omega), if_pos (by omega), rd_nat l i _ ex, wrap_succ (by omega)]
    split <;> rfl
theorem haPut_loop (n : Int) (l : List Int) (hl : l.length ≤ 1000000) : ∀ d i (acc : List Int), i + d = l.length → acc.length ≤ i → Ev (fun k => spec_haPut.l0 k n acc false l (l.length : Int) (i : Int)) (acc ++ hpL n (l.drop i)) := by
  intro d
  induction d with
  | zero =>
    intro i acc h ha
    refine ⟨1, fun k hk => ?_⟩
    obtain ⟨k, rfl⟩ : ∃ m, k = m + 1 := ⟨k - 1, by omega⟩
    simp only [spec_haPut.l0]
    rw [if_neg (by omega), List.drop_of_length_le (by omega)]
    simp [hpL]
  | succ d ih =>
    intro i acc h ha
    have hi : i < l.length := by omega
    have ex := List.getElem?_eq_getElem hi
    rw [List.drop_eq_getElem_cons hi]
    by_cases e : l[i] = n
    · have := haPut_done n l hl d (i + 1) (acc ++ [l[i]] ++ [l[i]]) (by omega) (by simp; omega)
      rw [show hpL n (l[i] :: l.drop (i + 1)) = l[i] :: l[i] :: l.drop (i + 1) by rw [hpL, if_pos e]]
      rw [List.append_assoc, List.append_assoc] at this
      refine Ev.step (fun k => ?_) this
      simp only [spec_haPut.l0, Option.bind_some, Bool.false_eq_true, ↓reduceIte]
      rw [if_pos (by omega), if_pos (by omega), if_pos (by omega), if_pos (by omega), rd_nat l i _ ex, if_pos e, if_pos (by simp; omega), wrap_succ (by omega), List.append_assoc]
    · have := ih (i + 1) (acc ++ [l[i]]) (by omega) (by simp; omega)
      rw [show hpL n (l[i] :: l.drop (i + 1)) = l[i] :: hpL n (l.drop (i + 1)) by rw [hpL, if_neg e]]
      rw [List.append_assoc] at this
      refine Ev.step (fun k => ?_) this
      simp only [spec_haPut.l0, Option.bind_some, Bool.false_eq_true, ↓reduceIte]
      rw [if_pos (by omega), if_pos (by omega), if_pos (by omega), if_pos (by omega), rd_nat l i _ ex, if_neg e, wrap_succ (by omega)]
theorem haPut_ev (n : Int) (l : List Int) (hl : l.length ≤ 1000000) : Ev (fun k => spec_haPut.f k l n) (hpL n l) := haPut_loop n l hl l.length 0 [] (by omega) (by simp)
theorem indexI_loop (l : List Int) (n : Int) (hl : l.length ≤ 1000000000) : ∀ d i, i + d = l.length → n ∉ l.take i → ∃ r, Ev (fun k => slices_Index_int.l0 k l n (l.length : Int) (i : Int)) r ∧ ((r = -1 ∧ n ∉ l) ∨ ∃ (j : Nat) (h : j < l.length), r = (j : Int) ∧ l[j] = n ∧ n ∉ l.take j) := by
  intro d
  induction d with
  | zero =>
    intro i h hn
    rw [List.take_of_length_le (by omega)] at hn
    refine ⟨-1, ⟨1, fun k hk => ?_⟩, .inl ⟨rfl, hn⟩⟩
    obtain ⟨k, rfl⟩ : ∃ m, k = m + 1 := ⟨k - 1, by omega⟩
    simp only [slices_Index_int.l0]
    rw [if_neg (by omega)]
  | succ d ih =>
    intro i h hn
    have hi : i < l.length := by omega
    have ex := List.getElem?_eq_getElem hi
    by_cases e : l[i] = n
    · refine ⟨(i : Int), Ev.step (f := fun _ => some (i : Int)) (fun k => ?_) (Ev.now _), .inr ⟨i, hi, rfl, e, hn⟩⟩
      simp only [slices_Index_int.l0]
      rw [if_pos (by omega), if_pos (by omega), if_pos (by omega), rd_nat l i _ ex, if_pos e.symm]
    · obtain ⟨r, h1, h2⟩ := ih (i + 1) (by omega) (by rw [take_snoc l i _ ex, List.mem_append]; rintro (c | c); exact hn c; exact e (List.mem_singleton.1 c).symm)
      refine ⟨r, Ev.step (fun k => ?_) h1, h2⟩
      simp only [slices_Index_int.l0]
      rw [if_pos (by omega), if_pos (by omega), if_pos (by omega), rd_nat l i _ ex, if_neg (fun h => e h.symm), wrap_succ (by omega)]
def putF : List Int → List Int → List Int
  | out, [] => out
  | out, n :: ds => putF (hpL n out) ds
theorem putF_length : ∀ ds out, (putF out ds).length ≤ out.length + ds.length
  | [], out => by simp [putF]
  | n :: ds, out => by
    have h1 := putF_length ds (hpL n out)
    have h2 := hpL_length n out
    rw [putF, List.length_cons]
    omega
theorem putL_ev : ∀ ds out, out.length + ds.length < 100000 → Ev (fun k => putL k out ds) (putF out ds)
  | [], out, _ => ev_const fun k => rfl
  | n :: ds, out, hl => by
    rw [List.length_cons] at hl
    obtain ⟨r, h1, h2⟩ := indexI_loop out n (by omega) out.length 0 (by omega) (by simp)
    have hh := hpL_length n out
    have ih := putL_ev ds (hpL n out) (by omega)
    refine Ev.bind (g := fun k => slices_Index_int.f k out n) h1 ?_
    rcases h2 with ⟨rfl, hn⟩ | ⟨j, hj, rfl, hx, hn⟩
    · refine Ev.congr (f := fun k => putL k out ds) (fun k => by rw [if_neg (by omega)]) ?_
      rw [hpL_none n out hn] at ih
      rw [putF, hpL_none n out hn]
      exact ih
    · have e : out.take j ++ n :: out.drop j = hpL n out := by
        have hd : out.drop j = n :: out.drop (j + 1) := by rw [List.drop_eq_getElem_cons hj, hx]
        have := hpL_at n (out.drop (j + 1)) (out.take j) hn
        rw [← hd, List.take_append_drop] at this
        rw [this, hd]
      refine Ev.congr (fun k => ?_) ih
      rw [if_pos (by omega), Int.toNat_natCast, if_pos ⟨hj, by omega⟩, e]
theorem dblT_filter (p : S67 → Bool) : ∀ l : List S67, dblT (l.filter p) = (dblT l).filter fun d => p ⟨d, d⟩
  | [] => rfl
  | x :: l => by
    have ih := dblT_filter p l
    by_cases e : x.f0 = x.f1
    · have hx : x = ⟨x.f0, x.f0⟩ := by rw [tile_ext]; exact ⟨rfl, e.symm⟩
      have hp : p x = p ⟨x.f0, x.f0⟩ := congrArg p hx
      rw [List.filter_cons, dblT_cons x l, if_pos e, List.filter_cons]
      simp only [← hp]
      by_cases c : p x = true
      · rw [if_pos c, if_pos c, dblT_cons, if_pos e, ih]
      · rw [if_neg c, if_neg c, ih]
    · rw [List.filter_cons, dblT_cons x l, if_neg e]
      by_cases c : p x = true
      · rw [if_pos c, dblT_cons, if_neg e, ih]
      · rw [if_neg c, ih]
def tenF (i d : Nat) : List Int := (List.range' i d).map fun (n : Nat) => ((n : Nat) : Int)
theorem dblT_set : dblT (setN 9) = tenF 0 10 := by decide +kernel
theorem put_loop (ch : List Int) (hch : ch.length ≤ 56) (hand : List S67) (hh : hand.length ≤ 55) : ∀ (d i : Nat) (out : List Int), i + d = 10 → out.length ≤ 56 + i → (∀ x, x ∈ out ↔ x ∈ ch) → Ev (fun k => spec_PutDoubles.l0 k ch hand out (i : Int)) (putF out ((tenF i d).filter fun n => decide ((⟨n, n⟩ : S67) ∈ hand) && (decide ((⟨n, n⟩ : S67) ∈ tilesT ch) == false)), true) := by
  intro d
  induction d with
  | zero =>
    intro i out h ho hm
    refine ⟨1, fun k hk => ?_⟩
    obtain ⟨k, rfl⟩ : ∃ m, k = m + 1 := ⟨k - 1, by omega⟩
    simp only [spec_PutDoubles.l0]
    rw [if_neg (by omega)]
    rfl
  | succ d ih =>
    intro i out h ho hm
    have hmk : mkT (i : Int) (i : Int) = ⟨(i : Int), (i : Int)⟩ := by unfold mkT; rw [if_neg (by omega)]
    have ht : tenF i (d + 1) = (i : Int) :: tenF (i + 1) d := by simp [tenF, List.range'_succ]
    have hpl1 := placeT_nonneg hand ⟨(i : Int), (i : Int)⟩
    have hpl2 := placeT_nonneg (tilesT ch) ⟨(i : Int), (i : Int)⟩
    have htl := tilesT_length ch
    have no := ih (i + 1) out (by omega) (by omega) hm
    have hp := hpL_length (i : Int) out
    have yes := ih (i + 1) (hpL (i : Int) out) (by omega) (by omega) (fun x => (hpL_mem _ x out).trans (hm x))
    rw [ht, List.filter_cons]
    have start : ∀ r, Ev (fun k => if placeT hand ⟨(i : Int), (i : Int)⟩ ≥ 0 then ((spec_haTiles.f k ch).bind fun t => (spec_tiPlace.f k t (i : Int) (i : Int)).bind fun u => if u < 0 then ((spec_l1Has.f k ch (i : Int)).bind fun v => if v = true then ((spec_haPut.f k out (i : Int)).bind fun z => spec_PutDoubles.l0 k ch hand z ((i + 1 : Nat) : Int)) else spec_PutDoubles.l0 k ch hand out ((i + 1 : Nat) : Int)) else spec_PutDoubles.l0 k ch hand out ((i + 1 : Nat) : Int)) else spec_PutDoubles.l0 k ch hand out ((i + 1 : Nat) : Int)) r → Ev (fun k => spec_PutDoubles.l0 k ch hand out (i : Int)) r := by
      intro r hr
      refine Ev.step (f := fun k => (spec_tiPlace.f k hand (i : Int) (i : Int)).bind fun p => if p ≥ 0 then ((spec_haTiles.f k ch).bind fun t => (spec_tiPlace.f k t (i : Int) (i : Int)).bind fun u => if u < 0 then ((spec_l1Has.f k ch (i : Int)).bind fun v => if v = true then ((spec_haPut.f k out (i : Int)).bind fun z => spec_PutDoubles.l0 k ch hand z ((i + 1 : Nat) : Int)) else spec_PutDoubles.l0 k ch hand out ((i + 1 : Nat) : Int)) else spec_PutDoubles.l0 k ch hand out ((i + 1 : Nat) : Int)) else spec_PutDoubles.l0 k ch hand out ((i + 1 : Nat) : Int)) (fun k => ?_) (Ev.bind (tiPlace_ev hand ⟨(i : Int), (i : Int)⟩ (by omega)) hr)
      simp only [spec_PutDoubles.l0]
      rw [if_pos (by omega), tiOf_some, hmk, Option.bind_some, wrap_succ (by omega)]
    by_cases c1 : (⟨(i : Int), (i : Int)⟩ : S67) ∈ hand
    · refine start _ (Ev.congr (fun k => by rw [if_pos (hpl1.2 c1)]) (Ev.bind (haTiles_ev ch (by omega)) (Ev.bind (tiPlace_ev (tilesT ch) ⟨(i : Int), (i : Int)⟩ (by omega)) ?_)))
      by_cases c2 : (⟨(i : Int), (i : Int)⟩ : S67) ∈ tilesT ch
      · rw [if_neg (by rw [decide_eq_true c1, decide_eq_true c2]; decide)]
        have := hpl2.2 c2
        exact Ev.congr (fun k => by rw [if_neg (by omega)]) no
      · rw [if_pos (by rw [decide_eq_true c1, decide_eq_false c2]; decide), putF]
        have hneg : placeT (tilesT ch) ⟨(i : Int), (i : Int)⟩ < 0 := by
          rcases Int.lt_or_le (placeT (tilesT ch) ⟨(i : Int), (i : Int)⟩) 0 with h | h
          · exact h
          · exact absurd (hpl2.1 h) c2
        refine Ev.congr (fun k => by rw [if_pos hneg]) (Ev.bind (hasI_ev ch (i : Int) (by omega)) ?_)
        by_cases c3 : (i : Int) ∈ ch
        · exact Ev.congr (fun k => by rw [if_pos (decide_eq_true c3)]) (Ev.bind (haPut_ev (i : Int) out (by omega)) yes)
        · rw [hpL_none (i : Int) out (fun c => c3 ((hm _).1 c))]
          exact Ev.congr (fun k => by rw [if_neg (by simpa using c3)]) no
    · rw [if_neg (by rw [decide_eq_false c1]; simp)]
      refine start _ (Ev.congr (fun k => by rw [if_neg (fun c => c1 (hpl1.1 c))]) no)
theorem PutDoubles_same (ch : List Int) (l : List S67) (hch : ch.length ≤ 1048576) : ∃ r, Ev (fun k => spec_PutDoubles.f k ch l) r ∧ Ev (fun k => impl_PutDoubles.f k ch l) r ∧ r.1.length ≤ 1048576 := by
  have h1 := haGood_ev ch (by omega)
  have h2 := IsChain_ev ch (by omega)
  have h3 := tiHand_ev l
  have h4 := IsHand_ev l
  have sbad : Ev (fun k => spec_PutDoubles.j0 k ch l true) ([], false) := ⟨1, fun k hk => by obtain ⟨k, rfl⟩ : ∃ m, k = m + 1 := ⟨k - 1, by omega⟩; simp only [spec_PutDoubles.j0, ↓reduceIte]⟩
  cases hc : chainB ch with
  | false =>
    rw [hc] at h1 h2
    exact ⟨([], false), bind_false h1 sbad, bind_false h2 (Ev.now _), by simp⟩
  | true =>
    rw [hc] at h1 h2
    have nc := chainB_len hc
    cases hd : handB l with
    | false =>
      rw [hd] at h3 h4
      exact ⟨([], false), bind_true h1 (Ev.bind (f := fun k t => spec_PutDoubles.j0 k ch l (!t)) h3 sbad), bind_true h2 (bind_false h4 (Ev.now _)), by simp⟩
    | true =>
      rw [hd] at h3 h4
      have na := handB_len hd
      have hs := sortN_length l
      have htl := tilesT_length ch
      have hless := less_ev (handB_good hd) (handB_nodup hd) (by omega) (tilesT ch) (by omega)
      have hfl := List.length_filter_le (fun t => decide (t ∈ tilesT ch) == false) (sortN l)
      have hdb := doubles_ev (l := (sortN l).filter fun t => decide (t ∈ tilesT ch) == false) (fun x hx => sortN_good l x (List.mem_filter.1 hx).1) ((sortN_nodup l).sublist List.filter_sublist) (by omega)
      have hds : dblT (sortN ((sortN l).filter fun t => decide (t ∈ tilesT ch) == false)) = (tenF 0 10).filter fun n => decide ((⟨n, n⟩ : S67) ∈ l) && (decide ((⟨n, n⟩ : S67) ∈ tilesT ch) == false) := by
        rw [sortN_filter]
        unfold sortN
        rw [List.filter_filter, dblT_filter, dblT_set]
        apply List.filter_congr
        intro x _
        cases decide ((⟨x, x⟩ : S67) ∈ l) <;> cases decide ((⟨x, x⟩ : S67) ∈ tilesT ch) <;> rfl
      rw [hds] at hdb
      have hloop := put_loop ch nc.2 l na 10 0 ch (by omega) (by omega) (fun x => Iff.rfl)
      generalize hD : ((tenF 0 10).filter fun n => decide ((⟨n, n⟩ : S67) ∈ l) && (decide ((⟨n, n⟩ : S67) ∈ tilesT ch) == false)) = ds at hdb hloop
      have hdl : ds.length ≤ 10 := by
        rw [← hD]
        exact Nat.le_trans (List.length_filter_le _ _) (by simp [tenF])
      have hpl := putF_length ds ch
      have hown : spec_l1Own.f ch = some ch := by
        unfold spec_l1Own.f
        simp only [List.length_nil, Nat.zero_add, Option.bind_some, List.nil_append]
        rw [if_pos (by omega)]
      refine ⟨(putF ch ds, true), bind_true h1 (Ev.bind (f := fun k t => spec_PutDoubles.j0 k ch l (!t)) h3 ?_), bind_true h2 (bind_true h4 ?_), by simp only; omega⟩
      · refine Ev.step (f := fun k => spec_PutDoubles.l0 k ch l ch 0) (fun k => ?_) hloop
        simp only [spec_PutDoubles.j0, Bool.not_true, Bool.false_eq_true, ↓reduceIte]
        rw [hown, Option.bind_some]
      · unfold impl_PutDoubles.g
        refine Ev.congr (fun k => by rw [if_pos (by omega)]) (Ev.bind (tilesOf_ev ch (by omega)) (Ev.bind hless (Ev.bind hdb (Ev.bind (f := fun _ r => some (r, true)) (putL_ev ds ch (by omega)) (Ev.now _)))))

end Go.Proofs.Ytdpimdaofikmjaa.Q
