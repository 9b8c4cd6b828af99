/- Plain lists and numbers: what the program's functions and the reference's compute. -/
import Derived.Test.YtnooegfhffhfpaaP0
import Derived.Test.YtnooegfhffhfpaaPIb
import Derived.Test.YtnooegfhffhfpaaPSa
import Derived.Test.YtnooegfhffhfpaaPSb
import Derived.Test.YtnooegfhffhfpaaPSc
import Derived.Test.YtnooegfhffhfpaaPSk
import Derived.Test.YtnooegfhffhfpaaPSl
import Derived.Test.YtnooegfhffhfpaaQBaseF
import Derived.Test.YtnooegfhffhfpaaQBaseG
import Derived.Test.YtnooegfhffhfpaaQBaseH
import Derived.Test.YtnooegfhffhfpaaQFleury
namespace Go.Proofs.Ytnooegfhffhfpaa.Q
open Go.RowKit Go.Proofs.Ytnooegfhffhfpaa.P Go.Proofs.YtnooegfhffhfpaaW.PrintWords Go.Proofs.YtnooegfhffhfpaaW.PrintLast Go.Proofs.YtnooegfhffhfpaaW.PrintMore
set_option linter.unusedVariables false
set_option linter.unusedSimpArgs false

theorem from_one {h : List S39} (hne : h ≠ []) (m : Int) : From h m ↔ OneC h ∧ InT h m := by
  unfold From
  constructor
  · intro H
    obtain ⟨h1, h2⟩ := H.resolve_left hne
    exact ⟨fun t ht u hu => (h2 t ht).symm.trans (h2 u hu), h1⟩
  · rintro ⟨h1, h2⟩
    refine .inr ⟨h2, fun t ht => ?_⟩
    obtain ⟨u, hu, e⟩ := h2
    have c : Conn h m u.f0 := by
      rcases e with e | e
      · rw [← e]; exact .refl _
      · rw [← e]; exact .bwd u (.refl _) hu
    exact c.trans (h1 u hu t ht)
/-! ### the same tiles in another order -/
def Same (a b : List S39) : Prop := a.Nodup ∧ b.Nodup ∧ ∀ t, t ∈ a ↔ t ∈ b
theorem Same.perm {a b : List S39} (h : Same a b) : a.Perm b := (List.perm_ext_iff_of_nodup h.1 h.2.1).2 h.2.2
theorem timesT_perm {a b : List S39} (h : a.Perm b) (v : Int) : timesT a v = timesT b v := by
  induction h with
  | nil => rfl
  | cons x _ ih => simp only [timesT]; omega
  | swap x y l => simp only [timesT]; omega
  | trans _ _ ih1 ih2 => omega
theorem Same.odd {a b : List S39} (h : Same a b) : oddT a = oddT b := by
  unfold oddT
  apply List.filter_congr
  intro n _
  rw [timesT_perm h.perm]
theorem Same.nil {a b : List S39} (h : Same a b) : a = [] ↔ b = [] := by
  have := h.perm.length_eq
  rw [← List.length_eq_zero_iff, ← List.length_eq_zero_iff, this]
theorem Same.from_ {a b : List S39} (h : Same a b) (n : Int) : From a n ↔ From b n := by
  have one : ∀ {a b : List S39}, Same a b → From a n → From b n := by
    intro a b h hf
    rcases hf with e | ⟨⟨t, ht, e⟩, h2⟩
    · exact .inl (h.nil.1 e)
    · exact .inr ⟨⟨t, (h.2.2 t).1 ht, e⟩, fun u hu => (h2 u ((h.2.2 u).2 hu)).congr fun x hx => (h.2.2 x).1 hx⟩
  exact ⟨one h, one ⟨h.2.1, h.1, fun t => (h.2.2 t).symm⟩⟩
theorem Same.good {a b : List S39} (h : Same a b) (hg : ∀ t ∈ a, goodT t = true) : ∀ t ∈ b, goodT t = true := fun t ht => hg t ((h.2.2 t).2 ht)
/-- What the reference leaves of a hand without a tile. -/
def withoutT (h : List S39) (t : S39) : List S39 := (sortN h).filter fun x => decide (x ∈ [t]) == false
theorem Same.without {a b : List S39} (h : Same a b) (hg : ∀ t ∈ a, goodT t = true) (t : S39) : Same (a.erase t) (withoutT b t) := by
  refine ⟨h.1.erase t, (sortN_nodup b).filter _, fun x => ?_⟩
  unfold withoutT
  rw [h.1.mem_erase_iff, List.mem_filter, mem_sortN (h.good hg), h.2.2 x]
  simp
  exact ⟨fun c => ⟨c.2, c.1⟩, fun c => ⟨c.2, c.1⟩⟩
theorem whWithout_ev (h : List S39) (a b : Int) (hl : h.length ≤ 1000000000) : Ev (fun k => spec_whWithout.f k h a b) (withoutT h (mkT a b)) := by
  refine Ev.congr (f := fun k => (spec_tiThose.f k h [mkT a b] false).bind fun t => some t) (fun k => ?_) (Ev.bind (tiThose_ev h [mkT a b] false hl (by simp)) (Ev.now _))
  unfold spec_whWithout.f
  rw [tiOf_some, Option.bind_some]
def Odd2 (h : List S39) (n : Int) : Prop := (oddT h).length = 0 ∨ ((oddT h).length = 2 ∧ n ∈ oddT h)
theorem sortN_len {h : List S39} (hg : ∀ t ∈ h, goodT t = true) (hn : h.Nodup) : (sortN h).length = h.length := by
  rw [← mergeSort_eq hg hn, List.length_mergeSort]
theorem whFrom_ev {h : List S39} (hg : ∀ t ∈ h, goodT t = true) (hn : h.Nodup) (hl : h.length ≤ 55) {n : Int} (h09 : 0 ≤ n ∧ n ≤ 9) : ∃ b : Bool, (b = true ↔ h = [] ∨ (From h n ∧ Odd2 h n)) ∧ Ev (fun k => spec_whFrom.f k h n) b := by
  by_cases hz : h = []
  · refine ⟨true, ⟨fun _ => .inl hz, fun _ => rfl⟩, ev_const fun k => ?_⟩
    unfold spec_whFrom.f
    rw [if_pos (by rw [hz]; rfl)]
  have hlen : ¬ (h.length : Int) = 0 := by have := List.length_pos_iff.2 hz; omega
  obtain ⟨R, hR, ep⟩ := whPart_ev hg (by omega) h09
  have eo := whOdd_ev h (by omega)
  have ol := oddT_len h
  have hfrom : ((((sortN h).filter fun t => decide (t.f0 ∈ R)).length : Int) = (h.length : Int)) ↔ From h n := by
    rw [show ((((sortN h).filter fun t => decide (t.f0 ∈ R)).length : Int) = (h.length : Int)) ↔ ((sortN h).filter fun t => decide (t.f0 ∈ R)).length = (sortN h).length by rw [sortN_len hg hn]; omega, List.length_filter_eq_length_iff]
    constructor
    · intro H
      have hall : ∀ t ∈ h, Conn h n t.f0 := fun t ht => (hR _).1 (by simpa using H t ((mem_sortN hg t).2 ht))
      obtain ⟨t, ht⟩ := List.exists_mem_of_ne_nil _ hz
      refine .inr ⟨?_, hall⟩
      rcases conn_nums (hall t ht) with e | e
      · exact ⟨t, ht, .inl e.symm⟩
      · exact e
    · intro H t ht
      simpa using (hR _).2 ((H.resolve_left hz).2 t ((mem_sortN hg t).1 ht))
  refine ⟨decide ((((sortN h).filter fun t => decide (t.f0 ∈ R)).length : Int) = (h.length : Int)) && (decide ((oddT h).length = 0) || (decide ((oddT h).length = 2) && decide (n ∈ oddT h))), ?_, ?_⟩
  · rw [Bool.and_eq_true, decide_eq_true_eq, hfrom, Bool.or_eq_true, decide_eq_true_eq, Bool.and_eq_true, decide_eq_true_eq, decide_eq_true_eq]
    exact ⟨fun c => .inr c, fun c => c.resolve_left hz⟩
  · refine Ev.congr (f := fun k => (spec_whOdd.f k h).bind fun o => (spec_whPart.f k h n).bind fun p => if (p.length : Int) = (h.length : Int) then (if (o.length : Int) = 0 then some true else if (o.length : Int) = 2 then (spec_l1Has.f k o n).bind fun t => some t else some false) else some false) (fun k => by unfold spec_whFrom.f; rw [if_neg hlen]) (Ev.bind eo (Ev.bind ep ?_))
    by_cases c : ((((sortN h).filter fun t => decide (t.f0 ∈ R)).length : Int) = (h.length : Int))
    · simp only [c, decide_true, Bool.true_and, if_true]
      by_cases c0 : (oddT h).length = 0
      · exact ev_const fun k => by rw [if_pos (by omega), decide_eq_true c0]; rfl
      · by_cases c2 : (oddT h).length = 2
        · refine Ev.congr (f := fun k => (spec_l1Has.f k (oddT h) n).bind fun t => some t) (fun k => by rw [if_neg (by omega), if_pos (by omega)]) ?_
          rw [decide_eq_false c0, decide_eq_true c2, Bool.false_or, Bool.true_and]
          exact Ev.bind (hasI_ev (oddT h) n (by omega)) (Ev.now _)
        · exact ev_const fun k => by rw [if_neg (by omega), if_neg (by omega), decide_eq_false c0, decide_eq_false c2]; rfl
    · refine ev_const fun k => ?_
      rw [if_neg c, decide_eq_false c]; rfl
theorem times_out {h : List S39} (hg : ∀ t ∈ h, goodT t = true) {v : Int} (hv : ¬ (0 ≤ v ∧ v ≤ 9)) : timesT h v = 0 := by
  have hb := timesT_bd h v
  by_cases c : timesT h v > 0
  · obtain ⟨t, ht, e⟩ := (times_pos h v).1 c
    have g := (goodT_iff t).1 (hg t ht)
    omega
  · omega
theorem mem_oddT (h : List S39) (v : Int) : v ∈ oddT h ↔ (0 ≤ v ∧ v ≤ 9) ∧ timesT h v % 2 = 1 := by
  unfold oddT
  rw [List.mem_filter, mem_upFrom, decide_eq_true_eq]
  constructor
  · rintro ⟨a, b⟩; exact ⟨by omega, b⟩
  · rintro ⟨a, b⟩; exact ⟨by omega, b⟩
theorem oddT_nodup (h : List S39) : (oddT h).Nodup := (upFrom_nodup 10 0).filter _
theorem par_odd {h : List S39} {n x : Int} (hP : Par h n x) (hn : 0 ≤ n ∧ n ≤ 9) (hx : 0 ≤ x ∧ x ≤ 9) : Odd2 h n := by
  have hnd := oddT_nodup h
  by_cases e : n = x
  · subst e
    left
    cases hc : oddT h with
    | nil => rfl
    | cons a l =>
      have : a ∈ oddT h := by rw [hc]; exact List.mem_cons_self
      have h1 := ((mem_oddT h a).1 this).2
      have h2 := hP a
      split at h2 <;> omega
  · right
    have mn_ : n ∈ oddT h := (mem_oddT h n).2 ⟨hn, by have := hP n; rw [if_pos rfl, if_neg (fun c => e c.symm)] at this; omega⟩
    have mx_ : x ∈ oddT h := (mem_oddT h x).2 ⟨hx, by have := hP x; rw [if_neg e, if_pos rfl] at this; omega⟩
    have hsub : ∀ v ∈ oddT h, v ∈ [n, x] := by
      intro v hv
      have h1 := ((mem_oddT h v).1 hv).2
      have h2 := hP v
      by_cases c1 : n = v
      · simp [c1]
      · by_cases c2 : x = v
        · simp [c2]
        · rw [if_neg c1, if_neg c2] at h2; omega
    have l1 := nodup_leI _ _ hnd hsub
    have l2 := nodup_leI [n, x] (oddT h) (by simp [e]) (fun v hv => by
      rcases List.mem_cons.1 hv with c | c
      · rw [c]; exact mn_
      · rw [List.mem_singleton.1 c]; exact mx_)
    exact ⟨by simp at l1 l2; omega, mn_⟩
theorem same_odd2 {a b : List S39} (h : Same a b) {n : Int} : Odd2 a n ↔ Odd2 b n := by unfold Odd2; rw [h.odd]

end Go.Proofs.Ytnooegfhffhfpaa.Q
