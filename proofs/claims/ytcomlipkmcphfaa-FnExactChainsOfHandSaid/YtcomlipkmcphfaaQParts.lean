/- Plain lists and numbers: what the program's functions and the reference's compute. -/
import Derived.Test.YtcomlipkmcphfaaP0
import Derived.Test.YtcomlipkmcphfaaPIb
import Derived.Test.YtcomlipkmcphfaaPIf
import Derived.Test.YtcomlipkmcphfaaPIg4
import Derived.Test.YtcomlipkmcphfaaPIw
import Derived.Test.YtcomlipkmcphfaaPSb
import Derived.Test.YtcomlipkmcphfaaPSk
import Derived.Test.YtcomlipkmcphfaaPSk2
import Derived.Test.YtcomlipkmcphfaaQBaseF
import Derived.Test.YtcomlipkmcphfaaQBaseG
import Derived.Test.YtcomlipkmcphfaaQGrp
namespace Go.Proofs.Ytcomlipkmcphfaa.Q
open Go.RowKit Go.Proofs.Ytcomlipkmcphfaa.P Go.Proofs.YtcomlipkmcphfaaW.PrintWords Go.Proofs.YtcomlipkmcphfaaW.PrintLast Go.Proofs.YtcomlipkmcphfaaW.PrintMore
set_option linter.unusedVariables false
set_option linter.unusedSimpArgs false

/-- The tiles whose label is c, sorted. -/
def partBy (h : List S41) (lab : Int → Int) (c : Int) : List S41 := (sortN h).filter fun t => decide (lab t.f0 = c)
def partsL (h : List S41) (lab : Int → Int) (ns : List Int) : List (List S41) := (ns.filter fun c => h.any fun t => decide (lab t.f0 = c)).map (partBy h lab)
theorem label_tile {h : List S41} (hg : ∀ t ∈ h, goodT t = true) {y : S41} (hy : y ∈ h) {c : Int} (hL : IsLeast h y.f0 c) : ∃ z ∈ h, z.f0 = c ∧ IsLeast h z.f0 c := by
  rcases conn_touch hL.1 with e | ⟨_, t, ht, ht2⟩
  · exact ⟨y, hy, e, hL⟩
  · have g := (goodT_iff t).1 (hg t ht)
    have h01 : Conn h t.f0 t.f1 := .fwd t (.refl _) ht
    rcases ht2 with e | e
    · exact ⟨t, ht, e, by rw [e]; exact hL.self⟩
    · have hc0 : Conn h y.f0 t.f0 := hL.1.trans (by rw [← e]; exact h01.symm)
      have := hL.2.2 t.f0 (by omega) hc0
      have e0 : t.f0 = c := by omega
      exact ⟨t, ht, e0, by rw [e0]; exact hL.self⟩
theorem whParts_exact {h : List S41} (hg : ∀ t ∈ h, goodT t = true) {lab : Int → Int} (hlab : ∀ v, 0 ≤ v → v ≤ 9 → IsLeast h v (lab v)) : ∀ (d c : Nat) (acc : List (List S41)), c + d = 10 → acc.length ≤ c →
    Ev (fun k => spec_whParts.l0 k acc ((sortN h).filter fun t => decide ((c : Int) ≤ lab t.f0))) (acc ++ partsL h lab (upFrom c d)) := by
  have hms := mem_sortN hg
  have hlabt : ∀ t ∈ h, IsLeast h t.f0 (lab t.f0) ∧ 0 ≤ lab t.f0 ∧ lab t.f0 ≤ t.f0 ∧ t.f0 ≤ 9 := fun t ht => by
    have g := (goodT_iff t).1 (hg t ht)
    have hL := hlab t.f0 (by omega) (by omega)
    exact ⟨hL, hL.2.1, hL.2.2 t.f0 (by omega) (.refl _), by omega⟩
  intro d
  induction d with
  | zero =>
    intro c acc hc ha
    have : ((sortN h).filter fun t => decide ((c : Int) ≤ lab t.f0)) = [] := by
      rw [List.filter_eq_nil_iff]
      intro t ht
      have := hlabt t ((hms t).1 ht)
      rw [decide_eq_true_eq]; omega
    rw [this]
    refine ⟨1, fun k hk => ?_⟩
    obtain ⟨k, rfl⟩ : ∃ m, k = m + 1 := ⟨k - 1, by omega⟩
    simp only [spec_whParts.l0]
    rw [if_neg (by simp)]
    simp [partsL, upFrom]
  | succ d ih =>
    intro c acc hc ha
    have hup : upFrom c (d + 1) = (c : Int) :: upFrom (c + 1) d := rfl
    by_cases hex : ∃ y ∈ h, lab y.f0 = (c : Int)
    · obtain ⟨y, hy, hyc⟩ := hex
      obtain ⟨z, hz, hzc, hzL⟩ := label_tile hg hy (by rw [← hyc]; exact (hlabt y hy).1 : IsLeast h y.f0 (c : Int))
      have hzlab : lab z.f0 = (c : Int) := (hlabt z hz).1.eq hzL
      obtain ⟨left, hleft⟩ : ∃ l, l = (sortN h).filter fun t => decide ((c : Int) ≤ lab t.f0) := ⟨_, rfl⟩
      rw [← hleft]
      have hzl : z ∈ left := by rw [hleft]; exact List.mem_filter.2 ⟨(hms z).2 hz, decide_eq_true (by omega)⟩
      have hsub : ∀ t ∈ left, t ∈ h ∧ (c : Int) ≤ lab t.f0 := fun t ht => by
        rw [hleft] at ht
        have := List.mem_filter.1 ht
        exact ⟨(hms t).1 this.1, of_decide_eq_true this.2⟩
      have hsorted : left.Pairwise fun a b => leT a b = true := by rw [hleft]; exact (sortN_sorted h).sublist List.filter_sublist
      have hnodup : left.Nodup := by rw [hleft]; exact (sortN_nodup h).sublist List.filter_sublist
      have hll : left.length ≤ 55 := by rw [hleft]; exact Nat.le_trans (List.length_filter_le _ _) (sortN_length h)
      obtain ⟨x, rest, hxr⟩ : ∃ x rest, left = x :: rest := by
        cases left with
        | nil => cases hzl
        | cons x rest => exact ⟨x, rest, rfl⟩
      have hx := hsub x (by rw [hxr]; exact List.mem_cons_self)
      have hxl := hlabt x hx.1
      have hxz : x.f0 ≤ z.f0 := by
        rw [hxr] at hzl hsorted
        rcases List.mem_cons.1 hzl with e | e
        · rw [e]; exact Int.le_refl _
        · have := (List.pairwise_cons.1 hsorted).1 z e
          rw [leT_iff] at this; omega
      have hxc : x.f0 = (c : Int) := by omega
      have hlg : ∀ t ∈ left, goodT t = true := fun t ht => hg t (hsub t ht).1
      have hself : sortN left = left := sortN_self hlg hsorted hnodup
      obtain ⟨R, hR1, hR2⟩ := whPart_ev hlg (by omega) (n := x.f0) (by omega)
      rw [hself] at hR2
      -- what hangs together with c within what is left is what bears its label
      have hconn : ∀ u v, Conn h u v → 0 ≤ u → u ≤ 9 → lab u = (c : Int) → Conn left u v := by
        intro u v k
        induction k with
        | refl => intro _ _ _; exact .refl _
        | fwd t k ht ih =>
          intro a b e
          have hcl : lab t.f0 = (c : Int) := by
            have h1 := (hlab _ a b).move k
            rw [e] at h1
            exact (hlabt t ht).1.eq h1
          exact .fwd t (ih a b e) (by rw [hleft]; exact List.mem_filter.2 ⟨(hms t).2 ht, decide_eq_true (by omega)⟩)
        | bwd t k ht ih =>
          intro a b e
          have hcl : lab t.f0 = (c : Int) := by
            have h1 := ((hlab _ a b).move k).move (.bwd t (.refl _) ht)
            rw [e] at h1
            exact (hlabt t ht).1.eq h1
          exact .bwd t (ih a b e) (by rw [hleft]; exact List.mem_filter.2 ⟨(hms t).2 ht, decide_eq_true (by omega)⟩)
      have hpart : (left.filter fun t => decide (t.f0 ∈ R)) = partBy h lab (c : Int) := by
        unfold partBy
        rw [hleft, List.filter_filter]
        apply List.filter_congr
        intro t ht
        have hth := (hms t).1 ht
        have hL := hlabt t hth
        by_cases e : lab t.f0 = (c : Int)
        · rw [decide_eq_true e, decide_eq_true (show (c : Int) ≤ lab t.f0 by omega), Bool.and_true]
          rw [decide_eq_true_eq, hR1, hxc]
          have h1 : Conn h t.f0 (c : Int) := by rw [← e]; exact hL.1.1
          exact (hconn t.f0 (c : Int) h1 (by omega) (by omega) e).symm
        · rw [decide_eq_false e]
          rw [Bool.and_eq_false_iff]
          by_cases e2 : t.f0 ∈ R
          · exfalso
            have h1 := (hR1 _).1 e2
            rw [hxc] at h1
            have h2 : Conn h (c : Int) t.f0 := h1.congr fun q hq => (hsub q hq).1
            exact e (hL.1.eq (hzL.move (by rw [hzc]; exact h2)))
          · exact .inl (decide_eq_false e2)
      rw [hpart] at hR2
      obtain ⟨part, hpt⟩ : ∃ p, p = partBy h lab (c : Int) := ⟨_, rfl⟩
      rw [← hpt] at hR2
      have hpl : part.length ≤ 55 := by rw [hpt]; exact Nat.le_trans (List.length_filter_le _ _) (sortN_length h)
      have hth := tiThose_ev left part false (by omega) (by omega)
      rw [hself] at hth
      have hrest : (left.filter fun t => decide (t ∈ part) == false) = (sortN h).filter fun t => decide (((c + 1 : Nat) : Int) ≤ lab t.f0) := by
        rw [hleft, List.filter_filter]
        apply List.filter_congr
        intro t ht
        rw [Bool.eq_iff_iff, Bool.and_eq_true, beq_iff_eq, decide_eq_false_iff_not, decide_eq_true_eq, decide_eq_true_eq, hpt]
        unfold partBy
        rw [List.mem_filter, decide_eq_true_eq]
        constructor
        · rintro ⟨a, b⟩
          have : ¬ lab t.f0 = (c : Int) := fun e => a ⟨ht, e⟩
          omega
        · intro a
          exact ⟨fun e => by have := e.2; omega, by omega⟩
      rw [hrest] at hth
      have next := ih (c + 1) (acc ++ [part]) (by omega) (by rw [List.length_append, List.length_singleton]; omega)
      have hp : partsL h lab (upFrom c (d + 1)) = part :: partsL h lab (upFrom (c + 1) d) := by
        unfold partsL
        rw [hup, List.filter_cons, if_pos (List.any_eq_true.2 ⟨y, hy, decide_eq_true hyc⟩), List.map_cons, hpt]
      rw [hp]
      rw [List.append_assoc, List.singleton_append] at next
      have r0 : rd_T41 left 0 = x := by rw [hxr]; exact rdT_nat _ 0 _ rfl
      have hlp : (left.length : Int) > 0 := by rw [hxr]; simp
      refine Ev.step (f := fun k => (spec_whPart.f k left x.f0).bind fun p => if acc.length < 5864062014805 then ((spec_tiThose.f k left p false).bind fun q => spec_whParts.l0 k (acc ++ [p]) q) else none) (fun k => ?_) (Ev.bind hR2 (Ev.congr (fun k => by rw [if_pos (by omega)]) (Ev.bind hth next)))
      simp only [spec_whParts.l0]
      rw [if_pos hlp, if_pos (by omega), r0]
    · have he : ((sortN h).filter fun t => decide ((c : Int) ≤ lab t.f0)) = (sortN h).filter fun t => decide (((c + 1 : Nat) : Int) ≤ lab t.f0) := by
        apply List.filter_congr
        intro t ht
        rw [decide_eq_decide]
        have : ¬ lab t.f0 = (c : Int) := fun e => hex ⟨t, (hms t).1 ht, e⟩
        omega
      have hp : partsL h lab (upFrom c (d + 1)) = partsL h lab (upFrom (c + 1) d) := by
        unfold partsL
        rw [hup, List.filter_cons, if_neg]
        intro e
        obtain ⟨y, hy, h2⟩ := List.any_eq_true.1 e
        exact hex ⟨y, hy, of_decide_eq_true h2⟩
      rw [he, hp]
      exact ih (c + 1) acc (by omega) (by omega)
theorem whParts_is {h : List S41} (hg : ∀ t ∈ h, goodT t = true) (hl : h.length ≤ 1000000) {lab : Int → Int} (hlab : ∀ v, 0 ≤ v → v ≤ 9 → IsLeast h v (lab v)) : Ev (fun k => spec_whParts.f k h) (partsL h lab (upFrom 0 10)) := by
  have := whParts_exact hg hlab 10 0 [] (by omega) (by simp)
  rw [List.nil_append] at this
  have he : ((sortN h).filter fun t => decide (((0 : Nat) : Int) ≤ lab t.f0)) = sortN h := by
    rw [List.filter_eq_self]
    intro t ht
    have g := (goodT_iff t).1 (sortN_good h t ht)
    have := (hlab t.f0 (by omega) (by omega)).2.1
    rw [decide_eq_true_eq]; exact this
  rw [he] at this
  exact Ev.bind (tiSort_ev h (by omega)) this
theorem part_groups {h : List S41} (hg : ∀ t ∈ h, goodT t = true) (hn : h.Nodup) (l : List Int) : ∀ ns : List Int, (groupsP l (numsT h) ns).map (partOf h) = (((ns.filter fun c => (numsT h).any fun n => decide (rd l n = c)).map (partBy h (rd l))))
  | [] => rfl
  | c :: ns => by
    have ih := part_groups hg hn l ns
    unfold groupsP at ih ⊢
    rw [List.map_cons, List.filter_cons, List.filter_cons]
    have e : (!((numsT h).filter fun n => decide (rd l n = c)).isEmpty) = (numsT h).any fun n => decide (rd l n = c) := by
      rw [Bool.eq_iff_iff]
      simp only [Bool.not_eq_true', List.isEmpty_eq_false_iff, ne_eq, List.filter_eq_nil_iff, decide_eq_true_eq, Classical.not_forall, Classical.not_not, List.any_eq_true]
      constructor
      · rintro ⟨x, hx, h2⟩; exact ⟨x, hx, h2⟩
      · rintro ⟨x, hx, h2⟩; exact ⟨x, hx, h2⟩
    rw [e]
    by_cases hc : ((numsT h).any fun n => decide (rd l n = c)) = true
    · rw [if_pos hc, if_pos hc, List.map_cons, List.map_cons, ih]
      congr 1
      unfold partOf partBy
      rw [mergeSort_eq hg hn]
      apply List.filter_congr
      intro t ht
      have hth := (mem_sortN hg t).1 ht
      rw [decide_eq_decide, List.mem_filter, decide_eq_true_eq]
      exact ⟨fun k => k.2, fun k => ⟨(mem_numsT hg _).2 ⟨t, hth, .inl rfl⟩, k⟩⟩
    · rw [if_neg hc, if_neg hc, ih]
theorem any_tiles {h : List S41} (hg : ∀ t ∈ h, goodT t = true) {lab : Int → Int} (hlab : ∀ v, 0 ≤ v → v ≤ 9 → IsLeast h v (lab v)) (c : Int) : ((numsT h).any fun n => decide (lab n = c)) = h.any fun t => decide (lab t.f0 = c) := by
  rw [Bool.eq_iff_iff, List.any_eq_true, List.any_eq_true]
  constructor
  · rintro ⟨n, hn, h2⟩
    have h2 := of_decide_eq_true h2
    obtain ⟨t, ht, e⟩ := (mem_numsT hg n).1 hn
    have g := (goodT_iff t).1 (hg t ht)
    refine ⟨t, ht, decide_eq_true ?_⟩
    rcases e with e | e
    · rw [e]; exact h2
    · have h1 := (hlab t.f0 (by omega) (by omega)).move (.fwd t (.refl _) ht)
      rw [e] at h1
      rw [← h2]
      exact h1.eq (hlab n (by omega) (by omega))
  · rintro ⟨t, ht, h2⟩
    exact ⟨t.f0, (mem_numsT hg _).2 ⟨t, ht, .inl rfl⟩, h2⟩
theorem containsI_ev (l : List Int) (n : Int) (hl : l.length ≤ 1000000) : Ev (fun k => slices_Contains_int.f k l n) (decide (n ∈ l)) := by
  have idx : ∀ d i, i + d = l.length → (∀ j, j < i → ∀ x, l[j]? = some x → x ≠ n) → Ev (fun k => slices_Index_int.l0 k l n (l.length : Int) (i : Int)) (if n ∈ l then ((l.idxOf n : Nat) : Int) else -1) := by
    intro d
    induction d with
    | zero =>
      intro i hi hb
      have hno : n ∉ l := fun hm => by
        obtain ⟨j, hj⟩ := List.getElem?_of_mem hm
        exact hb j (by have := (List.getElem?_eq_some_iff.1 hj).1; omega) n hj rfl
      refine ⟨1, fun k hk => ?_⟩
      obtain ⟨k, rfl⟩ : ∃ m, k = m + 1 := ⟨k - 1, by omega⟩
      simp only [slices_Index_int.l0]
      rw [if_neg (by omega), if_neg hno]
    | succ d ih =>
      intro i hi hb
      obtain ⟨x, hx⟩ : ∃ x, l[i]? = some x := ⟨_, List.getElem?_eq_getElem (by omega)⟩
      have hrd : rd l (i : Int) = x := rd_nat l i x hx
      by_cases e : n = x
      · subst e
        have hm : n ∈ l := List.mem_of_getElem? hx
        have hidx : l.idxOf n = i := by
          have hil := (List.getElem?_eq_some_iff.1 hx).1
          rcases Nat.lt_trichotomy (l.idxOf n) i with c | c | c
          · have h1 := List.idxOf_lt_length_of_mem hm
            have := hb _ c (l[l.idxOf n]'h1) (List.getElem?_eq_getElem h1)
            exact absurd (List.getElem_idxOf h1) this
          · exact c
          · have := List.not_of_lt_findIdx (p := (· == n)) (xs := l) (i := i) (by simpa [List.idxOf] using c)
            rw [(List.getElem?_eq_some_iff.1 hx).2] at this
            simp at this
        refine ⟨1, fun k hk => ?_⟩
        obtain ⟨k, rfl⟩ : ∃ m, k = m + 1 := ⟨k - 1, by omega⟩
        simp only [slices_Index_int.l0]
        rw [if_pos (by omega), if_pos (by omega), if_pos (by omega), hrd, if_pos rfl, if_pos hm, hidx]
      · have next := ih (i + 1) (by omega) (fun j hj y hy => by
          by_cases c : j = i
          · subst c; rw [hx] at hy; cases hy; exact fun h => e h.symm
          · exact hb j (by omega) y hy)
        refine Ev.step (fun k => ?_) next
        simp only [slices_Index_int.l0]
        rw [if_pos (by omega), if_pos (by omega), if_pos (by omega), hrd, if_neg e, wrap_succ (by omega)]
  have h0 := idx l.length 0 (by omega) (fun j hj => absurd hj (Nat.not_lt_zero _))
  have hI : Ev (fun k => slices_Index_int.f k l n) (if n ∈ l then ((l.idxOf n : Nat) : Int) else -1) := h0
  refine Ev.bind hI (ev_const fun k => ?_)
  by_cases c : n ∈ l
  · rw [if_pos c, decide_eq_true c]; simp
  · rw [if_neg c, decide_eq_false c]; rfl
theorem upto_ev {α : Type} (P : α → Nat → Prop) (l : List α) (h : ∀ x ∈ l, ∃ K, ∀ k, K ≤ k → P x k) : ∃ K, ∀ k, K ≤ k → ∀ x ∈ l, P x k := by
  induction l with
  | nil => exact ⟨0, fun k _ x hx => by cases hx⟩
  | cons y l ih =>
    obtain ⟨K1, h1⟩ := h y List.mem_cons_self
    obtain ⟨K2, h2⟩ := ih fun x hx => h x (List.mem_cons_of_mem _ hx)
    refine ⟨K1 + K2, fun k hk x hx => ?_⟩
    rcases List.mem_cons.1 hx with e | e
    · rw [e]; exact h1 k (by omega)
    · exact h2 k (by omega) x e
theorem parts_ev {h : List S41} (hg : ∀ t ∈ h, goodT t = true) (hn : h.Nodup) (hl : h.length ≤ 55) : Ev (fun k => impl_parts.f k h) (partsL h (rd (roundsN h h.length (upI 0 10))) (upFrom 0 10)) := by
  have hup : upI 0 10 = [0, 1, 2, 3, 4, 5, 6, 7, 8, 9] := rfl
  have hlab : ∀ v, 0 ≤ v → v ≤ 9 → IsLeast h v (rd (roundsN h h.length (upI 0 10)) v) := by
    intro v h0 h9
    rw [roundsN_L, hup]
    exact groups_least hg v h0 h9
  have hgr := groups_ev hg hl
  have hsm := groups_small (roundsN h h.length (upI 0 10)) h
  have hpg := part_groups hg hn (roundsN h h.length (upI 0 10)) (upI 0 10)
  have e : partsL h (rd (roundsN h h.length (upI 0 10))) (upFrom 0 10) = (groupsN (roundsN h h.length (upI 0 10)) (numsT h)).map (partOf h) := by
    unfold groupsN partsL
    rw [hpg, upI_from]
    congr 1
    apply List.filter_congr
    intro c _
    rw [← any_tiles hg (lab := rd (roundsN h h.length (upFrom 0 10))) (by rw [← upI_from]; exact hlab) c]
  rw [e]
  obtain ⟨K1, hK1⟩ := upto_ev (fun g k => ∀ x ∈ h, slices_Contains_int.f k g x.f0 = some (decide (x.f0 ∈ g))) (groupsN (roundsN h h.length (upI 0 10)) (numsT h)) (fun g hgm => upto_ev (fun x k => slices_Contains_int.f k g x.f0 = some (decide (x.f0 ∈ g))) h (fun x _ => by
    obtain ⟨K, hK⟩ := containsI_ev g x.f0 (by have := hsm.2 g hgm; omega)
    exact ⟨K, fun k hk => hK k hk⟩))
  refine Ev.bind hgr ⟨K1, fun k hk => ?_⟩
  exact if_pos ⟨by omega, fun x hx => good_in (hg x hx), hsm.1, hK1 k hk⟩

end Go.Proofs.Ytcomlipkmcphfaa.Q
