/- Plain lists and numbers: what the program's functions and the reference's compute. -/
import Derived.Test.YtfkohligcikfbaaP0
import Derived.Test.YtfkohligcikfbaaPFGroupsOf
import Derived.Test.YtfkohligcikfbaaPIb
import Derived.Test.YtfkohligcikfbaaPSa
import Derived.Test.YtfkohligcikfbaaPSc
import Derived.Test.YtfkohligcikfbaaPimplgroups
import Derived.Test.YtfkohligcikfbaaPspechaGroups
import Derived.Test.YtfkohligcikfbaaQBaseF
namespace Go.Proofs.Ytfkohligcikfbaa.Q
open Go.RowKit Go.Proofs.Ytfkohligcikfbaa.P Go.Proofs.YtfkohligcikfbaaW.PrintWords Go.Proofs.YtfkohligcikfbaaW.PrintLast Go.Proofs.YtfkohligcikfbaaW.PrintMore
set_option linter.unusedVariables false
set_option linter.unusedSimpArgs false

def L10 : List Int := [0, 1, 2, 3, 4, 5, 6, 7, 8, 9]
theorem L10_upTo (j : Nat) (h : j < 10) : L10[j]? = some (j : Int) := by
  have : j = 0 ∨ j = 1 ∨ j = 2 ∨ j = 3 ∨ j = 4 ∨ j = 5 ∨ j = 6 ∨ j = 7 ∨ j = 8 ∨ j = 9 := by omega
  rcases this with rfl | rfl | rfl | rfl | rfl | rfl | rfl | rfl | rfl | rfl <;> rfl
theorem haG_l0 (h : List S49) (r : List (List Int)) (hr : Ev (fun k => spec_haGroups.l1 k h L10 true) r) : ∀ (d i : Nat) (l : List Int), i + d = 10 → l.length = 10 → (∀ j : Nat, j < i → l[j]? = some (j : Int)) → Ev (fun k => spec_haGroups.l0 k h l 10 (i : Int)) r := by
  intro d
  induction d with
  | zero =>
    intro i l hi hl hp
    have : l = L10 := by
      apply List.ext_getElem?
      intro j
      by_cases hj : j < 10
      · rw [hp j (by omega), L10_upTo j hj]
      · rw [List.getElem?_eq_none (by omega), List.getElem?_eq_none (by show 10 ≤ j; omega)]
    subst this
    refine Ev.step (fun k => ?_) hr
    simp only [spec_haGroups.l0]
    rw [if_neg (by omega)]
  | succ d ih =>
    intro i l hi hl hp
    have next := ih (i + 1) (l.set i (i : Int)) (by omega) (by simp [hl]) (fun j hj => by
      by_cases e : j = i
      · subst e; rw [List.getElem?_set_self (by omega)]
      · rw [List.getElem?_set_ne (by omega)]; exact hp j (by omega))
    refine Ev.step (fun k => ?_) next
    simp only [spec_haGroups.l0]
    rw [if_pos (by omega), if_pos (by omega), if_pos (by omega), Int.toNat_natCast, wrap_succ (by omega)]
theorem least_f (a b : Int) : spec_l1Least.f a b = some (min a b) := by
  unfold spec_l1Least.f
  by_cases c : a < b
  · rw [if_pos c, Int.min_eq_left (by omega)]
  · rw [if_neg c, Int.min_eq_right (by omega)]
def stepOne (l : List Int) (c : Bool) (x m : Int) : List Int × Bool := if val l x > m then (l.set x.toNat m, true) else (l, c)
theorem haG_l3 (h : List S49) (l : List Int) (hl : l.length = 10) (c : Bool) (a b m i : Int) (len : Int) (ha : 0 ≤ a ∧ a ≤ 9) (hb : 0 ≤ b ∧ b ≤ 9) (r : List (List Int)) (hr : Ev (fun k => spec_haGroups.l2 k h (stepOne (stepOne l c a m).1 (stepOne l c a m).2 b m).1 (stepOne (stepOne l c a m).1 (stepOne l c a m).2 b m).2 h len (wrap64 (i + 1))) r) :
    Ev (fun k => spec_haGroups.l3 k h l c m h len i [a, b] 2 0) r := by
  have w1 : wrap64 ((0 : Int) + 1) = 1 := by rw [wrap_eq] <;> omega
  have w2 : wrap64 ((1 : Int) + 1) = 2 := by rw [wrap_eq] <;> omega
  have e0 : rd [a, b] 0 = a := rfl
  have e1 : rd [a, b] 1 = b := rfl
  have h2 : ∀ l' c', Ev (fun k => spec_haGroups.l2 k h l' c' h len (wrap64 (i + 1))) r → Ev (fun k => spec_haGroups.l3 k h l' c' m h len i [a, b] 2 2) r := fun l' c' H => by
    refine Ev.step (fun k => ?_) H
    simp only [spec_haGroups.l3]
    rw [if_neg (by omega)]
  have one : ∀ (l' : List Int) (c' : Bool) (x j j' : Int), l'.length = 10 → 0 ≤ x ∧ x ≤ 9 → rd [a, b] j = x → 0 ≤ j ∧ j < 2 → wrap64 (j + 1) = j' → Ev (fun k => spec_haGroups.l3 k h (stepOne l' c' x m).1 (stepOne l' c' x m).2 m h len i [a, b] 2 j') r → Ev (fun k => spec_haGroups.l3 k h l' c' m h len i [a, b] 2 j) r := by
    intro l' c' x j j' hl' hx hj hj2 hw H
    refine Ev.step (fun k => ?_) H
    have el : (([a, b] : List Int).length : Int) = 2 := rfl
    simp only [spec_haGroups.l3]
    rw [if_pos hj2.2, if_pos hj2.1, el, if_pos hj2.2, hj, if_pos hx.1, if_pos (by omega), hw]
    unfold stepOne val
    by_cases c3 : rd l' x > m
    · rw [if_pos c3, if_pos c3]
    · rw [if_neg c3, if_neg c3]
  refine one l c a 0 1 hl ha e0 (by omega) w1 (one _ _ b 1 2 ?_ hb e1 (by omega) w2 (h2 _ _ hr))
  unfold stepOne
  split
  · simp [hl]
  · exact hl
def sumV : List Int → Int
  | [] => 0
  | x :: l => x + sumV l
theorem sumV_set : ∀ (l : List Int) (i : Nat) (y m : Int), l[i]? = some y → sumV (l.set i m) = sumV l - y + m
  | [], i, y, m, h => by simp at h
  | x :: l, 0, y, m, h => by
    obtain rfl : x = y := by simpa using h
    rw [List.set_cons_zero, sumV, sumV]; omega
  | x :: l, i + 1, y, m, h => by
    have := sumV_set l i y m (by simpa using h)
    rw [List.set_cons_succ, sumV, sumV, this]; omega
theorem sumV_nonneg : ∀ l : List Int, (∀ x ∈ l, 0 ≤ x) → 0 ≤ sumV l
  | [], _ => Int.le_refl _
  | x :: l, h => by
    have := h x List.mem_cons_self
    have := sumV_nonneg l fun y hy => h y (List.mem_cons_of_mem _ hy)
    rw [sumV]; omega
theorem val_get {l : List Int} (hl : l.length = 10) {x : Int} (hx : 0 ≤ x ∧ x ≤ 9) : l[x.toNat]? = some (val l x) := by
  have h : x.toNat < l.length := by omega
  show _ = some (l.getD x.toNat 0)
  rw [List.getD_eq_getElem?_getD, List.getElem?_eq_getElem h]; rfl
theorem set_val_same {l : List Int} (hl : l.length = 10) {x m : Int} (hx : 0 ≤ x ∧ x ≤ 9) (h : val l x = m) : l.set x.toNat m = l := by
  have := val_get hl hx
  rw [h] at this
  apply List.ext_getElem?
  intro j
  by_cases e : j = x.toNat
  · subst e; rw [List.getElem?_set_self (by omega), this]
  · rw [List.getElem?_set_ne (by omega)]
theorem stepOne_spec {l : List Int} (hl : l.length = 10) (c : Bool) {x m : Int} (hx : 0 ≤ x ∧ x ≤ 9) (hm : m ≤ val l x) : (stepOne l c x m).1 = l.set x.toNat m ∧ ((stepOne l c x m).2 = false → c = false ∧ val l x = m ∧ (stepOne l c x m).1 = l) ∧ ((stepOne l c x m).2 = true → c = true ∨ sumV (stepOne l c x m).1 < sumV l) ∧ sumV (stepOne l c x m).1 ≤ sumV l := by
  unfold stepOne
  by_cases c3 : val l x > m
  · rw [if_pos c3]
    have := sumV_set l x.toNat _ m (val_get hl hx)
    exact ⟨rfl, (fun h => by cases h), (fun _ => Or.inr (by show sumV (l.set x.toNat m) < _; rw [this]; omega)), by show sumV (l.set x.toNat m) ≤ _; rw [this]; omega⟩
  · rw [if_neg c3]
    have e : val l x = m := by omega
    exact ⟨(set_val_same hl hx e).symm, (fun h => ⟨h, e, rfl⟩), (fun h => Or.inl h), Int.le_refl _⟩
theorem haG_step {l : List Int} (hl : l.length = 10) (c : Bool) {t : S49} (ht : goodT t = true) : ∃ c', stepOne (stepOne l c t.f0 (min (val l t.f0) (val l t.f1))).1 (stepOne l c t.f0 (min (val l t.f0) (val l t.f1))).2 t.f1 (min (val l t.f0) (val l t.f1)) = (stepL l t, c') ∧ (c' = false → c = false ∧ stepL l t = l ∧ val l t.f0 = val l t.f1) ∧ (c' = true → c = true ∨ sumV (stepL l t) < sumV l) ∧ sumV (stepL l t) ≤ sumV l := by
  have g := (goodT_iff t).1 ht
  obtain ⟨m, hm⟩ : ∃ m, m = min (val l t.f0) (val l t.f1) := ⟨_, rfl⟩
  obtain ⟨a1, a2, a3, a4⟩ := stepOne_spec hl c (x := t.f0) (m := m) (by omega) (by omega)
  have hl1 : (stepOne l c t.f0 m).1.length = 10 := by rw [a1, List.length_set, hl]
  have hv : m ≤ val (stepOne l c t.f0 m).1 t.f1 := by
    rw [a1, val_set _ _ _ (by omega) (by omega)]
    split <;> omega
  obtain ⟨b1, b2, b3, b4⟩ := stepOne_spec hl1 (stepOne l c t.f0 m).2 (x := t.f1) (m := m) (by omega) hv
  rw [← hm]
  have e : (stepOne (stepOne l c t.f0 m).1 (stepOne l c t.f0 m).2 t.f1 m).1 = stepL l t := by
    rw [b1, a1]; unfold stepL; rw [← hm]
  rw [e] at b2 b3 b4
  refine ⟨(stepOne (stepOne l c t.f0 m).1 (stepOne l c t.f0 m).2 t.f1 m).2, by rw [← e], fun h => ?_, fun h => ?_, by omega⟩
  · obtain ⟨p, q, r⟩ := b2 h
    obtain ⟨u, v, w⟩ := a2 p
    rw [w] at q r
    exact ⟨u, r, by omega⟩
  · rcases b3 h with p | p
    · rcases a3 p with q | q
      · exact .inl q
      · exact .inr (by omega)
    · exact .inr (by omega)
theorem haG_pass {h : List S49} (hg : ∀ t ∈ h, goodT t = true) (hlen : h.length ≤ 1000) : ∀ (suf pre : List S49) (l : List Int) (c : Bool), pre ++ suf = h → LabOk h l → ∃ l' c', LabOk h l' ∧ (c' = false → c = false ∧ l' = l ∧ ∀ t ∈ suf, val l t.f0 = val l t.f1) ∧ (c' = true → c = true ∨ sumV l' < sumV l) ∧ sumV l' ≤ sumV l ∧ ∀ r, Ev (fun k => spec_haGroups.l1 k h l' c') r → Ev (fun k => spec_haGroups.l2 k h l c h (h.length : Int) (pre.length : Int)) r
  | [], pre, l, c, e, H => by
    refine ⟨l, c, H, fun hc => ⟨hc, rfl, fun t ht => by cases ht⟩, fun hc => .inl hc, Int.le_refl _, fun r hr => ?_⟩
    have : pre.length = h.length := by rw [← e]; simp
    refine Ev.step (fun k => ?_) hr
    simp only [spec_haGroups.l2]
    rw [if_neg (by omega)]
  | t :: suf, pre, l, c, e, H => by
    have hth : t ∈ h := by rw [← e]; simp
    have ht := hg t hth
    have g := (goodT_iff t).1 ht
    have hpl : pre.length < h.length := by rw [← e]; simp
    have hget : h[pre.length]? = some t := by rw [← e]; simp
    obtain ⟨c1, e1, f1, f2, f3⟩ := haG_step H.len c ht
    obtain ⟨l', c', H', g1, g2, g3, g4⟩ := haG_pass hg hlen suf (pre ++ [t]) (stepL l t) c1 (by rw [← e]; simp) (H.step ht hth)
    refine ⟨l', c', H', fun hc => ?_, fun hc => ?_, by omega, fun r hr => ?_⟩
    · obtain ⟨p, q, s⟩ := g1 hc
      obtain ⟨u, v, w⟩ := f1 p
      rw [v] at q s
      exact ⟨u, q, fun x hx => (List.mem_cons.1 hx).elim (fun z => by rw [z]; exact w) (s x)⟩
    · rcases g2 hc with p | p
      · rcases f2 p with q | q
        · exact .inl q
        · exact .inr (by omega)
      · exact .inr (by omega)
    · have next := g4 r hr
      have hr0 : rd_T49 h (pre.length : Int) = t := rdT_nat h pre.length t hget
      have hl := H.len
      have hw : wrap64 ((pre.length : Int) + 1) = (((pre ++ [t]).length : Nat) : Int) := by rw [wrap_succ (by omega), List.length_append, List.length_singleton]
      have n3 := haG_l3 h l hl c t.f0 t.f1 (min (val l t.f0) (val l t.f1)) (pre.length : Int) (h.length : Int) (by omega) (by omega) r (by rw [e1, hw]; exact next)
      refine Ev.step (fun k => ?_) n3
      have el : (([t.f0, t.f1] : List Int).length : Int) = 2 := rfl
      simp only [spec_haGroups.l2]
      rw [if_pos (by omega), if_pos (by omega), if_pos (by omega), hr0, if_pos (by omega), if_pos (by omega), if_pos (by omega), if_pos (by omega), least_f, Option.bind_some, Option.bind_some, el]
      rfl
theorem haG_outer {h : List S49} (hg : ∀ t ∈ h, goodT t = true) (hlen : h.length ≤ 1000) : ∀ (n : Nat) (l : List Int), LabOk h l → sumV l ≤ (n : Int) → ∃ lF, LabOk h lF ∧ (∀ t ∈ h, val lF t.f0 = val lF t.f1) ∧ ∀ r, Ev (fun k => spec_haGroups.l4 k h lF [] 10 0) r → Ev (fun k => spec_haGroups.l1 k h l true) r := by
  have start : ∀ l r, Ev (fun k => spec_haGroups.l2 k h l false h (h.length : Int) ((([] : List S49).length : Nat) : Int)) r → Ev (fun k => spec_haGroups.l1 k h l true) r := fun l r H => by
    refine Ev.step (fun k => ?_) H
    simp only [spec_haGroups.l1, if_true]; rfl
  have fin : ∀ (l : List Int) r, l.length = 10 → Ev (fun k => spec_haGroups.l4 k h l [] 10 0) r → Ev (fun k => spec_haGroups.l1 k h l false) r := fun l r hl H => by
    refine Ev.step (fun k => ?_) H
    simp only [spec_haGroups.l1]
    rw [if_neg (by decide), hl]; rfl
  intro n
  induction n with
  | zero =>
    intro l H hs
    obtain ⟨l', c', H', g1, g2, g3, g4⟩ := haG_pass hg hlen h [] l false rfl H
    cases c' with
    | false =>
      obtain ⟨_, e, hf⟩ := g1 rfl
      subst e
      exact ⟨l', H', hf, fun r hr => start l' r (g4 r (fin l' r H'.len hr))⟩
    | true =>
      exfalso
      have := g2 rfl
      have h0 : 0 ≤ sumV l' := sumV_nonneg l' fun x hx => by
        obtain ⟨j, hj⟩ := List.getElem?_of_mem hx
        have hj10 := (List.getElem?_eq_some_iff.1 hj).1
        rw [H'.len] at hj10
        have := H'.lo (j : Int) (by omega) (by omega)
        have e := val_get H'.len (x := (j : Int)) (by omega)
        rw [Int.toNat_natCast, hj] at e
        cases e; exact this
      rcases this with h | h
      · cases h
      · omega
  | succ n ih =>
    intro l H hs
    obtain ⟨l', c', H', g1, g2, g3, g4⟩ := haG_pass hg hlen h [] l false rfl H
    cases c' with
    | false =>
      obtain ⟨_, e, hf⟩ := g1 rfl
      subst e
      exact ⟨l', H', hf, fun r hr => start l' r (g4 r (fin l' r H'.len hr))⟩
    | true =>
      have h2 : sumV l' < sumV l := by
        rcases g2 rfl with h | h
        · cases h
        · exact h
      obtain ⟨lF, HF, hf, g⟩ := ih l' H' (by omega)
      exact ⟨lF, HF, hf, fun r hr => start l r (g4 r (g r hr))⟩
def grpS (l : List Int) (h : List S49) (ns : List Int) : List (List Int) := (ns.filter fun n => decide (rd l n = n) && decide (timesT h n > 0)).map fun name => (upFrom 0 10).filter fun x => decide (rd l x = name)
theorem haG_l5 (h : List S49) (l : List Int) (hl : l.length = 10) (out : List (List Int)) (ho : out.length ≤ 1000) (n : Nat) (hn : n < 10) (r : List (List Int)) : ∀ d i (acc : List Int), i + d = 10 → acc.length ≤ i → Ev (fun k => spec_haGroups.l4 k h l (out ++ [acc ++ (upFrom i d).filter fun x => decide (rd l x = (n : Int))]) 10 ((n + 1 : Nat) : Int)) r → Ev (fun k => spec_haGroups.l5 k h l out (n : Int) acc 10 (n : Int) l 10 (i : Int)) r := by
  intro d
  induction d with
  | zero =>
    intro i acc hi ha H
    rw [upFrom, List.filter_nil, List.append_nil] at H
    refine Ev.step (fun k => ?_) H
    simp only [spec_haGroups.l5]
    rw [if_neg (by omega), if_pos (by omega), wrap_succ (by omega)]
  | succ d ih =>
    intro i acc hi ha H
    rw [upFrom, List.filter_cons] at H
    by_cases c : rd l (i : Int) = (n : Int)
    · rw [if_pos (decide_eq_true c)] at H
      have next := ih (i + 1) (acc ++ [(i : Int)]) (by omega) (by simp; omega) (by rw [List.append_assoc, List.singleton_append]; exact H)
      refine Ev.step (fun k => ?_) next
      simp only [spec_haGroups.l5]
      rw [if_pos (by omega), if_pos (by omega), if_pos (by omega), if_pos c, if_pos (by omega), wrap_succ (by omega)]
    · rw [if_neg (by simpa using c)] at H
      have next := ih (i + 1) acc (by omega) (by omega) H
      refine Ev.step (fun k => ?_) next
      simp only [spec_haGroups.l5]
      rw [if_pos (by omega), if_pos (by omega), if_pos (by omega), if_neg c, wrap_succ (by omega)]
theorem haG_l4 (h : List S49) (hlen : h.length ≤ 1000) (l : List Int) (hl : l.length = 10) : ∀ d i (out : List (List Int)), i + d = 10 → out.length ≤ i → Ev (fun k => spec_haGroups.l4 k h l out 10 (i : Int)) (out ++ grpS l h (upFrom i d)) := by
  intro d
  induction d with
  | zero =>
    intro i out hi ho
    refine ⟨1, fun k hk => ?_⟩
    obtain ⟨k, rfl⟩ : ∃ m, k = m + 1 := ⟨k - 1, by omega⟩
    simp only [spec_haGroups.l4]
    rw [if_neg (by omega)]
    simp [grpS, upFrom]
  | succ d ih =>
    intro i out hi ho
    have hj5 : ∀ b : Bool, b = !(decide (rd l (i : Int) = (i : Int)) && decide (timesT h (i : Int) > 0)) → Ev (fun k => spec_haGroups.j5 k h l out (i : Int) 10 (i : Int) b) (out ++ grpS l h (upFrom i (d + 1))) := by
      intro b hb
      have ht := timesT_bd h (i : Int)
      cases hc : (decide (rd l (i : Int) = (i : Int)) && decide (timesT h (i : Int) > 0)) with
      | false =>
        rw [hc] at hb
        subst hb
        have next := ih (i + 1) out (by omega) (by omega)
        have e : grpS l h (upFrom i (d + 1)) = grpS l h (upFrom (i + 1) d) := by unfold grpS; rw [show upFrom i (d + 1) = (i : Int) :: upFrom (i + 1) d from rfl, List.filter_cons, hc]; rfl
        rw [e]
        refine Ev.step (fun k => ?_) next
        simp only [spec_haGroups.j5]
        rw [if_pos (by decide), wrap_succ (by omega)]
      | true =>
        rw [hc] at hb
        subst hb
        have e : grpS l h (upFrom i (d + 1)) = ((upFrom 0 10).filter fun x => decide (rd l x = (i : Int))) :: grpS l h (upFrom (i + 1) d) := by unfold grpS; rw [show upFrom i (d + 1) = (i : Int) :: upFrom (i + 1) d from rfl, List.filter_cons, hc, if_pos rfl, List.map_cons]
        have next := ih (i + 1) (out ++ [(upFrom 0 10).filter fun x => decide (rd l x = (i : Int))]) (by omega) (by simp; omega)
        rw [List.append_assoc, List.singleton_append, ← e] at next
        have n5 := haG_l5 h l hl out (by omega) i (by omega) _ 10 0 [] (by omega) (by simp) (by rw [List.nil_append]; exact next)
        refine Ev.step (fun k => ?_) n5
        simp only [spec_haGroups.j5]
        rw [if_neg (by decide), hl]; rfl
    have ht := timesT_bd h (i : Int)
    by_cases c : rd l (i : Int) = (i : Int)
    · refine Ev.step (f := fun k => (spec_tiTimes.f k h (i : Int)).bind fun t => spec_haGroups.j5 k h l out (i : Int) 10 (i : Int) (t == 0)) (fun k => ?_) (Ev.bind (tiTimes_ev h (i : Int) (by omega)) (hj5 _ ?_))
      · simp only [spec_haGroups.l4]
        rw [if_pos (by omega), if_pos (by omega), if_pos (by omega), if_pos c]
      · rw [decide_eq_true c, Bool.true_and]
        by_cases z : timesT h (i : Int) = 0
        · rw [z]; rfl
        · rw [decide_eq_true (show timesT h (i : Int) > 0 by omega)]
          simpa using z
    · refine Ev.step (fun k => ?_) (hj5 true (by rw [decide_eq_false c]; rfl))
      simp only [spec_haGroups.l4]
      rw [if_pos (by omega), if_pos (by omega), if_pos (by omega), if_neg c]
theorem haGroups_ev {h : List S49} (hg : ∀ t ∈ h, goodT t = true) (hl : h.length ≤ 55) : ∃ lF, LabOk h lF ∧ (∀ t ∈ h, val lF t.f0 = val lF t.f1) ∧ Ev (fun k => spec_haGroups.f k h) (grpS lF h (upFrom 0 10)) := by
  have hs : sumV L10 ≤ ((45 : Nat) : Int) := by decide
  obtain ⟨lF, HF, hf, g⟩ := haG_outer hg (by omega) 45 L10 (labels0 h) hs
  refine ⟨lF, HF, hf, ?_⟩
  have h4 := haG_l4 h (by omega) lF HF.len 10 0 [] (by omega) (by simp)
  rw [List.nil_append] at h4
  have h0 := haG_l0 h _ (g _ h4) 10 0 (List.replicate 10 0) (by omega) (by simp) (fun j hj => absurd hj (Nat.not_lt_zero _))
  refine Ev.congr (fun k => ?_) h0
  unfold spec_haGroups.f
  rw [if_pos (by decide), Option.bind_some]; rfl
theorem conn_touch {h : List S49} {a b : Int} (c : Conn h a b) : a = b ∨ ((∃ t ∈ h, t.f0 = a ∨ t.f1 = a) ∧ ∃ t ∈ h, t.f0 = b ∨ t.f1 = b) := by
  induction c with
  | refl => exact .inl rfl
  | fwd t _ ht ih =>
    rcases ih with e | e
    · exact .inr ⟨⟨t, ht, .inl e.symm⟩, ⟨t, ht, .inr rfl⟩⟩
    · exact .inr ⟨e.1, ⟨t, ht, .inr rfl⟩⟩
  | bwd t _ ht ih =>
    rcases ih with e | e
    · exact .inr ⟨⟨t, ht, .inr e.symm⟩, ⟨t, ht, .inl rfl⟩⟩
    · exact .inr ⟨e.1, ⟨t, ht, .inl rfl⟩⟩
/-- Labels that are the least numbers give the same groups in both makes. -/
theorem grp_eq {h : List S49} (hg : ∀ t ∈ h, goodT t = true) {l l2 : List Int} (h1 : ∀ v, 0 ≤ v → v ≤ 9 → IsLeast h v (rd l v)) (h2 : ∀ v, 0 ≤ v → v ≤ 9 → IsLeast h v (rd l2 v)) : ∀ ns : List Int, (∀ n ∈ ns, 0 ≤ n ∧ n ≤ 9) → grpS l h ns = groupsP l2 (numsT h) ns
  | [], _ => rfl
  | a :: ns, hn => by
    have ih := grp_eq hg h1 h2 ns fun n hm => hn n (List.mem_cons_of_mem _ hm)
    have ha := hn a List.mem_cons_self
    have hnum : ∀ n, n ∈ numsT h ↔ (0 ≤ n ∧ n ≤ 9) ∧ timesT h n > 0 := fun n => by
      unfold numsT
      rw [List.mem_filter, mem_upFrom, decide_eq_true_eq]
      constructor
      · rintro ⟨p, q⟩; exact ⟨by omega, q⟩
      · rintro ⟨p, q⟩; exact ⟨by omega, q⟩
    have heq : ∀ v, 0 ≤ v → v ≤ 9 → rd l v = rd l2 v := fun v p q => (h1 v p q).eq (h2 v p q)
    unfold groupsP at ih ⊢
    unfold grpS at ih ⊢
    rw [List.map_cons, List.filter_cons, List.filter_cons]
    by_cases c : (decide (rd l a = a) && decide (timesT h a > 0)) = true
    · rw [if_pos c, List.map_cons]
      rw [Bool.and_eq_true, decide_eq_true_eq, decide_eq_true_eq] at c
      have hin : a ∈ (numsT h).filter fun n => decide (rd l2 n = a) := List.mem_filter.2 ⟨(hnum a).2 ⟨ha, c.2⟩, decide_eq_true (by rw [← heq a ha.1 ha.2]; exact c.1)⟩
      have hne : (!((numsT h).filter fun n => decide (rd l2 n = a)).isEmpty) = true := by
        cases hq : (numsT h).filter fun n => decide (rd l2 n = a) with
        | nil => rw [hq] at hin; cases hin
        | cons x y => rfl
      rw [if_pos hne, ih]
      congr 1
      unfold numsT
      rw [List.filter_filter]
      apply List.filter_congr
      intro x hx
      have hx9 := (mem_upFrom 10 0 x).1 hx
      rw [heq x (by omega) (by omega)]
      by_cases cx : rd l2 x = a
      · rw [decide_eq_true cx, Bool.true_and]
        symm
        rw [decide_eq_true_eq, times_pos]
        have hc := (h2 x (by omega) (by omega)).1
        rw [cx] at hc
        rcases conn_touch hc with e | e
        · rw [e]; exact (times_pos h a).1 c.2
        · exact e.1
      · rw [decide_eq_false cx, Bool.false_and]
    · rw [if_neg c, ih]
      have hemp : (numsT h).filter (fun n => decide (rd l2 n = a)) = [] := by
        rw [List.filter_eq_nil_iff]
        intro x hx hcx
        rw [decide_eq_true_eq] at hcx
        apply c
        have hx2 := (hnum x).1 hx
        have hL := h2 x hx2.1.1 hx2.1.2
        rw [hcx] at hL
        have hs := hL.self
        have ea : rd l2 a = a := (h2 a ha.1 ha.2).eq hs
        rw [Bool.and_eq_true, decide_eq_true_eq, decide_eq_true_eq, heq a ha.1 ha.2]
        refine ⟨ea, (times_pos h a).2 ?_⟩
        rcases conn_touch hL.1 with e | e
        · rw [← e]; exact (times_pos h x).1 hx2.2
        · exact e.2
      rw [hemp]; rfl
theorem groups_same {h : List S49} (hg : ∀ t ∈ h, goodT t = true) (hl : h.length ≤ 55) : Ev (fun k => spec_haGroups.f k h) (groupsN (roundsN h h.length (upI 0 10)) (numsT h)) := by
  obtain ⟨lF, HF, hf, e⟩ := haGroups_ev hg hl
  have hup : upI 0 10 = [0, 1, 2, 3, 4, 5, 6, 7, 8, 9] := rfl
  have h2 : ∀ v, 0 ≤ v → v ≤ 9 → IsLeast h v (rd (roundsN h h.length (upI 0 10)) v) := by
    intro v h0 h9
    rw [roundsN_L, hup]
    exact groups_least hg v h0 h9
  have h1 : ∀ v, 0 ≤ v → v ≤ 9 → IsLeast h v (rd lF v) := fun v h0 h9 => fixed_least hg HF hf v h0 h9
  rw [grp_eq hg h1 h2 (upFrom 0 10) (fun n hn => by have := (mem_upFrom 10 0 n).1 hn; omega)] at e
  unfold groupsN
  rw [upI_from] at *
  exact e
theorem groups_small (l : List Int) (h : List S49) : (groupsN l (numsT h)).length ≤ 1000 ∧ ∀ g ∈ groupsN l (numsT h), g.length ≤ 1000 := by
  unfold groupsN groupsP
  constructor
  · refine Nat.le_trans (List.length_filter_le _ _) ?_
    rw [List.length_map, upI_length]; omega
  · intro g hg
    obtain ⟨a, _, rfl⟩ := List.mem_map.1 (List.mem_filter.1 hg).1
    have := numsT_len h
    exact Nat.le_trans (List.length_filter_le _ _) (by omega)
theorem GroupsOf_same (l : List S49) : ∃ r, Ev (fun k => spec_GroupsOf.f k l) r ∧ Ev (fun k => impl_GroupsOf.f k l) r ∧ r.1.length ≤ 1000 ∧ ∀ g ∈ r.1, g.length ≤ 1000 := by
  have h1 := tiHand_ev l
  have h2 := IsHand_ev l
  cases hc : handB l with
  | false =>
    rw [hc] at h1 h2
    exact ⟨([], false), bind_false h1 (Ev.now _), bind_false h2 (Ev.now _), by simp, by simp⟩
  | true =>
    rw [hc] at h1 h2
    have hl := handB_len hc
    have hg := handB_good hc
    have hs := groups_small (roundsN l l.length (upI 0 10)) l
    exact ⟨(groupsN (roundsN l l.length (upI 0 10)) (numsT l), true), bind_true h1 (Ev.bind (groups_same hg hl) (Ev.now _)), bind_true h2 (Ev.bind (groups_ev hg hl) (Ev.now _)), hs.1, hs.2⟩

end Go.Proofs.Ytfkohligcikfbaa.Q
