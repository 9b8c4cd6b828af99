/- Plain lists and numbers: what the program's functions and the reference's compute. -/
import Derived.Test.YtcomlipkmcphfaaP0
import Derived.Test.YtcomlipkmcphfaaPIb
import Derived.Test.YtcomlipkmcphfaaPIf
import Derived.Test.YtcomlipkmcphfaaPIw
import Derived.Test.YtcomlipkmcphfaaPSl
import Derived.Test.YtcomlipkmcphfaaQBaseF
import Derived.Test.YtcomlipkmcphfaaQBaseG
import Derived.Test.YtcomlipkmcphfaaQBaseH
import Derived.Test.YtcomlipkmcphfaaQConcat
import Derived.Test.YtcomlipkmcphfaaQFleury
import Derived.Test.YtcomlipkmcphfaaQWalk
namespace Go.Proofs.Ytcomlipkmcphfaa.Q
open Go.RowKit Go.Proofs.Ytcomlipkmcphfaa.P Go.Proofs.YtcomlipkmcphfaaW.PrintWords Go.Proofs.YtcomlipkmcphfaaW.PrintLast Go.Proofs.YtcomlipkmcphfaaW.PrintMore
set_option linter.unusedVariables false
set_option linter.unusedSimpArgs false

theorem head_least (p : Int → Bool) : ∀ (d i : Nat) (s : Int) (t : List Int), (upFrom i d).filter p = s :: t → p s = true ∧ (i : Int) ≤ s ∧ s < ((i + d : Nat) : Int) ∧ ∀ j : Int, (i : Int) ≤ j → j < s → p j = false := by
  intro d
  induction d with
  | zero => intro i s t h; simp [upFrom] at h
  | succ d ih =>
    intro i s t h
    rw [upFrom, List.filter_cons] at h
    by_cases c : p (i : Int) = true
    · rw [if_pos c] at h
      obtain ⟨rfl, _⟩ := List.cons.inj h
      exact ⟨c, Int.le_refl _, by omega, fun j a b => by omega⟩
    · rw [if_neg c] at h
      obtain ⟨h1, h2, h3, h4⟩ := ih (i + 1) s t h
      refine ⟨h1, by omega, by omega, fun j a b => ?_⟩
      by_cases e : j = i
      · subst e; simpa using c
      · exact h4 j (by omega) b
theorem odd_in {h : List S41} {v : Int} (hv : v ∈ oddT h) : InT h v := by
  have h1 := ((mem_oddT h v).1 hv).2
  exact (times_pos h v).1 (by have := timesT_bd h v; omega)
theorem start_exists {h : List S41} (hg : ∀ t ∈ h, goodT t = true) (hne : h ≠ []) (hone : OneC h) (hodd : (oddT h).length ≤ 2) : ∃ s x : Int, (oddT h ++ numsT h).headD 0 = s ∧ (0 ≤ s ∧ s ≤ 9) ∧ (0 ≤ x ∧ x ≤ 9) ∧ From h s ∧ Odd2 h s ∧ Par h s x ∧ ∀ j : Int, 0 ≤ j → j < s → ¬ (From h j ∧ Odd2 h j) := by
  have hev := odd_even hg
  rcases (show (oddT h).length = 0 ∨ (oddT h).length = 2 by omega) with c0 | c2
  · have he : oddT h = [] := List.length_eq_zero_iff.1 c0
    obtain ⟨t, ht⟩ := List.exists_mem_of_ne_nil _ hne
    have htn : t.f0 ∈ numsT h := (mem_numsT hg _).2 ⟨t, ht, .inl rfl⟩
    cases hc : numsT h with
    | nil => rw [hc] at htn; cases htn
    | cons s l =>
      obtain ⟨h1, h2, h3, h4⟩ := head_least _ 10 0 s l (show (upFrom 0 10).filter (fun n => decide (timesT h n > 0)) = s :: l from hc)
      have hs : s ∈ numsT h := by rw [hc]; exact List.mem_cons_self
      have hin := (mem_numsT hg s).1 hs
      refine ⟨s, s, by rw [he]; rfl, by omega, by omega, (from_one hne s).2 ⟨hone, hin⟩, .inl c0, fun v => ?_, fun j a b c => ?_⟩
      · have : ¬ v ∈ oddT h := by rw [he]; simp
        by_cases hv : 0 ≤ v ∧ v ≤ 9
        · have h5 := mt (fun e => (mem_oddT h v).2 ⟨hv, e⟩) this
          have h6 := timesT_bd h v
          split <;> omega
        · rw [times_out hg hv]; split <;> omega
      · have h5 := h4 j (by omega) b
        have h6 := ((from_one hne j).1 c.1).2
        have h7 := (times_pos h j).2 h6
        simp at h5
        omega
  · cases hc : oddT h with
    | nil => rw [hc] at c2; simp at c2
    | cons a l =>
      rw [hc] at c2
      match l, hc, c2 with
      | [b], hc, _ =>
        obtain ⟨h1, h2, h3, h4⟩ := head_least _ 10 0 a [b] (show (upFrom 0 10).filter (fun n => decide (timesT h n % 2 = 1)) = [a, b] from hc)
        have ha : a ∈ oddT h := by rw [hc]; simp
        have hb : b ∈ oddT h := by rw [hc]; simp
        have hab : a ≠ b := by have := oddT_nodup h; rw [hc] at this; simpa using this
        have ha' := (mem_oddT h a).1 ha
        have hb' := (mem_oddT h b).1 hb
        refine ⟨a, b, rfl, by omega, by omega, (from_one hne a).2 ⟨hone, odd_in ha⟩, .inr ⟨by rw [hc]; rfl, ha⟩, fun v => ?_, fun j x y c => ?_⟩
        · by_cases hv : v ∈ oddT h
          · have h5 := ((mem_oddT h v).1 hv).2
            rw [hc] at hv
            rcases List.mem_cons.1 hv with e | e
            · subst e; rw [if_pos rfl, if_neg (fun e => hab e.symm)]; omega
            · rw [List.mem_singleton.1 e] at h5 ⊢; rw [if_neg hab, if_pos rfl]; omega
          · have e1 : a ≠ v := fun e => hv (e ▸ ha)
            have e2 : b ≠ v := fun e => hv (e ▸ hb)
            rw [if_neg e1, if_neg e2]
            by_cases h9 : 0 ≤ v ∧ v ≤ 9
            · have h5 := mt (fun e => (mem_oddT h v).2 ⟨h9, e⟩) hv
              have h6 := timesT_bd h v
              omega
            · rw [times_out hg h9]; rfl
        · have h5 := h4 j (by omega) y
          rcases c.2 with c0 | ⟨_, c1⟩
          · rw [hc] at c0; simp at c0
          · have h6 := ((mem_oddT h j).1 c1).2
            simp at h5
            omega
theorem whFirst_none {h : List S41} (hg : ∀ t ∈ h, goodT t = true) (hn : h.Nodup) (hl : h.length ≤ 55) (hne : h ≠ []) (hno : ∀ j : Int, 0 ≤ j → j ≤ 9 → ¬ (From h j ∧ Odd2 h j)) : ∀ d i : Nat, i + d = 10 → Ev (fun k => spec_whFirst.l0 k h (i : Int)) (([] : List Int), false) := by
  intro d
  induction d with
  | zero =>
    intro i hi
    refine Ev.step (f := fun _ => some ([], false)) (fun k => ?_) (Ev.now _)
    simp only [spec_whFirst.l0]
    rw [if_neg (by omega)]
  | succ d ih =>
    intro i hi
    obtain ⟨b, hb, eb⟩ := whFrom_ev hg hn hl (n := (i : Int)) (by omega)
    have hbf : b = false := by
      cases hc : b with
      | false => rfl
      | true =>
        exfalso
        rcases hb.1 hc with c | c
        · exact hne c
        · exact hno i (by omega) (by omega) c
    subst hbf
    refine Ev.step (f := fun k => (spec_whFrom.f k h i).bind fun t => if t = true then (spec_whWalk.f k h i).bind fun t203 => some (t203, true) else spec_whFirst.l0 k h ((i + 1 : Nat) : Int)) (fun k => ?_) (Ev.bind eb ?_)
    · simp only [spec_whFirst.l0]
      rw [if_pos (by omega), wrap_succ (by omega)]
    · simp only [Bool.false_eq_true, if_false]
      exact ih (i + 1) (by omega)
theorem whFirst_some {h : List S41} (hg : ∀ t ∈ h, goodT t = true) (hn : h.Nodup) (hl : h.length ≤ 55) {s : Int} (hs : 0 ≤ s ∧ s ≤ 9) (hok : h = [] ∨ (From h s ∧ Odd2 h s)) (hno : ∀ j : Int, 0 ≤ j → j < s → h ≠ [] ∧ ¬ (From h j ∧ Odd2 h j)) {r : List Int} (hw : Ev (fun k => spec_whWalk.f k h s) r) : ∀ d i : Nat, (i : Int) + d = s → Ev (fun k => spec_whFirst.l0 k h (i : Int)) (r, true) := by
  intro d
  induction d with
  | zero =>
    intro i hi
    obtain rfl : (i : Int) = s := by omega
    obtain ⟨b, hb, eb⟩ := whFrom_ev hg hn hl hs
    have hbt : b = true := hb.2 hok
    subst hbt
    refine Ev.step (f := fun k => (spec_whFrom.f k h i).bind fun t => if t = true then (spec_whWalk.f k h i).bind fun t203 => some (t203, true) else spec_whFirst.l0 k h ((i + 1 : Nat) : Int)) (fun k => ?_) (Ev.bind eb ?_)
    · simp only [spec_whFirst.l0]
      rw [if_pos (by omega), wrap_succ (by omega)]
    · simp only [if_true]
      exact Ev.bind hw (Ev.now _)
  | succ d ih =>
    intro i hi
    obtain ⟨b, hb, eb⟩ := whFrom_ev hg hn hl (n := (i : Int)) (by omega)
    obtain ⟨n1, n2⟩ := hno i (by omega) (by omega)
    have hbf : b = false := by
      cases hc : b with
      | false => rfl
      | true =>
        exfalso
        rcases hb.1 hc with c | c
        · exact n1 c
        · exact n2 c
    subst hbf
    refine Ev.step (f := fun k => (spec_whFrom.f k h i).bind fun t => if t = true then (spec_whWalk.f k h i).bind fun t203 => some (t203, true) else spec_whFirst.l0 k h ((i + 1 : Nat) : Int)) (fun k => ?_) (Ev.bind eb ?_)
    · simp only [spec_whFirst.l0]
      rw [if_pos (by omega), wrap_succ (by omega)]
    · simp only [Bool.false_eq_true, if_false]
      exact ih (i + 1) (by omega)
theorem firstWhole_ev {h : List S41} (hg : ∀ t ∈ h, goodT t = true) (hl : h.length ≤ 55) (hne : h ≠ []) {s : Int} {r : List Int} (hs : (oddT h ++ numsT h).headD 0 = s) (hst : oddT h ++ numsT h ≠ []) (hw : Walks h s r) : Ev (fun k => impl_firstWhole.f k h) (s :: r) := by
  obtain ⟨K, hK⟩ := fwLoop_ev hw [s] rfl hg hl
  have hol := oddT_len h
  have hnl := numsT_len h
  have hcond : h.length ≤ 55 ∧ (∀ t ∈ h, goodT t = true) ∧ ∀ n ∈ oddT h ++ numsT h, 0 ≤ n ∧ n ≤ 9 := ⟨hl, hg, fun n hn => by
    rcases List.mem_append.1 hn with c | c
    · exact ((mem_oddT h n).1 c).1
    · unfold numsT at c
      have := (mem_upFrom 10 0 n).1 (List.mem_filter.1 c).1
      omega⟩
  refine Ev.bind (odd_ev h (by omega)) (Ev.bind (numbers_ev h (by omega)) (Ev.bind (concat2_ev _ _ (by omega)) ⟨K + 60, fun k hk => ?_⟩))
  simp only
  rw [if_pos hcond, if_neg (fun c => hne c.1), if_pos ⟨hne, hst⟩, hs]
  exact hK k (by omega) k (by omega)
theorem firstWhole_nil : Ev (fun k => impl_firstWhole.f k []) [0] := by
  have ho := odd_ev [] (by simp)
  have hn := numbers_ev [] (by simp)
  have e1 : oddT [] = [] := by decide
  have e2 : numsT [] = [] := by decide
  rw [e1] at ho
  rw [e2] at hn
  refine Ev.bind ho (Ev.bind hn (Ev.bind (concat2_ev [] [] (by simp)) (ev_const fun k => ?_)))
  rfl
/-- The first whole chain, as both find it. -/
theorem first_both {h : List S41} (hg : ∀ t ∈ h, goodT t = true) (hn : h.Nodup) (hl : h.length ≤ 55) : ∃ b : Bool, (b = true ↔ OneC h ∧ (oddT h).length ≤ 2) ∧ Ev (fun k => impl_canChain.f k h) b ∧ ∃ r : List Int, r.length ≤ 100 ∧ Ev (fun k => spec_whFirst.f k h) (r, b) ∧ (b = true → Ev (fun k => impl_firstWhole.f k h) r) ∧ (b = false → r = []) := by
  obtain ⟨b, hb, eb⟩ := canChain_ev hg hl
  refine ⟨b, hb, eb, ?_⟩
  by_cases hz : h = []
  · subst hz
    have hbt : b = true := hb.2 ⟨fun t ht => (by cases ht), by decide⟩
    refine ⟨[0], by simp, ?_, fun _ => firstWhole_nil, fun c => by rw [hbt] at c; cases c⟩
    rw [hbt]
    refine whFirst_some hg hn hl (s := 0) (by omega) (.inl rfl) (fun j a b => by omega) (r := [0]) ?_ 0 0 rfl
    refine Ev.step (g := fun k => spec_whWalk.l0 k [] 0 [0]) (f := fun _ => some [0]) (fun k => ?_) (Ev.now _)
    simp only [spec_whWalk.l0]
    rw [if_neg (by simp)]
  cases hc : b with
  | true =>
    obtain ⟨hone, hodd⟩ := hb.1 hc
    obtain ⟨s, x, hs, hs9, hx9, hF, hO, hP, hno⟩ := start_exists hg hz hone hodd
    obtain ⟨r, hw, hrl, hrv⟩ := walks_exists h.length h s x rfl hg hF hP
    have hst : oddT h ++ numsT h ≠ [] := by
      obtain ⟨t, ht⟩ := List.exists_mem_of_ne_nil _ hz
      have htn : t.f0 ∈ numsT h := (mem_numsT hg _).2 ⟨t, ht, .inl rfl⟩
      intro e
      rw [(List.append_eq_nil_iff.1 e).2] at htn
      cases htn
    have hww := walk_ev hw h x [s] ⟨hn, hn, fun _ => Iff.rfl⟩ hg hl hP hs9 hx9 (by simp; omega)
    refine ⟨s :: r, by simp; omega, ?_, fun _ => firstWhole_ev hg hl hz hs hst hw, fun c => by cases c⟩
    exact whFirst_some hg hn hl hs9 (.inr ⟨hF, hO⟩) (fun j a b => ⟨hz, hno j a b⟩) hww s.toNat 0 (by omega)
  | false =>
    refine ⟨[], by simp, ?_, (fun c => by cases c), fun _ => rfl⟩
    refine whFirst_none hg hn hl hz (fun j j0 j9 c => ?_) 10 0 rfl
    have : b = true := hb.2 ⟨((from_one hz j).1 c.1).1, by rcases c.2 with c | c <;> omega⟩
    rw [hc] at this
    cases this

end Go.Proofs.Ytcomlipkmcphfaa.Q
