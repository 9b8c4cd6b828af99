/- Plain lists and numbers: what the program's functions and the reference's compute. -/
import Derived.Test.YtcomlipkmcphfaaP0
import Derived.Test.YtcomlipkmcphfaaPIb
import Derived.Test.YtcomlipkmcphfaaPIw
import Derived.Test.YtcomlipkmcphfaaPSb
import Derived.Test.YtcomlipkmcphfaaPSk
import Derived.Test.YtcomlipkmcphfaaPSk2
import Derived.Test.YtcomlipkmcphfaaQBaseF
import Derived.Test.YtcomlipkmcphfaaQBaseG
namespace Go.Proofs.Ytcomlipkmcphfaa.Q
open Go.RowKit Go.Proofs.Ytcomlipkmcphfaa.P Go.Proofs.YtcomlipkmcphfaaW.PrintWords Go.Proofs.YtcomlipkmcphfaaW.PrintLast Go.Proofs.YtcomlipkmcphfaaW.PrintMore
set_option linter.unusedVariables false
set_option linter.unusedSimpArgs false

theorem whParts_loop : ∀ (m : Nat) (left : List S41), left.length ≤ m → (∀ t ∈ left, goodT t = true) → left.Pairwise (fun a b => leT a b = true) → left.Nodup → left.length ≤ 55 → ∀ acc : List (List S41), acc.length + left.length ≤ 1000 → ∃ ps, Ev (fun k => spec_whParts.l0 k acc left) (acc ++ ps) ∧ (ps = [] ↔ left = []) ∧ (ps.length ≤ 1 ↔ OneC left) := by
  intro m
  induction m with
  | zero =>
    intro left hm hg hs hn hl acc ha
    obtain rfl : left = [] := List.length_eq_zero_iff.1 (by omega)
    refine ⟨[], ⟨1, fun k hk => ?_⟩, by simp, by simp [OneC]⟩
    obtain ⟨k, rfl⟩ : ∃ m, k = m + 1 := ⟨k - 1, by omega⟩
    simp only [spec_whParts.l0]
    rw [if_neg (by simp), List.append_nil]
  | succ m ih =>
    intro left hm hg hs hn hl acc ha
    match left, hm, hg, hs, hn, hl, ha with
    | [], hm, hg, hs, hn, hl, ha =>
      refine ⟨[], ⟨1, fun k hk => ?_⟩, by simp, by simp [OneC]⟩
      obtain ⟨k, rfl⟩ : ∃ m, k = m + 1 := ⟨k - 1, by omega⟩
      simp only [spec_whParts.l0]
      rw [if_neg (by simp), List.append_nil]
    | x :: r, hm, hg, hs, hn, hl, ha =>
      have hgx := (goodT_iff x).1 (hg x List.mem_cons_self)
      obtain ⟨R, hR1, hR2⟩ := whPart_ev hg (by omega) (n := x.f0) ⟨by omega, by omega⟩
      have hself : sortN (x :: r) = x :: r := sortN_self hg hs hn
      rw [hself] at hR2
      obtain ⟨part, hpart⟩ : ∃ p, p = (x :: r).filter fun t => decide (t.f0 ∈ R) := ⟨_, rfl⟩
      rw [← hpart] at hR2
      have hpl : part.length ≤ 55 := by rw [hpart]; exact Nat.le_trans (List.length_filter_le _ _) hl
      have hxp : x ∈ part := by rw [hpart]; exact List.mem_filter.2 ⟨List.mem_cons_self, decide_eq_true ((hR1 _).2 (.refl _))⟩
      have hth := tiThose_ev (x :: r) part false (by omega) (by omega)
      rw [hself] at hth
      obtain ⟨rest, hrest⟩ : ∃ q, q = (x :: r).filter fun t => decide (t ∈ part) == false := ⟨_, rfl⟩
      rw [← hrest] at hth
      have hsub : ∀ t ∈ rest, t ∈ x :: r := fun t ht => by rw [hrest] at ht; exact (List.mem_filter.1 ht).1
      have hrl : rest.length ≤ m := by
        have : rest.length < (x :: r).length := by
          rw [hrest, List.filter_cons, if_neg (by rw [decide_eq_true hxp]; decide)]
          have := List.length_filter_le (fun t => decide (t ∈ part) == false) r
          rw [List.length_cons]; omega
        omega
      have hrl2 : rest.length ≤ 55 := by rw [hrest]; exact Nat.le_trans (List.length_filter_le _ _) hl
      have hrl3 : rest.length < (x :: r).length := by
        rw [hrest, List.filter_cons, if_neg (by rw [decide_eq_true hxp]; decide)]
        have := List.length_filter_le (fun t => decide (t ∈ part) == false) r
        rw [List.length_cons]; omega
      obtain ⟨ps, e1, e2, e3⟩ := ih rest hrl (fun t ht => hg t (hsub t ht)) (by rw [hrest]; exact hs.sublist List.filter_sublist) (by rw [hrest]; exact hn.sublist List.filter_sublist) hrl2 (acc ++ [part]) (by rw [List.length_append, List.length_singleton]; omega)
      rw [List.append_assoc] at e1
      refine ⟨part :: ps, ?_, by simp, ?_⟩
      · have r0 : rd_T41 (x :: r) 0 = x := rdT_nat _ 0 _ rfl
        refine Ev.step (f := fun k => (spec_whPart.f k (x :: r) x.f0).bind fun p => if acc.length < 5864062014805 then ((spec_tiThose.f k (x :: r) p false).bind fun q => spec_whParts.l0 k (acc ++ [p]) q) else none) (fun k => ?_) (Ev.bind hR2 (Ev.congr (fun k => by rw [if_pos (by omega)]) (Ev.bind hth e1)))
        simp only [spec_whParts.l0]
        rw [if_pos (by simp), if_pos (by simp), r0]
      · constructor
        · intro hle
          rw [List.length_cons] at hle
          have hps : ps = [] := List.length_eq_zero_iff.1 (by omega)
          have hre := e2.1 hps
          have hin : ∀ t ∈ x :: r, Conn (x :: r) x.f0 t.f0 := by
            intro t ht
            have : t ∈ part := by
              apply Classical.byContradiction
              intro hno
              have : t ∈ rest := by rw [hrest]; exact List.mem_filter.2 ⟨ht, by rw [decide_eq_false hno]; rfl⟩
              rw [hre] at this
              cases this
            rw [hpart] at this
            have := (List.mem_filter.1 this).2
            exact (hR1 _).1 (of_decide_eq_true this)
          intro t ht u hu
          exact (hin t ht).symm.trans (hin u hu)
        · intro hone
          have hre : rest = [] := by
            apply List.eq_nil_iff_forall_not_mem.2
            intro t ht
            have h1 := hsub t ht
            rw [hrest] at ht
            have h2 := (List.mem_filter.1 ht).2
            have hin : t ∈ part := by rw [hpart]; exact List.mem_filter.2 ⟨h1, decide_eq_true ((hR1 _).2 (hone x List.mem_cons_self t h1))⟩
            rw [decide_eq_true hin] at h2
            cases h2
          have := e2.2 hre
          rw [this]; simp
theorem OneC.congr {a b : List S41} (h : ∀ x, x ∈ a ↔ x ∈ b) : OneC a ↔ OneC b :=
  ⟨fun H t ht u hu => (H t ((h t).2 ht) u ((h u).2 hu)).congr fun x hx => (h x).1 hx, fun H t ht u hu => (H t ((h t).1 ht) u ((h u).1 hu)).congr fun x hx => (h x).2 hx⟩
theorem whParts_ev {h : List S41} (hg : ∀ t ∈ h, goodT t = true) (hl : h.length ≤ 1000000000) : ∃ ps, Ev (fun k => spec_whParts.f k h) ps ∧ (ps.length ≤ 1 ↔ OneC h) := by
  have hs := sortN_length h
  obtain ⟨ps, e1, _, e3⟩ := whParts_loop (sortN h).length (sortN h) (Nat.le_refl _) (sortN_good h) (sortN_sorted h) (sortN_nodup h) hs [] (by simp; omega)
  rw [List.nil_append] at e1
  exact ⟨ps, Ev.bind (tiSort_ev h hl) e1, e3.trans (OneC.congr (mem_sortN hg))⟩

end Go.Proofs.Ytcomlipkmcphfaa.Q
