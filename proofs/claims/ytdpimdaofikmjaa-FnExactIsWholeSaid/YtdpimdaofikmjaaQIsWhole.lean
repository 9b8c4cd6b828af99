/- Plain lists and numbers: what the program's functions and the reference's compute. -/
import Derived.Test.YtdpimdaofikmjaaP0
import Derived.Test.YtdpimdaofikmjaaPFIsWhole
import Derived.Test.YtdpimdaofikmjaaPIb
import Derived.Test.YtdpimdaofikmjaaPSa
import Derived.Test.YtdpimdaofikmjaaPslicesEqualTile
import Derived.Test.YtdpimdaofikmjaaPspecwhChain
import Derived.Test.YtdpimdaofikmjaaQChain
import Derived.Test.YtdpimdaofikmjaaQHand
import Derived.Test.YtdpimdaofikmjaaQPick
import Derived.Test.YtdpimdaofikmjaaQScaf
import Derived.Test.YtdpimdaofikmjaaQScaf2
import Derived.Test.YtdpimdaofikmjaaQSetMore
import Derived.Test.YtdpimdaofikmjaaQSorted
import Derived.Test.YtdpimdaofikmjaaQThose
namespace Go.Proofs.Ytdpimdaofikmjaa.Q
open Go.RowKit Go.Proofs.Ytdpimdaofikmjaa.P Go.Proofs.YtdpimdaofikmjaaW.PrintWords Go.Proofs.YtdpimdaofikmjaaW.PrintLast Go.Proofs.YtdpimdaofikmjaaW.PrintMore
set_option linter.unusedVariables false
set_option linter.unusedSimpArgs false

theorem whChain_loop : ∀ (suf pre : List Int) (a : Int) (acc : List S67), (pre ++ a :: suf).length ≤ 1000000000 → acc.length ≤ pre.length → Ev (fun k => spec_whChain.l0 k (pre ++ a :: suf) acc ((pre.length + 1 : Nat) : Int)) (acc ++ tilesT (a :: suf), handB (acc ++ tilesT (a :: suf))) := by
  intro suf
  induction suf with
  | nil =>
    intro pre a acc hl ha
    have h := tiHand_ev acc
    refine Ev.step (f := fun k => (spec_tiHand.f k acc).bind fun t => some (acc, t)) (fun k => ?_) ?_
    · simp only [spec_whChain.l0]
      rw [if_neg (by simp)]
    · have e : acc ++ tilesT [a] = acc := by simp [tilesT]
      rw [e]
      exact Ev.bind h (Ev.now _)
  | cons b suf ih =>
    intro pre a acc hl ha
    have hlen : (pre ++ a :: b :: suf).length = pre.length + suf.length + 2 := by simp; omega
    have := ih (pre ++ [a]) b (acc ++ [mkT a b]) (by simpa using hl) (by simp; omega)
    rw [List.append_assoc, List.append_assoc] at this
    have e0 : (((pre ++ [a]).length + 1 : Nat) : Int) = ((pre.length + 1 + 1 : Nat) : Int) := by simp
    rw [e0] at this
    have w1 : wrap64 (((pre.length + 1 : Nat) : Int) - 1) = (pre.length : Int) := by rw [wrap_eq (by omega) (by omega)]; omega
    have r2 : rd (pre ++ a :: b :: suf) ((pre.length + 1 : Nat) : Int) = b := rd_nat _ _ _ (by simp)
    refine Ev.step (fun k => ?_) this
    simp only [spec_whChain.l0]
    rw [if_pos (by omega), w1, if_pos (by omega), if_pos (by omega), if_pos (by omega), rd_at, r2, tiOf_some, Option.bind_some, if_pos (by omega), wrap_succ (by omega)]
    rfl
/-- What whChain gives. -/
def whC (l : List Int) : List S67 × Bool := if 1 ≤ l.length ∧ l.length ≤ 56 ∧ inB l = true then (tilesT l, handB (tilesT l)) else ([], false)
theorem whChain_ev (l : List Int) (hl : l.length ≤ 1000000000) : Ev (fun k => spec_whChain.f k l) (whC l) := by
  have hin : spec_l1In.f (l.length : Int) 1 56 = some (decide (1 ≤ l.length) && decide (l.length ≤ 56)) := by
    unfold spec_l1In.f
    by_cases h : (l.length : Int) ≥ 1
    · rw [if_pos h, decide_eq_true (show 1 ≤ l.length by omega), Bool.true_and]
      congr 1
      rw [decide_eq_decide]; omega
    · rw [if_neg h, decide_eq_false (show ¬ 1 ≤ l.length by omega)]; rfl
  have bad : Ev (fun k => spec_whChain.j0 k l true) ([], false) := ⟨1, fun k hk => by obtain ⟨k, rfl⟩ : ∃ m, k = m + 1 := ⟨k - 1, by omega⟩; simp only [spec_whChain.j0, ↓reduceIte]⟩
  by_cases h : 1 ≤ l.length ∧ l.length ≤ 56
  · have ht : (decide (1 ≤ l.length) && decide (l.length ≤ 56)) = true := by rw [decide_eq_true h.1, decide_eq_true h.2]; rfl
    rw [ht] at hin
    refine Ev.congr (f := fun k => (spec_l1All.f k l 0 9).bind fun t => spec_whChain.j0 k l (!t)) (fun k => by
      show (spec_l1In.f (l.length : Int) 1 56).bind _ = _
      rw [hin, Option.bind_some, if_pos rfl]) (Ev.bind (f := fun k t => spec_whChain.j0 k l (!t)) (l1All_ev l hl) ?_)
    cases hi : inB l with
    | false =>
      rw [show whC l = ([], false) by unfold whC; rw [if_neg (by rw [hi]; simp)]]
      exact bad
    | true =>
      rw [show whC l = (tilesT l, handB (tilesT l)) by unfold whC; rw [if_pos ⟨h.1, h.2, hi⟩]]
      refine Ev.step (f := fun k => spec_whChain.l0 k l [] 1) (fun k => by simp only [spec_whChain.j0, Bool.not_true, Bool.false_eq_true, ↓reduceIte]) ?_
      match l, h with
      | a :: suf, _ =>
        have := whChain_loop suf [] a [] (by simpa using hl) (by simp)
        simpa using this
  · have ht : (decide (1 ≤ l.length) && decide (l.length ≤ 56)) = false := by
      rw [Bool.and_eq_false_iff, decide_eq_false_iff_not, decide_eq_false_iff_not]; omega
    rw [ht] at hin
    rw [show whC l = ([], false) by unfold whC; rw [if_neg (fun c => h ⟨c.1, c.2.1⟩)]]
    refine Ev.congr (fun k => ?_) bad
    show (spec_l1In.f (l.length : Int) 1 56).bind _ = _
    rw [hin, Option.bind_some, if_neg (by decide)]
theorem equalT_loop (a b : List S67) (hl : a.length = b.length) (ha : a.length ≤ 1000000000) : ∀ d i, i + d = a.length → Ev (fun k => slices_Equal_Tile.l0 k a b (a.length : Int) (i : Int)) (decide (a.drop i = b.drop i)) := by
  intro d
  induction d with
  | zero =>
    intro i h
    refine ⟨1, fun k hk => ?_⟩
    obtain ⟨k, rfl⟩ : ∃ m, k = m + 1 := ⟨k - 1, by omega⟩
    simp only [slices_Equal_Tile.l0]
    rw [if_neg (by omega), List.drop_of_length_le (by omega), List.drop_of_length_le (by omega)]
    simp
  | succ d ih =>
    intro i h
    have hi : i < a.length := by omega
    have hi2 : i < b.length := by omega
    have ex := List.getElem?_eq_getElem hi
    have ey := List.getElem?_eq_getElem hi2
    have hq : (!(a[i].f0 == b[i].f0) || !(a[i].f1 == b[i].f1)) = !decide (a[i] = b[i]) := by
      by_cases e : a[i] = b[i]
      · simp [e]
      · rw [decide_eq_false e]
        by_cases e0 : a[i].f0 = b[i].f0
        · have : ¬ a[i].f1 = b[i].f1 := fun e1 => e ((tile_ext _ _).2 ⟨e0, e1⟩)
          simp [this]
        · simp [e0]
    by_cases e : a[i] = b[i]
    · have hd : decide (a.drop i = b.drop i) = decide (a.drop (i + 1) = b.drop (i + 1)) := by
        rw [List.drop_eq_getElem_cons hi, List.drop_eq_getElem_cons hi2]
        simp only [List.cons.injEq, e, true_and]
      rw [hd]
      refine Ev.step (f := fun k => slices_Equal_Tile.l0 k a b (a.length : Int) ((i + 1 : Nat) : Int)) (fun k => ?_) (ih (i + 1) (by omega))
      simp only [slices_Equal_Tile.l0]
      rw [if_pos (by omega), if_pos (by omega), if_pos (by omega), if_pos (by omega), rdT_nat a i _ ex, rdT_nat b i _ ey, hq, decide_eq_true e, if_neg (by decide), wrap_succ (by omega)]
    · have hd : decide (a.drop i = b.drop i) = false := by
        rw [List.drop_eq_getElem_cons hi, List.drop_eq_getElem_cons hi2]
        simp only [List.cons.injEq, e, false_and, decide_false]
      rw [hd]
      refine Ev.step (f := fun _ => some false) (fun k => ?_) (Ev.now _)
      simp only [slices_Equal_Tile.l0]
      rw [if_pos (by omega), if_pos (by omega), if_pos (by omega), if_pos (by omega), rdT_nat a i _ ex, rdT_nat b i _ ey, hq, decide_eq_false e, if_pos (by decide)]
theorem equalT_ev (a b : List S67) (ha : a.length ≤ 1000000000) : Ev (fun k => slices_Equal_Tile.f k a b) (decide (a = b)) := by
  unfold slices_Equal_Tile.f
  by_cases h : a.length = b.length
  · have := equalT_loop a b h ha a.length 0 (by omega)
    simp only [List.drop_zero] at this
    exact Ev.congr (f := fun k => slices_Equal_Tile.l0 k a b (a.length : Int) ((0 : Nat) : Int)) (fun k => by rw [if_pos (by omega)]; rfl) this
  · refine ev_const fun k => ?_
    rw [if_neg (by omega)]
    simp only [Option.some.injEq]
    symm
    rw [decide_eq_false_iff_not]
    intro e
    exact h (by rw [e])
theorem whole_iff {t h : List S67} (gt : ∀ x ∈ t, goodT x = true) (nt : t.Nodup) (gh : ∀ x ∈ h, goodT x = true) (nh : h.Nodup) : sortN t = sortN h ↔ t.length = h.length ∧ ((sortN h).filter fun x => decide (x ∈ t) == false) = [] := by
  have lt := (sortN_perm gt nt).length_eq
  have lh := (sortN_perm gh nh).length_eq
  constructor
  · intro e
    refine ⟨by rw [← lt, ← lh, e], ?_⟩
    rw [List.filter_eq_nil_iff]
    intro x hx
    rw [← e, mem_sortN gt] at hx
    rw [decide_eq_true hx]; decide
  · rintro ⟨hl, hf⟩
    rw [List.filter_eq_nil_iff] at hf
    have sub : ∀ x ∈ h, x ∈ t := by
      intro x hx
      have := hf x ((mem_sortN gh x).2 hx)
      by_cases c : x ∈ t
      · exact c
      · rw [decide_eq_false c] at this; exact absurd rfl this
    apply sortN_congr
    intro x
    refine ⟨fun hx => ?_, sub x⟩
    by_cases c : x ∈ h
    · exact c
    · have := nodup_le (x :: h) t (List.nodup_cons.2 ⟨c, nh⟩) (fun y hy => by
        rcases List.mem_cons.1 hy with rfl | hy
        · exact hx
        · exact sub y hy)
      rw [List.length_cons] at this
      omega
theorem IsWhole_same (hand : List S67) (ch : List Int) (hch : ch.length ≤ 1048576) : ∃ r, Ev (fun k => spec_IsWhole.f k hand ch) r ∧ Ev (fun k => impl_IsWhole.f k hand ch) r := by
  have h1 := tiHand_ev hand
  have h2 := IsHand_ev hand
  cases hc : handB hand with
  | false =>
    rw [hc] at h1 h2
    exact ⟨(false, false), bind_false h1 (Ev.now _), bind_false h2 (Ev.now _)⟩
  | true =>
    rw [hc] at h1 h2
    have na := handB_len hc
    have h3 := whChain_ev ch (by omega)
    have h4 := IsChain_ev ch (by omega)
    cases hd : chainB ch with
    | false =>
      rw [hd] at h4
      have hw : (whC ch).2 = false := by
        unfold whC
        by_cases c : 1 ≤ ch.length ∧ ch.length ≤ 56 ∧ inB ch = true
        · rw [if_pos c, handB_tiles c.1 c.2.2 c.2.1, hd]
        · rw [if_neg c]
      exact ⟨(false, true), bind_true h1 (Ev.bind h3 (ev_const fun k => by rw [hw, if_neg (by decide)])), bind_true h2 (bind_false h4 (Ev.now _))⟩
    | true =>
      rw [hd] at h4
      have nc := chainB_len hd
      have hi : inB ch = true := (inB_iff ch).2 (chainB_in hd)
      have hw : whC ch = (tilesT ch, true) := by
        unfold whC
        rw [if_pos ⟨nc.1, nc.2, hi⟩, handB_tiles nc.1 hi nc.2, hd]
      rw [hw] at h3
      have gt := tilesT_good ch hi
      have nt := chainB_nodup hd
      have htl := tilesT_length ch
      have hth := tiThose_ev hand (tilesT ch) false (by omega) (by omega)
      have hlt := sortN_length (tilesT ch)
      refine ⟨(decide (sortN (tilesT ch) = sortN hand), true), bind_true h1 (Ev.bind h3 ?_), bind_true h2 (bind_true h4 (Ev.bind (tilesOf_ev ch (by omega)) ?_))⟩
      · have hiff := whole_iff gt nt (handB_good hc) (handB_nodup hc)
        by_cases hl : (tilesT ch).length = hand.length
        · refine Ev.congr (fun k => by rw [if_pos rfl, if_pos (show (((tilesT ch, true) : List S67 × Bool).1.length : Int) = (hand.length : Int) by show ((tilesT ch).length : Int) = _; omega)]) (Ev.bind (f := fun _ (t : List S67) => some (((t.length : Int) == 0), true)) hth (ev_const fun k => ?_))
          congr 2
          by_cases e : sortN (tilesT ch) = sortN hand
          · rw [decide_eq_true e, (hiff.1 e).2]; rfl
          · rw [decide_eq_false e]
            have : ((sortN hand).filter fun x => decide (x ∈ tilesT ch) == false) ≠ [] := fun c => e (hiff.2 ⟨hl, c⟩)
            have hpos := List.length_pos_iff.2 this
            rw [beq_eq_false_iff_ne]; omega
        · refine ev_const fun k => ?_
          rw [if_pos rfl, if_neg (show ¬ (((tilesT ch, true) : List S67 × Bool).1.length : Int) = (hand.length : Int) by show ¬ ((tilesT ch).length : Int) = _; omega)]
          rw [decide_eq_false (fun e => hl (hiff.1 e).1)]
      · refine Ev.congr (f := fun k => (slices_Equal_Tile.f k (sortN (tilesT ch)) (sortN hand)).bind fun t => some (t, true)) (fun k => ?_) (Ev.bind (equalT_ev _ _ (by omega)) (Ev.now _))
        rw [sorted_some gt nt (by omega), Option.bind_some, sorted_some (handB_good hc) (handB_nodup hc) (by omega), Option.bind_some]

end Go.Proofs.Ytdpimdaofikmjaa.Q
