/- Plain lists and numbers: what the program's functions and the reference's compute. -/
import Derived.Test.YtnooegfhffhfpaaP0
import Derived.Test.YtnooegfhffhfpaaPIb
import Derived.Test.YtnooegfhffhfpaaPIx
import Derived.Test.YtnooegfhffhfpaaQBaseF
import Derived.Test.YtnooegfhffhfpaaQBaseH
import Derived.Test.YtnooegfhffhfpaaQFleury
import Derived.Test.YtnooegfhffhfpaaQTrails
namespace Go.Proofs.Ytnooegfhffhfpaa.Q
open Go.RowKit Go.Proofs.Ytnooegfhffhfpaa.P Go.Proofs.YtnooegfhffhfpaaW.PrintWords Go.Proofs.YtnooegfhffhfpaaW.PrintLast Go.Proofs.YtnooegfhffhfpaaW.PrintMore
set_option linter.unusedVariables false
set_option linter.unusedSimpArgs false

theorem otherN_mk {n m : Int} (hn : 0 ≤ n ∧ n ≤ 9) (hm : 0 ≤ m ∧ m ≤ 9) : otherN n (mkT n m) = m ∧ hasN n (mkT n m) = true := by
  unfold otherN hasN
  rcases mkT_ends n m with ⟨a, b⟩ | ⟨a, b⟩
  · rw [a, b]
    refine ⟨?_, by simp⟩
    rw [wrap_eq (x := n + m) (by omega) (by omega), wrap_eq (by omega) (by omega)]; omega
  · rw [a, b]
    refine ⟨?_, by simp⟩
    rw [wrap_eq (x := m + n) (by omega) (by omega), wrap_eq (by omega) (by omega)]; omega
theorem hasN_iff (n : Int) (t : S39) : hasN n t = true ↔ t.f0 = n ∨ t.f1 = n := by
  unfold hasN
  by_cases c : t.f0 = n
  · rw [if_pos c]; simp [c]
  · rw [if_neg c]; simp [c]
theorem otherN_of {n : Int} (hn : 0 ≤ n ∧ n ≤ 9) {t : S39} (hg : goodT t = true) (h : hasN n t = true) : t = mkT n (otherN n t) ∧ 0 ≤ otherN n t ∧ otherN n t ≤ 9 := by
  obtain ⟨m, hm, h0, h9⟩ := mkT_of hg ((hasN_iff n t).1 h)
  have := (otherN_mk hn ⟨h0, h9⟩).1
  rw [← hm] at this
  rw [this]
  exact ⟨hm, h0, h9⟩
/-- By tiles or by numbers: the same sum. -/
theorem tiles_nums {n : Int} (hn : 0 ≤ n ∧ n ≤ 9) (G : Int → S39 → Int) : ∀ h : List S39, (∀ t ∈ h, goodT t = true) → h.Nodup →
    sumL (fun t => if hasN n t = true then G (otherN n t) t else 0) h = sumF (fun m => if mkT n m ∈ h then G m (mkT n m) else 0) (upFrom 0 10)
  | [], _, _ => by
    rw [sumF_zero _ fun x _ => by rw [if_neg (by simp)]]; rfl
  | t :: h, hg, hnd => by
    have hnd2 := List.nodup_cons.1 hnd
    have ih := tiles_nums hn G h (fun x hx => hg x (List.mem_cons_of_mem _ hx)) hnd2.2
    have gt := hg t List.mem_cons_self
    have hsplit : sumF (fun m => if mkT n m ∈ t :: h then G m (mkT n m) else 0) (upFrom 0 10) = sumF (fun m => if mkT n m = t then G m t else 0) (upFrom 0 10) + sumF (fun m => if mkT n m ∈ h then G m (mkT n m) else 0) (upFrom 0 10) := by
      rw [← sumF_add]
      apply sumF_congr
      intro m _
      by_cases c : mkT n m = t
      · have c1 : mkT n m ∈ t :: h := by rw [c]; exact List.mem_cons_self
        have c2 : ¬ mkT n m ∈ h := by rw [c]; exact hnd2.1
        rw [if_pos c1, if_pos c, if_neg c2, c]; omega
      · rw [if_neg c]
        by_cases d : mkT n m ∈ h
        · rw [if_pos (List.mem_cons_of_mem _ d), if_pos d]; omega
        · rw [if_neg (fun q => (List.mem_cons.1 q).elim c d), if_neg d]; rfl
    have hone : sumF (fun m => if mkT n m = t then G m t else 0) (upFrom 0 10) = if hasN n t = true then G (otherN n t) t else 0 := by
      cases hh : hasN n t with
      | true =>
        obtain ⟨h1, h2, h3⟩ := otherN_of hn gt hh
        have := sumF_single (f := fun m => if mkT n m = t then G m t else 0) (q := otherN n t) _ (upFrom_nodup 10 0) ((mem_up _).2 ⟨h2, h3⟩) fun x hx hne => if_neg fun c => hne (by
          have h5 := (otherN_mk hn ((mem_up x).1 hx)).1
          rw [c] at h5; exact h5.symm)
        rw [this, if_pos rfl, if_pos h1.symm]
      | false =>
        rw [if_neg (by decide)]
        refine sumF_zero _ fun m hm => if_neg fun c => ?_
        have := (otherN_mk hn ((mem_up m).1 hm)).2
        rw [c, hh] at this; cases this
    rw [sumL, ih, hsplit, hone]
theorem fold_sum (left : List S39) (P : S39 → Bool) (g : S39 → Int) (S : Nat → S39 → Int → Int) (hS : ∀ i t a, left[i]? = some t → P t = true → S i t (wrap64 a) = wrap64 (a + g t)) (a : Int) : ∀ j, j ≤ left.length →
    (List.range j).foldl (fun a i => match left[i]? with | some t => if P t = true then S i t a else a | none => a) (wrap64 a) = wrap64 (a + sumL (fun t => if P t = true then g t else 0) (left.take j)) := by
  intro j
  induction j with
  | zero => intro _; simp [sumL]
  | succ j ih =>
    intro hj
    obtain ⟨t, ht⟩ : ∃ x, left[j]? = some x := ⟨_, List.getElem?_eq_getElem (by omega)⟩
    rw [List.range_succ, List.foldl_append, ih (by omega), take_snoc left j t ht, sumL_append]
    simp only [List.foldl_cons, List.foldl_nil, ht]
    cases hp : P t with
    | true => rw [if_pos rfl, if_pos rfl, hS j t _ ht hp, Int.add_assoc]
    | false => rw [if_neg (by decide), if_neg (by decide), Int.add_zero]
theorem erase_idx : ∀ (l : List S39) (i : Nat) (t : S39), l[i]? = some t → l.Nodup → l.eraseIdx i = l.erase t
  | [], _, _, h, _ => by simp at h
  | x :: l, 0, t, h, _ => by
    obtain rfl : x = t := by simpa using h
    rw [List.erase_cons_head]; rfl
  | x :: l, i + 1, t, h, hn => by
    have hn2 := List.nodup_cons.1 hn
    have h2 : l[i]? = some t := by simpa using h
    have hne : ¬ (x == t) = true := fun c => hn2.1 (by rw [beq_iff_eq.1 c]; exact List.mem_of_getElem? h2)
    rw [List.erase_cons_tail (by simpa using hne), List.eraseIdx_cons_succ, erase_idx l i t h2 hn2.2]
theorem addW_sum (f : List Int → Int) : ∀ (m : Nat) (n : Int) (chain : List Int) (left : List S39) (a : Int), left.length ≤ m → chain.getLast?.getD 0 = n → (0 ≤ n ∧ n ≤ 9) → (∀ t ∈ left, goodT t = true) → left.Nodup →
    addW (fun ch a => wrap64 (a + f ch)) m chain left (wrap64 a) = wrap64 (a + sumT f left.length n chain left)
  | 0, n, chain, left, a, hl, hc, hn, hg, hnd => by
    obtain rfl := List.length_eq_zero_iff.1 (by omega : left.length = 0)
    simp only [addW, List.length_nil, sumT]
    rw [wrap_addl]
  | m + 1, n, chain, left, a, hl, hc, hn, hg, hnd => by
    by_cases hz : left = []
    · subst hz
      simp only [addW, List.length_nil, sumT]
      rw [if_pos trivial, wrap_addl]
    · obtain ⟨d, hd⟩ : ∃ d, left.length = d + 1 := ⟨left.length - 1, by have := List.length_pos_iff.2 hz; omega⟩
      simp only [addW]
      rw [if_neg hz, hc]
      have key := fold_sum left (hasN n) (fun t => sumT f d (otherN n t) (chain ++ [otherN n t]) (left.erase t)) (fun i t a => addW (fun ch a => wrap64 (a + f ch)) m (chain ++ [otherN n t]) (left.eraseIdx i) a) (by
        intro i t a ht hp
        have hi := (List.getElem?_eq_some_iff.1 ht).1
        have ge : left[i] = t := (List.getElem?_eq_some_iff.1 ht).2
        have he : left.eraseIdx i = left.erase t := by exact erase_idx left i t ht hnd
        have htm : t ∈ left := List.mem_of_getElem? ht
        have hle : (left.erase t).length = d := by rw [List.length_erase_of_mem htm]; omega
        have h1 := addW_sum f m (otherN n t) (chain ++ [otherN n t]) (left.erase t) a (by omega) (by simp) (otherN_of hn (hg t htm) hp).2 (fun x hx => hg x (List.mem_of_mem_erase hx)) (hnd.erase t)
        rw [hle] at h1
        rw [← he] at h1 ⊢
        exact h1) a left.length (Nat.le_refl _)
      rw [List.take_length] at key
      refine key.trans ?_
      rw [hd, sumT, tiles_nums hn (fun m t => sumT f d m (chain ++ [m]) (left.erase t)) left hg hnd]
theorem waysN_prod (own ch : List Int) : waysN own ch = wrap64 (prodI (fun v => (ch.count v : Int)) own) := by
  have H : ∀ (own : List Int) (a : Int), own.foldl (fun w n => wrap64 (w * (ch.count n : Int))) (wrap64 a) = wrap64 (a * prodI (fun v => (ch.count v : Int)) own) := by
    intro own
    induction own with
    | nil => intro a; simp [prodI]
    | cons n l ih => intro a; rw [List.foldl_cons, wrap_mull, ih, prodI, Int.mul_assoc]
  have := H own 1
  rw [wrap_eq (x := 1) (by omega) (by omega), Int.one_mul] at this
  exact this
theorem upFrom_snoc (d : Nat) : ∀ i, upFrom i (d + 1) = upFrom i d ++ [((i + d : Nat) : Int)] := by
  induction d with
  | zero => intro i; rfl
  | succ d ih =>
    intro i
    rw [upFrom, ih (i + 1), upFrom, List.cons_append, show i + 1 + d = i + (d + 1) by omega]
theorem sumF_append (f : Int → Int) (b : List Int) : ∀ a : List Int, sumF f (a ++ b) = sumF f a + sumF f b
  | [] => by simp [sumF]
  | n :: a => by rw [List.cons_append, sumF, sumF, sumF_append f b a, Int.add_assoc]
/-- All whole chains of h in all the ways. -/
def totalN (own : List Int) (h : List S39) : Int := sumF (fun n => prodI (facT h n) own * cntT h.length n h) (upFrom 0 10)
theorem wholesN_total (own : List Int) {h : List S39} (hg : ∀ t ∈ h, goodT t = true) (hn : h.Nodup) : wholesN own h 0 = wrap64 (totalN own h) := by
  have hf : (fun (ch : List Int) (a : Int) => wrap64 (a + waysN own ch)) = fun ch a => wrap64 (a + prodI (fun v => (ch.count v : Int)) own) := by
    funext ch a; rw [waysN_prod, wrap_addr]
  have H : ∀ j : Nat, j ≤ 10 → (List.range j).foldl (fun a (n : Nat) => addW (fun ch a => wrap64 (a + waysN own ch)) h.length [(n : Int)] h a) 0 = wrap64 (sumF (fun n => prodI (facT h n) own * cntT h.length n h) (upFrom 0 j)) := by
    intro j
    induction j with
    | zero => intro _; exact (wrap_eq (x := 0) (by omega) (by omega)).symm
    | succ j ih =>
      intro hj
      rw [List.range_succ, List.foldl_append, ih (by omega)]
      simp only [List.foldl_cons, List.foldl_nil]
      rw [hf, addW_sum _ h.length (j : Int) [(j : Int)] h _ (Nat.le_refl _) rfl (by omega) hg hn, sumT_ways own (by omega)]
      rw [upFrom_snoc, sumF_append, Nat.zero_add]
      simp only [sumF, Int.add_zero]
  exact H 10 (Nat.le_refl _)

end Go.Proofs.Ytnooegfhffhfpaa.Q
