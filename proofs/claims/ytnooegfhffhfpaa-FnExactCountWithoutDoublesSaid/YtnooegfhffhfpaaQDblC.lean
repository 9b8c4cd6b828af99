/- Plain lists and numbers: what the program's functions and the reference's compute. -/
import Derived.Test.YtnooegfhffhfpaaP0
import Derived.Test.YtnooegfhffhfpaaPIa
import Derived.Test.YtnooegfhffhfpaaPIb
import Derived.Test.YtnooegfhffhfpaaPIg4
import Derived.Test.YtnooegfhffhfpaaPIp
import Derived.Test.YtnooegfhffhfpaaPSm
import Derived.Test.YtnooegfhffhfpaaQBaseF
import Derived.Test.YtnooegfhffhfpaaQBaseG
namespace Go.Proofs.Ytnooegfhffhfpaa.Q
open Go.RowKit Go.Proofs.Ytnooegfhffhfpaa.P Go.Proofs.YtnooegfhffhfpaaW.PrintWords Go.Proofs.YtnooegfhffhfpaaW.PrintLast Go.Proofs.YtnooegfhffhfpaaW.PrintMore
set_option linter.unusedVariables false
set_option linter.unusedSimpArgs false

/-- The numbers of the doubles. -/
def dblT (l : List S39) : List Int := (l.filter fun t => decide (t.f0 = t.f1)).map fun t => t.f0
theorem dblT_length (l : List S39) : (dblT l).length ≤ l.length := by
  unfold dblT; rw [List.length_map]; exact List.length_filter_le _ _
theorem dblT_cons (x : S39) (l : List S39) : dblT (x :: l) = if x.f0 = x.f1 then x.f0 :: dblT l else dblT l := by
  unfold dblT
  by_cases h : x.f0 = x.f1
  · rw [if_pos h, List.filter_cons_of_pos (by simpa using h)]; rfl
  · rw [if_neg h, List.filter_cons_of_neg (by simpa using h)]
theorem dbl_impl (s : List S39) (hs : s.length ≤ 1000000000) : ∀ d i (acc : List Int), i + d = s.length → acc.length ≤ i → Ev (fun k => impl_doubles.l0 k acc s (s.length : Int) (i : Int)) (acc ++ dblT (s.drop i)) := by
  intro d
  induction d with
  | zero =>
    intro i acc h ha
    refine ⟨1, fun k hk => ?_⟩
    obtain ⟨k, rfl⟩ : ∃ m, k = m + 1 := ⟨k - 1, by omega⟩
    simp only [impl_doubles.l0]
    rw [if_neg (by omega), List.drop_of_length_le (by omega)]
    simp [dblT]
  | succ d ih =>
    intro i acc h ha
    have hi : i < s.length := by omega
    obtain ⟨x, hx⟩ : ∃ x, s[i]? = some x := ⟨_, List.getElem?_eq_getElem hi⟩
    have hd : s.drop i = x :: s.drop (i + 1) := by
      rw [List.drop_eq_getElem_cons hi]
      rw [List.getElem?_eq_getElem hi] at hx
      cases hx; rfl
    rw [hd, dblT_cons]
    by_cases c : x.f0 = x.f1
    · have := ih (i + 1) (acc ++ [x.f0]) (by omega) (by simp; omega)
      rw [List.append_assoc] at this
      rw [if_pos c]
      refine Ev.step (fun k => ?_) this
      simp only [impl_doubles.l0]
      rw [if_pos (by omega), if_pos (by omega), if_pos (by omega), rdT_nat s i x hx, wrap_succ (by omega), show impl_isDouble.f x.f0 x.f1 = some true from by unfold impl_isDouble.f; rw [beq_iff_eq.2 c], Option.bind_some, if_pos rfl, if_pos (by omega)]
    · have := ih (i + 1) acc (by omega) (by omega)
      rw [if_neg c]
      refine Ev.step (fun k => ?_) this
      simp only [impl_doubles.l0]
      rw [if_pos (by omega), if_pos (by omega), if_pos (by omega), rdT_nat s i x hx, wrap_succ (by omega), show impl_isDouble.f x.f0 x.f1 = some false from by unfold impl_isDouble.f; rw [beq_eq_false_iff_ne.2 c], Option.bind_some, if_neg (by decide)]
theorem doubles_ev {l : List S39} (h : ∀ x ∈ l, goodT x = true) (hn : l.Nodup) (hl : l.length ≤ 1000000000) : Ev (fun k => impl_doubles.f k l) (dblT (sortN l)) := by
  have hs := sortN_length l
  have := dbl_impl (sortN l) (by omega) (sortN l).length 0 [] (by omega) (by simp)
  refine Ev.congr (fun k => ?_) this
  unfold impl_doubles.f
  rw [sorted_some h hn hl]; rfl
theorem whDoubles_loop (s : List S39) (hs : s.length ≤ 1000000000) : ∀ d i (acc : List Int), i + d = s.length → acc.length ≤ i → Ev (fun k => spec_whDoubles.l0 k acc s (s.length : Int) (i : Int)) (acc ++ dblT (s.drop i)) := by
  intro d
  induction d with
  | zero =>
    intro i acc h ha
    refine ⟨1, fun k hk => ?_⟩
    obtain ⟨k, rfl⟩ : ∃ m, k = m + 1 := ⟨k - 1, by omega⟩
    simp only [spec_whDoubles.l0]
    rw [if_neg (by omega), List.drop_of_length_le (by omega)]
    simp [dblT]
  | succ d ih =>
    intro i acc h ha
    have hi : i < s.length := by omega
    obtain ⟨x, hx⟩ : ∃ x, s[i]? = some x := ⟨_, List.getElem?_eq_getElem hi⟩
    have hd : s.drop i = x :: s.drop (i + 1) := by
      rw [List.drop_eq_getElem_cons hi]
      rw [List.getElem?_eq_getElem hi] at hx
      cases hx; rfl
    rw [hd, dblT_cons]
    by_cases c : x.f0 = x.f1
    · have := ih (i + 1) (acc ++ [x.f0]) (by omega) (by simp; omega)
      rw [List.append_assoc] at this
      rw [if_pos c]
      refine Ev.step (fun k => ?_) this
      simp only [spec_whDoubles.l0]
      rw [if_pos (by omega), if_pos (by omega), if_pos (by omega), rdT_nat s i x hx, wrap_succ (by omega), if_pos c, if_pos (by omega)]
    · have := ih (i + 1) acc (by omega) (by omega)
      rw [if_neg c]
      refine Ev.step (fun k => ?_) this
      simp only [spec_whDoubles.l0]
      rw [if_pos (by omega), if_pos (by omega), if_pos (by omega), rdT_nat s i x hx, wrap_succ (by omega), if_neg c]
theorem whDoubles_ev (l : List S39) (hl : l.length ≤ 1000000000) : Ev (fun k => spec_whDoubles.f k l) (dblT l) := whDoubles_loop l hl l.length 0 [] (by omega) (by simp)
/-- The tiles that are no doubles. -/
def plnT (l : List S39) : List S39 := l.filter fun t => decide (t.f0 < t.f1)
theorem plnT_cons (x : S39) (l : List S39) : plnT (x :: l) = if x.f0 < x.f1 then x :: plnT l else plnT l := by
  unfold plnT
  by_cases h : x.f0 < x.f1
  · rw [if_pos h, List.filter_cons_of_pos (by simpa using h)]
  · rw [if_neg h, List.filter_cons_of_neg (by simpa using h)]
theorem whPlain_loop (s : List S39) (hs : s.length ≤ 1000000000) : ∀ d i (acc : List S39), i + d = s.length → acc.length ≤ i → Ev (fun k => spec_whPlain.l0 k acc s (s.length : Int) (i : Int)) (acc ++ plnT (s.drop i)) := by
  intro d
  induction d with
  | zero =>
    intro i acc h ha
    refine ⟨1, fun k hk => ?_⟩
    obtain ⟨k, rfl⟩ : ∃ m, k = m + 1 := ⟨k - 1, by omega⟩
    simp only [spec_whPlain.l0]
    rw [if_neg (by omega), List.drop_of_length_le (by omega)]
    simp [plnT]
  | succ d ih =>
    intro i acc h ha
    have hi : i < s.length := by omega
    obtain ⟨x, hx⟩ : ∃ x, s[i]? = some x := ⟨_, List.getElem?_eq_getElem hi⟩
    have hd : s.drop i = x :: s.drop (i + 1) := by
      rw [List.drop_eq_getElem_cons hi]
      rw [List.getElem?_eq_getElem hi] at hx
      cases hx; rfl
    rw [hd, plnT_cons]
    by_cases c : x.f0 < x.f1
    · have := ih (i + 1) (acc ++ [⟨x.f0, x.f1⟩]) (by omega) (by simp; omega)
      rw [List.append_assoc] at this
      rw [if_pos c]
      refine Ev.step (fun k => ?_) this
      simp only [spec_whPlain.l0]
      rw [if_pos (by omega), if_pos (by omega), if_pos (by omega), rdT_nat s i x hx, wrap_succ (by omega), if_pos c, if_pos (by omega)]
    · have := ih (i + 1) acc (by omega) (by omega)
      rw [if_neg c]
      refine Ev.step (fun k => ?_) this
      simp only [spec_whPlain.l0]
      rw [if_pos (by omega), if_pos (by omega), if_pos (by omega), rdT_nat s i x hx, wrap_succ (by omega), if_neg c]
theorem whPlain_ev (l : List S39) (hl : l.length ≤ 1000000000) : Ev (fun k => spec_whPlain.f k l) (plnT (sortN l)) := by
  have hs := sortN_length l
  exact Ev.bind (tiSort_ev l hl) (whPlain_loop (sortN l) (by omega) (sortN l).length 0 [] (by omega) (by simp))
theorem plain_some {l : List S39} (h : ∀ x ∈ l, goodT x = true) (hn : l.Nodup) (hl : l.length ≤ 1000000000) : impl_plain.f l = some (plnT (sortN l)) := by
  unfold impl_plain.f
  rw [if_pos ⟨by omega, fun x hx => good_in (h x hx)⟩, mergeSort_eq h hn]
  unfold plnT
  congr 1
  apply List.filter_congr
  intro t ht
  have g := (goodT_iff t).1 (sortN_good l t ht)
  by_cases e : t.f0 = t.f1
  · rw [beq_iff_eq.2 e]; simp; omega
  · rw [beq_eq_false_iff_ne.2 e]; simp; omega
theorem setOf_eval (n : Nat) (h : n < 10) : impl_setOf.f 200 (n : Int) = some (setN n) := by
  have H : ∀ m : Fin 10, ((impl_setOf.f 200 ((m.val : Nat) : Int)).map (·.map pairT)) = some ((setN m.val).map pairT) := by decide +kernel
  have := H ⟨n, h⟩
  simp only [Option.map_eq_some_iff] at this
  obtain ⟨a, ha, he⟩ := this
  rw [ha, pairs_inj _ _ he]
theorem setOf_ev (n : Nat) (h : n < 10) : Ev (fun k => impl_setOf.f k (n : Int)) (setN n) := Ev.of (fun k => impl_setOf.mono _ _) (setOf_eval n h)

end Go.Proofs.Ytnooegfhffhfpaa.Q
