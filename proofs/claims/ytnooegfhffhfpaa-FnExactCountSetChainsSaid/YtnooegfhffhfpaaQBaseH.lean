/- Plain lists and numbers: what the program's functions and the reference's compute. -/
import Derived.Test.YtnooegfhffhfpaaP0
import Derived.Test.YtnooegfhffhfpaaPIb
import Derived.Test.YtnooegfhffhfpaaPId
import Derived.Test.YtnooegfhffhfpaaPIf
import Derived.Test.YtnooegfhffhfpaaPSc
import Derived.Test.YtnooegfhffhfpaaQBaseF
import Derived.Test.YtnooegfhffhfpaaQBaseG
namespace Go.Proofs.Ytnooegfhffhfpaa.Q
open Go.RowKit Go.Proofs.Ytnooegfhffhfpaa.P Go.Proofs.YtnooegfhffhfpaaW.PrintWords Go.Proofs.YtnooegfhffhfpaaW.PrintLast Go.Proofs.YtnooegfhffhfpaaW.PrintMore
set_option linter.unusedVariables false
set_option linter.unusedSimpArgs false

/-! Odd -/
/-- The odd numbers of a list of tiles. -/
def oddT (l : List S39) : List Int := (upFrom 0 10).filter fun n => decide (timesT l n % 2 = 1)
theorem oddT_len (l : List S39) : (oddT l).length ≤ 10 := by
  have := List.length_filter_le (fun n => decide (timesT l n % 2 = 1)) (upFrom 0 10)
  rw [upFrom_length] at this
  exact this
theorem whOdd_loop (l : List S39) (hl : l.length ≤ 1000000000) : ∀ d i (acc : List Int), i + d = 10 → acc.length ≤ i → Ev (fun k => spec_whOdd.l0 k l acc (i : Int)) (acc ++ (upFrom i d).filter fun n => decide (timesT l n % 2 = 1)) := by
  intro d
  induction d with
  | zero =>
    intro i acc h ha
    refine ⟨1, fun k hk => ?_⟩
    obtain ⟨k, rfl⟩ : ∃ m, k = m + 1 := ⟨k - 1, by omega⟩
    simp only [spec_whOdd.l0]
    rw [if_neg (by omega)]
    simp [upFrom]
  | succ d ih =>
    intro i acc h ha
    have hb := timesT_bd l (i : Int)
    have hm : Int.tmod (timesT l (i : Int)) 2 = timesT l (i : Int) % 2 := Int.tmod_eq_emod_of_nonneg hb.1
    refine Ev.step (f := fun k => (spec_tiTimes.f k l (i : Int)).bind fun t => if Int.tmod t 2 = 1 then (if acc.length < 17592186044416 then spec_whOdd.l0 k l (acc ++ [(i : Int)]) ((i + 1 : Nat) : Int) else none) else spec_whOdd.l0 k l acc ((i + 1 : Nat) : Int)) (fun k => ?_) (Ev.bind (tiTimes_ev l i hl) ?_)
    · simp only [spec_whOdd.l0]
      rw [if_pos (by omega), wrap_succ (by omega)]
    · rw [upFrom, List.filter_cons]
      by_cases c : timesT l i % 2 = 1
      · have := ih (i + 1) (acc ++ [(i : Int)]) (by omega) (by simp; omega)
        rw [List.append_assoc] at this
        rw [if_pos (by simpa using c)]
        exact Ev.congr (fun k => by rw [hm, if_pos c, if_pos (by omega)]) this
      · have := ih (i + 1) acc (by omega) (by omega)
        rw [if_neg (by simpa using c)]
        exact Ev.congr (fun k => by rw [hm, if_neg c]) this
theorem whOdd_ev (l : List S39) (hl : l.length ≤ 1000000000) : Ev (fun k => spec_whOdd.f k l) (oddT l) := by
  have := whOdd_loop l hl 10 0 [] (by omega) (by simp)
  rw [List.nil_append] at this
  exact this
theorem all_ev {α : Type} (f : α → Nat → Bool) : ∀ l : List α, (∀ x ∈ l, ∃ K, ∀ k, K ≤ k → f x k = true) → ∃ K, ∀ k, K ≤ k → l.all (fun x => f x k) = true
  | [], _ => ⟨0, fun _ _ => rfl⟩
  | y :: l, h => by
    obtain ⟨K, hK⟩ := all_ev f l fun x hx => h x (List.mem_cons_of_mem _ hx)
    obtain ⟨K1, hK1⟩ := h y List.mem_cons_self
    refine ⟨K + K1, fun k hk => ?_⟩
    rw [List.all_cons, hK1 k (by omega), hK k (by omega)]; rfl
theorem odd_ev (l : List S39) (hl : l.length ≤ 400) : Ev (fun k => impl_odd.f k l) (oddT l) := by
  have hnum := numbers_ev l (by omega)
  have hk : ∀ n : Int, ∃ K, ∀ k, K ≤ k → timesOk k l n = true ∧ timesO k l n = timesT l n := by
    intro n
    obtain ⟨K, hK⟩ := times_ev l n (by omega)
    have hb := timesT_bd l n
    refine ⟨K, fun k hk => ?_⟩
    have h1 := hK k hk
    have e : impl_times.f k l n = some (timesT l n) := h1
    constructor
    · unfold timesOk
      rw [e]
      simp only [Option.any_some, decide_eq_true_eq]
      omega
    · unfold timesO
      rw [e]; rfl
  obtain ⟨K1, hK1⟩ := all_ev (fun n k => timesOk k l n && decide (timesO k l n = timesT l n)) (numsT l) (fun n _ => by
    obtain ⟨K, hK⟩ := hk n
    exact ⟨K, fun k hk => by rw [(hK k hk).1, decide_eq_true (hK k hk).2]; rfl⟩)
  obtain ⟨K2, hK2⟩ := hnum
  refine ⟨K1 + K2, fun k hk => ?_⟩
  have h1 := List.all_eq_true.1 (hK1 k (by omega))
  have h2 : impl_numbers.f k l = some (numsT l) := hK2 k (by omega)
  show impl_odd.f k l = _
  unfold impl_odd.f
  rw [h2, Option.bind_some, if_pos (List.all_eq_true.2 fun n hn => by have := h1 n hn; rw [Bool.and_eq_true] at this; exact this.1)]
  congr 1
  have e1 : (numsT l).filter (fun n => !decide (timesO k l n % 2 = 0)) = (numsT l).filter (fun n => decide (timesT l n % 2 = 1)) := by
    apply List.filter_congr
    intro n hn
    have := h1 n hn
    rw [Bool.and_eq_true, decide_eq_true_eq] at this
    rw [this.2]
    by_cases c : timesT l n % 2 = 0
    · rw [decide_eq_true c, decide_eq_false (by omega)]; rfl
    · rw [decide_eq_false c, decide_eq_true (by omega)]; rfl
  rw [e1]
  unfold numsT oddT
  rw [List.filter_filter]
  apply List.filter_congr
  intro n _
  have hb := timesT_bd l n
  by_cases c : timesT l n % 2 = 1
  · rw [decide_eq_true c, decide_eq_true (show timesT l n > 0 by omega)]; rfl
  · rw [decide_eq_false c]; rfl
/-! Parity -/
def sumF (f : Int → Int) : List Int → Int
  | [] => 0
  | n :: l => f n + sumF f l
theorem parity_count (f : Int → Int) : ∀ l : List Int, (((l.filter fun n => decide (f n % 2 = 1)).length : Int)) % 2 = sumF f l % 2
  | [] => rfl
  | n :: l => by
    have ih := parity_count f l
    rw [List.filter_cons, sumF]
    by_cases c : f n % 2 = 1
    · rw [if_pos (by simpa using c), List.length_cons]
      omega
    · rw [if_neg (by simpa using c)]
      omega
theorem sumF_add (f g : Int → Int) : ∀ l, sumF (fun n => f n + g n) l = sumF f l + sumF g l
  | [] => rfl
  | n :: l => by
    have := sumF_add f g l
    simp only [sumF]
    omega
theorem sumF_one (a : Int) : ∀ (d i : Nat), sumF (fun n => if a = n then 1 else 0) (upFrom i d) = if (i : Int) ≤ a ∧ a < (i + d : Nat) then 1 else 0
  | 0, i => by
    rw [if_neg (by omega)]; rfl
  | d + 1, i => by
    have ih := sumF_one a d (i + 1)
    rw [upFrom, sumF, ih]
    by_cases c : a = (i : Int)
    · rw [if_pos c, if_neg (by omega), if_pos (by omega)]; rfl
    · rw [if_neg c]
      by_cases c2 : (i : Int) ≤ a ∧ a < (i + (d + 1) : Nat)
      · rw [if_pos c2, if_pos (by omega)]; rfl
      · rw [if_neg c2, if_neg (by omega)]; rfl
theorem sum_times : ∀ h : List S39, (∀ t ∈ h, goodT t = true) → sumF (timesT h) (upFrom 0 10) = 2 * (h.length : Int)
  | [], _ => rfl
  | t :: h, hg => by
    have ih := sum_times h fun x hx => hg x (List.mem_cons_of_mem _ hx)
    have g := (goodT_iff t).1 (hg t List.mem_cons_self)
    have e : timesT (t :: h) = fun n => (fun n => (if t.f0 = n then 1 else 0) + (if t.f1 = n then 1 else 0)) n + timesT h n := rfl
    rw [e, sumF_add, sumF_add, sumF_one, sumF_one, if_pos (by omega), if_pos (by omega), ih, List.length_cons]
    omega
/-! Groups2 -/
theorem groups_one {h : List S39} (hg : ∀ t ∈ h, goodT t = true) : (groupsN (roundsN h h.length (upI 0 10)) (numsT h)).length ≤ 1 ↔ OneC h := by
  have hup : upI 0 10 = [0, 1, 2, 3, 4, 5, 6, 7, 8, 9] := rfl
  have hl : ∀ v, 0 ≤ v → v ≤ 9 → IsLeast h v (rd (roundsN h h.length (upI 0 10)) v) := by
    intro v h0 h9
    rw [roundsN_L, hup]
    exact groups_least hg v h0 h9
  generalize roundsN h h.length (upI 0 10) = l at hl
  have hnum : ∀ n ∈ numsT h, 0 ≤ n ∧ n ≤ 9 := by
    intro n hn
    unfold numsT at hn
    have := (mem_upFrom 10 0 n).1 (List.mem_filter.1 hn).1
    omega
  unfold groupsN
  rw [groupsP_len, upI_from]
  constructor
  · intro hle t ht u hu
    have ha : t.f0 ∈ numsT h := (mem_numsT hg _).2 ⟨t, ht, .inl rfl⟩
    have hb : u.f0 ∈ numsT h := (mem_numsT hg _).2 ⟨u, hu, .inl rfl⟩
    have na := hnum _ ha
    have nb := hnum _ hb
    have la := hl t.f0 na.1 na.2
    have lb := hl u.f0 nb.1 nb.2
    have da := conn_dom hg la.1 na
    have db := conn_dom hg lb.1 nb
    have ma : rd l t.f0 ∈ (upFrom 0 10).filter fun name => (numsT h).any fun n => decide (rd l n = name) := List.mem_filter.2 ⟨(mem_upFrom 10 0 _).2 (by omega), List.any_eq_true.2 ⟨_, ha, by simp⟩⟩
    have mb : rd l u.f0 ∈ (upFrom 0 10).filter fun name => (numsT h).any fun n => decide (rd l n = name) := List.mem_filter.2 ⟨(mem_upFrom 10 0 _).2 (by omega), List.any_eq_true.2 ⟨_, hb, by simp⟩⟩
    have heq : rd l t.f0 = rd l u.f0 := by
      generalize ((upFrom 0 10).filter fun name => (numsT h).any fun n => decide (rd l n = name)) = N at hle ma mb
      match N, hle, ma, mb with
      | [x], _, ma, mb => rw [List.mem_singleton.1 ma, List.mem_singleton.1 mb]
    have c1 := la.1
    rw [heq] at c1
    exact c1.trans lb.1.symm
  · intro hone
    refine nodup_one ((upFrom_nodup 10 0).sublist List.filter_sublist) fun a ha b hb => ?_
    obtain ⟨x, hx, ex⟩ := List.any_eq_true.1 (List.mem_filter.1 ha).2
    obtain ⟨y, hy, ey⟩ := List.any_eq_true.1 (List.mem_filter.1 hb).2
    rw [decide_eq_true_eq] at ex ey
    obtain ⟨t, ht, h2⟩ := (mem_numsT hg x).1 hx
    obtain ⟨u, hu, h3⟩ := (mem_numsT hg y).1 hy
    have nx := hnum x hx
    have ny := hnum y hy
    have cx : Conn h x t.f0 := by
      rcases h2 with e | e
      · rw [← e]; exact .refl _
      · rw [← e]; exact .bwd t (.refl _) ht
    have cy : Conn h y u.f0 := by
      rcases h3 with e | e
      · rw [← e]; exact .refl _
      · rw [← e]; exact .bwd u (.refl _) hu
    have cxy := (cx.trans (hone t ht u hu)).trans cy.symm
    have lx := (hl x nx.1 nx.2).move cxy
    have := lx.eq (hl y ny.1 ny.2)
    rw [← ex, ← ey, this]
/-! Can -/
theorem odd_even {h : List S39} (hg : ∀ t ∈ h, goodT t = true) : ((oddT h).length : Int) % 2 = 0 := by
  unfold oddT
  rw [parity_count (timesT h) (upFrom 0 10), sum_times h hg]
  omega
theorem canChain_ev {h : List S39} (hg : ∀ t ∈ h, goodT t = true) (hl : h.length ≤ 55) : ∃ b : Bool, (b = true ↔ OneC h ∧ (oddT h).length ≤ 2) ∧ Ev (fun k => impl_canChain.f k h) b := by
  have hgr := groups_ev hg hl
  have hone := groups_one hg
  have ho := odd_ev h (by omega)
  generalize groupsN (roundsN h h.length (upI 0 10)) (numsT h) = gs at hgr hone
  refine ⟨decide (gs.length ≤ 1) && decide ((oddT h).length ≤ 2), by rw [Bool.and_eq_true, decide_eq_true_eq, decide_eq_true_eq, hone], Ev.bind (g := fun k => impl_groups.f k h) hgr ?_⟩
  by_cases c : gs.length ≤ 1
  · refine Ev.congr (fun k => by rw [if_pos (by omega)]) (Ev.bind (g := fun k => impl_odd.f k h) ho (ev_const fun k => ?_))
    rw [decide_eq_true c, Bool.true_and]
    congr 1
    rw [decide_eq_decide]; omega
  · exact ev_const fun k => by rw [if_neg (by omega), decide_eq_false c]; rfl

end Go.Proofs.Ytnooegfhffhfpaa.Q
