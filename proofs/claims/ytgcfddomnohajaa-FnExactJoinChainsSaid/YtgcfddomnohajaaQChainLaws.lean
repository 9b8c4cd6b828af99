/- Plain lists and numbers: what the program's functions and the reference's compute. -/
import Derived.Test.YtgcfddomnohajaaPFEndsOfChain
import Derived.Test.YtgcfddomnohajaaPFIsChain
import Derived.Test.YtgcfddomnohajaaPFIsRing
import Derived.Test.YtgcfddomnohajaaPFTilesOfChain
import Derived.Test.YtgcfddomnohajaaPFTurnChain
import Derived.Test.YtgcfddomnohajaaPIc
import Derived.Test.YtgcfddomnohajaaPIf
import Derived.Test.YtgcfddomnohajaaPSd
import Derived.Test.YtgcfddomnohajaaQChain
import Derived.Test.YtgcfddomnohajaaQHand
import Derived.Test.YtgcfddomnohajaaQScaf
namespace Go.Proofs.Ytgcfddomnohajaa.Q
open Go.RowKit Go.Proofs.Ytgcfddomnohajaa.P Go.Proofs.YtgcfddomnohajaaW.PrintWords Go.Proofs.YtgcfddomnohajaaW.PrintLast Go.Proofs.YtgcfddomnohajaaW.PrintMore
set_option linter.unusedVariables false
set_option linter.unusedSimpArgs false

/-- A test, and what follows it. -/
theorem guard_ev {α : Type} {g : Nat → Option Bool} {b : Bool} {A : Nat → Option α} {z r : α} (hg : Ev g b) (h1 : b = true → Ev A r) (h2 : b = false → r = z) : Ev (fun k => (g k).bind fun t => if t = true then A k else some z) r := by
  refine Ev.bind hg ?_
  cases b with
  | true => exact Ev.congr (fun k => by rw [if_pos rfl]) (h1 rfl)
  | false => rw [h2 rfl]; exact ev_const (fun k => by rw [if_neg (by decide)])
theorem IsChain_same (l : List Int) (hl : l.length ≤ 1048576) : ∃ r, Ev (fun k => spec_IsChain.f k l) r ∧ Ev (fun k => impl_IsChain.f k l) r :=
  ⟨chainB l, Ev.bind (haGood_ev l (by omega)) (Ev.now _), IsChain_ev l (by omega)⟩
theorem EndsOfChain_same (l : List Int) (hl : l.length ≤ 1048576) : ∃ r, Ev (fun k => spec_EndsOfChain.f k l) r ∧ Ev (fun k => impl_EndsOfChain.f k l) r := by
  cases hc : chainB l with
  | false =>
    have h1 := haGood_ev l (by omega)
    have h2 := IsChain_ev l (by omega)
    rw [hc] at h1 h2
    exact ⟨(0, 0, false), guard_ev h1 (fun h => by cases h) (fun _ => rfl), guard_ev h2 (fun h => by cases h) (fun _ => rfl)⟩
  | true =>
    have h1 := haGood_ev l (by omega)
    have h2 := IsChain_ev l (by omega)
    rw [hc] at h1 h2
    have hn := chainB_len hc
    obtain ⟨w1, w2⟩ := rd_last l hn.1 (by omega)
    refine ⟨(l[0], l[l.length - 1], true), guard_ev h1 (fun _ => ?_) (fun h => by cases h), guard_ev h2 (fun _ => ?_) (fun h => by cases h)⟩
    · exact ev_const (fun k => by rw [w1, if_pos (by omega), if_pos (by omega), if_pos (by omega), rd_zero l hn.1, w2])
    · have : impl_ends.f l = some (l[0], l[l.length - 1]) := by
        unfold impl_ends.f
        rw [w1, if_pos (by omega), if_pos (by omega), if_pos (by omega), rd_zero l hn.1, w2]
      exact ev_const (fun k => by rw [this]; rfl)
theorem haRing_some (l : List Int) (h0 : 0 < l.length) (hl : l.length ≤ 1000000000) : spec_haRing.f l = some (decide (1 < l.length) && (l[0] == l[l.length - 1])) := by
  obtain ⟨w1, w2⟩ := rd_last l h0 hl
  unfold spec_haRing.f
  by_cases h : (l.length : Int) > 1
  · rw [if_pos h, w1, if_pos (by omega), if_pos (by omega), if_pos (by omega), rd_zero l h0, w2, decide_eq_true (by omega)]; rfl
  · rw [if_neg h, decide_eq_false (by omega)]; rfl
theorem IsRing_spec (l : List Int) (hl : l.length ≤ 1000000000) (h0 : 0 < l.length) (hc : chainB l = true) : Ev (fun k => spec_IsRing.f k l) (decide (1 < l.length) && (l[0] == l[l.length - 1]), true) := by
  have h1 := haGood_ev l (by omega)
  rw [hc] at h1
  exact guard_ev h1 (fun _ => ev_const (fun k => by rw [haRing_some l h0 hl]; rfl)) (fun h => by cases h)
theorem IsRing_impl (l : List Int) (hl : l.length ≤ 1000000000) (h0 : 0 < l.length) (hc : chainB l = true) : Ev (fun k => impl_IsRing.f k l) (decide (1 < l.length) && (l[0] == l[l.length - 1]), true) := by
  have h2 := IsChain_ev l (by omega)
  rw [hc] at h2
  obtain ⟨w1, w2⟩ := rd_last l h0 hl
  have he : impl_ends.f l = some (l[0], l[l.length - 1]) := by
    unfold impl_ends.f
    rw [w1, if_pos (by omega), if_pos (by omega), if_pos (by omega), rd_zero l h0, w2]
  refine guard_ev h2 (fun _ => ?_) (fun h => by cases h)
  by_cases h : (l.length : Int) > 1
  · exact ev_const (fun k => by rw [he, Option.bind_some, if_pos h, decide_eq_true (by omega)]; rfl)
  · exact ev_const (fun k => by rw [he, Option.bind_some, if_neg h, decide_eq_false (by omega)]; rfl)
theorem IsRing_same (l : List Int) (hl : l.length ≤ 1048576) : ∃ r, Ev (fun k => spec_IsRing.f k l) r ∧ Ev (fun k => impl_IsRing.f k l) r := by
  cases hc : chainB l with
  | false =>
    have h1 := haGood_ev l (by omega)
    have h2 := IsChain_ev l (by omega)
    rw [hc] at h1 h2
    exact ⟨(false, false), guard_ev h1 (fun h => by cases h) (fun _ => rfl), guard_ev h2 (fun h => by cases h) (fun _ => rfl)⟩
  | true =>
    have hn := chainB_len hc
    exact ⟨_, IsRing_spec l (by omega) hn.1 hc, IsRing_impl l (by omega) hn.1 hc⟩
theorem TilesOfChain_same (l : List Int) (hl : l.length ≤ 1048576) : ∃ r, Ev (fun k => spec_TilesOfChain.f k l) r ∧ Ev (fun k => impl_TilesOfChain.f k l) r ∧ r.1.length ≤ 1048576 := by
  have h1 := haGood_ev l (by omega)
  have h2 := IsChain_ev l (by omega)
  cases hc : chainB l with
  | false =>
    rw [hc] at h1 h2
    exact ⟨([], false), guard_ev h1 (fun h => by cases h) (fun _ => rfl), guard_ev h2 (fun h => by cases h) (fun _ => rfl), by simp⟩
  | true =>
    rw [hc] at h1 h2
    have hn := chainB_len hc
    exact ⟨(tilesT l, true), guard_ev h1 (fun _ => Ev.bind (haTiles_ev l (by omega)) (Ev.now _)) (fun h => by cases h), guard_ev h2 (fun _ => Ev.bind (tilesOf_ev l (by omega)) (Ev.now _)) (fun h => by cases h), by simp only [tilesT_length]; omega⟩
theorem haTurn_loop (l : List Int) (hl : l.length ≤ 1000000000) : ∀ i (acc : List Int), i ≤ l.length → acc.length + i ≤ 1000000000 → Ev (fun k => spec_haTurn.l0 k l acc ((i : Int) - 1)) (acc ++ (l.take i).reverse) := by
  intro i
  induction i with
  | zero =>
    intro acc hi ha
    refine ⟨1, fun k hk => ?_⟩
    obtain ⟨k, rfl⟩ : ∃ m, k = m + 1 := ⟨k - 1, by omega⟩
    simp only [spec_haTurn.l0]
    rw [if_neg (by omega)]
    simp
  | succ i ih =>
    intro acc hi ha
    have ex := List.getElem?_eq_getElem (show i < l.length by omega)
    have := ih (acc ++ [l[i]]) (by omega) (by simp; omega)
    have e : acc ++ (l.take (i + 1)).reverse = acc ++ [l[i]] ++ (l.take i).reverse := by
      rw [take_snoc l i _ ex]; simp
    rw [e]
    have w0 : ((i + 1 : Nat) : Int) - 1 = (i : Int) := by omega
    refine Ev.step (fun k => ?_) this
    simp only [spec_haTurn.l0]
    rw [w0, if_pos (by omega), if_pos (by omega), if_pos (by omega), if_pos (by omega), rd_nat l i _ ex, wrap_eq (by omega) (by omega)]
theorem haTurn_ev (l : List Int) (hl : l.length ≤ 1000000000) : Ev (fun k => spec_haTurn.f k l) l.reverse := by
  have := haTurn_loop l hl l.length [] (Nat.le_refl _) (by simp; omega)
  rw [List.take_of_length_le (Nat.le_refl _), List.nil_append] at this
  refine Ev.congr (fun k => ?_) this
  unfold spec_haTurn.f
  rw [wrap_eq (by omega) (by omega)]
/-- Reversed in place: what lies outside of the two hands is done. -/
theorem reverse_loop : ∀ (d : Nat) (a m b : List Int), m.length = d → (a ++ m ++ b).length ≤ 1000000000 → Ev (fun k => slices_Reverse_int.l0 k (a ++ m ++ b) (a.length : Int) ((a.length : Int) + m.length - 1)) (a ++ m.reverse ++ b) := by
  intro d
  induction d using Nat.strongRecOn with
  | _ d ih =>
    intro a m b hd hl
    rcases Nat.lt_or_ge d 2 with h2 | h2
    · have hr : m.reverse = m := by
        match m, hd with
        | [], _ => rfl
        | [x], _ => rfl
        | x :: y :: m, hd => simp at hd; omega
      rw [hr]
      refine ⟨1, fun k hk => ?_⟩
      obtain ⟨k, rfl⟩ : ∃ m, k = m + 1 := ⟨k - 1, by omega⟩
      simp only [slices_Reverse_int.l0]
      rw [if_neg (by omega)]
    · obtain ⟨x, m', y, rfl⟩ : ∃ x m' y, m = x :: (m' ++ [y]) := by
        match m, hd with
        | [], hd => simp at hd; omega
        | x :: t, hd =>
          have ht : t ≠ [] := by intro e; subst e; simp at hd; omega
          exact ⟨x, t.dropLast, t.getLast ht, by rw [List.dropLast_concat_getLast]⟩
      have hlen : (a ++ x :: (m' ++ [y]) ++ b).length = a.length + m'.length + 2 + b.length := by simp; omega
      have hml : (x :: (m' ++ [y])).length = m'.length + 2 := by simp
      have hsz : a.length + m'.length + 2 + b.length ≤ 1000000000 := by omega
      have := ih m'.length (by rw [hml] at hd; omega) (a ++ [y]) m' ([x] ++ b) rfl (by simp at hl ⊢; omega)
      have e1 : (a ++ [y] ++ m' ++ ([x] ++ b)) = a ++ y :: (m' ++ x :: b) := by simp
      have e2 : a ++ (x :: (m' ++ [y])).reverse ++ b = a ++ [y] ++ m'.reverse ++ ([x] ++ b) := by simp
      have e3 : ((a ++ [y]).length : Int) = ((a.length + 1 : Nat) : Int) := by simp
      rw [e2]
      have e4 : ((a ++ [y]).length : Int) + (m'.length : Int) - 1 = (a.length : Int) + ((x :: (m' ++ [y])).length : Int) - 1 - 1 := by rw [e3, hml]; omega
      rw [e1, e4, e3] at this
      have i2 : (a.length : Int) + ((x :: (m' ++ [y])).length : Int) - 1 = ((a.length + 1 + m'.length : Nat) : Int) := by rw [hml]; omega
      rw [i2] at this ⊢
      have ea : a ++ x :: (m' ++ [y]) ++ b = a ++ x :: (m' ++ y :: b) := by simp
      rw [ea] at hlen ⊢
      have rx : rd (a ++ x :: (m' ++ y :: b)) (a.length : Int) = x := rd_nat _ _ _ (by simp)
      have ry : rd (a ++ x :: (m' ++ y :: b)) ((a.length + 1 + m'.length : Nat) : Int) = y := rd_nat _ _ _ (by
        rw [List.getElem?_append_right (by omega), show a.length + 1 + m'.length - a.length = m'.length + 1 by omega, List.getElem?_cons_succ, List.getElem?_append_right (by omega)]; simp)
      refine Ev.step (fun k => ?_) this
      simp only [slices_Reverse_int.l0]
      rw [if_pos (by omega), if_pos (by omega), if_pos (by rw [hlen]; omega), if_pos (by omega), if_pos (by rw [hlen]; omega), rx, ry, Int.toNat_natCast, Int.toNat_natCast, wrap_succ (by omega), wrap_eq (by omega) (by omega)]
      rw [List.set_append_right _ _ (by omega), Nat.sub_self, List.set_cons_zero, List.set_append_right _ _ (by omega), show a.length + 1 + m'.length - a.length = m'.length + 1 by omega, List.set_cons_succ, List.set_append_right _ _ (by omega), Nat.sub_self, List.set_cons_zero]
theorem reverse_ev (l : List Int) (hl : l.length ≤ 1000000000) : Ev (fun k => slices_Reverse_int.f k l) l.reverse := by
  have := reverse_loop l.length [] l [] rfl (by simpa using hl)
  simp only [List.nil_append, List.append_nil, List.length_nil] at this
  refine Ev.congr (fun k => ?_) this
  unfold slices_Reverse_int.f
  rw [wrap_eq (by omega) (by omega)]
  simp
theorem turned_ev (l : List Int) (hl : l.length ≤ 1000000000) : Ev (fun k => impl_turned.f k l) l.reverse := by
  unfold impl_turned.f
  have : slices_Clone_int.f l = some l := by unfold slices_Clone_int.f; rw [if_pos (by omega)]
  exact Ev.congr (fun k => by rw [this, Option.bind_some]) (Ev.bind (reverse_ev l hl) (Ev.now _))
theorem TurnChain_same (l : List Int) (hl : l.length ≤ 1048576) : ∃ r, Ev (fun k => spec_TurnChain.f k l) r ∧ Ev (fun k => impl_TurnChain.f k l) r ∧ r.1.length ≤ 1048576 := by
  have h1 := haGood_ev l (by omega)
  have h2 := IsChain_ev l (by omega)
  cases hc : chainB l with
  | false =>
    rw [hc] at h1 h2
    exact ⟨([], false), guard_ev h1 (fun h => by cases h) (fun _ => rfl), guard_ev h2 (fun h => by cases h) (fun _ => rfl), by simp⟩
  | true =>
    rw [hc] at h1 h2
    exact ⟨(l.reverse, true), guard_ev h1 (fun _ => Ev.bind (haTurn_ev l (by omega)) (Ev.now _)) (fun h => by cases h), guard_ev h2 (fun _ => Ev.bind (turned_ev l (by omega)) (Ev.now _)) (fun h => by cases h), by simp; omega⟩

end Go.Proofs.Ytgcfddomnohajaa.Q
