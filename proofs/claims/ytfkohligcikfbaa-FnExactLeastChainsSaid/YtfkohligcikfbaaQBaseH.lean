/- Plain lists and numbers: what the program's functions and the reference's compute. -/
import Derived.Test.YtfkohligcikfbaaP0
import Derived.Test.YtfkohligcikfbaaPId
import Derived.Test.YtfkohligcikfbaaPSc
import Derived.Test.YtfkohligcikfbaaPimplodd
import Derived.Test.YtfkohligcikfbaaPspecwhOdd
import Derived.Test.YtfkohligcikfbaaQBaseF
namespace Go.Proofs.Ytfkohligcikfbaa.Q
open Go.RowKit Go.Proofs.Ytfkohligcikfbaa.P Go.Proofs.YtfkohligcikfbaaW.PrintWords Go.Proofs.YtfkohligcikfbaaW.PrintLast Go.Proofs.YtfkohligcikfbaaW.PrintMore
set_option linter.unusedVariables false
set_option linter.unusedSimpArgs false

/-! Odd -/
/-- The odd numbers of a list of tiles. -/
def oddT (l : List S49) : List Int := (upFrom 0 10).filter fun n => decide (timesT l n % 2 = 1)
theorem oddT_len (l : List S49) : (oddT l).length ≤ 10 := by
  have := List.length_filter_le (fun n => decide (timesT l n % 2 = 1)) (upFrom 0 10)
  rw [upFrom_length] at this
  exact this
theorem whOdd_loop (l : List S49) (hl : l.length ≤ 1000000000) : ∀ d i (acc : List Int), i + d = 10 → acc.length ≤ i → Ev (fun k => spec_whOdd.l0 k l acc (i : Int)) (acc ++ (upFrom i d).filter fun n => decide (timesT l n % 2 = 1)) := by
  intro d
  induction d with
  | zero =>
    intro i acc h ha
    refine ⟨1, fun k hk => ?_⟩
    obtain ⟨k, rfl⟩ : ∃ m, k = m + 1 := ⟨k - 1, by omega⟩
    simp only [spec_whOdd.l0]
    rw [if_neg (by omega)]
    simp [upFrom]
  | succ d ih =>
    intro i acc h ha
    have hb := timesT_bd l (i : Int)
    have hm : Int.tmod (timesT l (i : Int)) 2 = timesT l (i : Int) % 2 := Int.tmod_eq_emod_of_nonneg hb.1
    refine Ev.step (f := fun k => (spec_tiTimes.f k l (i : Int)).bind fun t => if Int.tmod t 2 = 1 then (if acc.length < 17592186044416 then spec_whOdd.l0 k l (acc ++ [(i : Int)]) ((i + 1 : Nat) : Int) else none) else spec_whOdd.l0 k l acc ((i + 1 : Nat) : Int)) (fun k => ?_) (Ev.bind (tiTimes_ev l i hl) ?_)
    · simp only [spec_whOdd.l0]
      rw [if_pos (by omega), wrap_succ (by omega)]
    · rw [upFrom, List.filter_cons]
      by_cases c : timesT l i % 2 = 1
      · have := ih (i + 1) (acc ++ [(i : Int)]) (by omega) (by simp; omega)
        rw [List.append_assoc] at this
        rw [if_pos (by simpa using c)]
        exact Ev.congr (fun k => by rw [hm, if_pos c, if_pos (by omega)]) this
      · have := ih (i + 1) acc (by omega) (by omega)
        rw [if_neg (by simpa using c)]
        exact Ev.congr (fun k => by rw [hm, if_neg c]) this
theorem whOdd_ev (l : List S49) (hl : l.length ≤ 1000000000) : Ev (fun k => spec_whOdd.f k l) (oddT l) := by
  have := whOdd_loop l hl 10 0 [] (by omega) (by simp)
  rw [List.nil_append] at this
  exact this
theorem all_ev {α : Type} (f : α → Nat → Bool) : ∀ l : List α, (∀ x ∈ l, ∃ K, ∀ k, K ≤ k → f x k = true) → ∃ K, ∀ k, K ≤ k → l.all (fun x => f x k) = true
  | [], _ => ⟨0, fun _ _ => rfl⟩
  | y :: l, h => by
    obtain ⟨K, hK⟩ := all_ev f l fun x hx => h x (List.mem_cons_of_mem _ hx)
    obtain ⟨K1, hK1⟩ := h y List.mem_cons_self
    refine ⟨K + K1, fun k hk => ?_⟩
    rw [List.all_cons, hK1 k (by omega), hK k (by omega)]; rfl
theorem odd_ev (l : List S49) (hl : l.length ≤ 400) : Ev (fun k => impl_odd.f k l) (oddT l) := by
  have hnum := numbers_ev l (by omega)
  have hk : ∀ n : Int, ∃ K, ∀ k, K ≤ k → timesOk k l n = true ∧ timesO k l n = timesT l n := by
    intro n
    obtain ⟨K, hK⟩ := times_ev l n (by omega)
    have hb := timesT_bd l n
    refine ⟨K, fun k hk => ?_⟩
    have h1 := hK k hk
    have e : impl_times.f k l n = some (timesT l n) := h1
    constructor
    · unfold timesOk
      rw [e]
      simp only [Option.any_some, decide_eq_true_eq]
      omega
    · unfold timesO
      rw [e]; rfl
  obtain ⟨K1, hK1⟩ := all_ev (fun n k => timesOk k l n && decide (timesO k l n = timesT l n)) (numsT l) (fun n _ => by
    obtain ⟨K, hK⟩ := hk n
    exact ⟨K, fun k hk => by rw [(hK k hk).1, decide_eq_true (hK k hk).2]; rfl⟩)
  obtain ⟨K2, hK2⟩ := hnum
  refine ⟨K1 + K2, fun k hk => ?_⟩
  have h1 := List.all_eq_true.1 (hK1 k (by omega))
  have h2 : impl_numbers.f k l = some (numsT l) := hK2 k (by omega)
  show impl_odd.f k l = _
  unfold impl_odd.f
  rw [h2, Option.bind_some, if_pos (List.all_eq_true.2 fun n hn => by have := h1 n hn; rw [Bool.and_eq_true] at this; exact this.1)]
  congr 1
  have e1 : (numsT l).filter (fun n => !decide (timesO k l n % 2 = 0)) = (numsT l).filter (fun n => decide (timesT l n % 2 = 1)) := by
    apply List.filter_congr
    intro n hn
    have := h1 n hn
    rw [Bool.and_eq_true, decide_eq_true_eq] at this
    rw [this.2]
    by_cases c : timesT l n % 2 = 0
    · rw [decide_eq_true c, decide_eq_false (by omega)]; rfl
    · rw [decide_eq_false c, decide_eq_true (by omega)]; rfl
  rw [e1]
  unfold numsT oddT
  rw [List.filter_filter]
  apply List.filter_congr
  intro n _
  have hb := timesT_bd l n
  by_cases c : timesT l n % 2 = 1
  · rw [decide_eq_true c, decide_eq_true (show timesT l n > 0 by omega)]; rfl
  · rw [decide_eq_false c]; rfl

end Go.Proofs.Ytfkohligcikfbaa.Q
