/- Plain lists and numbers: what the program's functions and the reference's compute. -/
import Derived.Test.YtepccigcdbimaaaP0
import Derived.Test.YtepccigcdbimaaaPId
import Derived.Test.YtepccigcdbimaaaQScaf
import Derived.Test.YtepccigcdbimaaaQTimes
namespace Go.Proofs.Ytepccigcdbimaaa.Q
open Go.RowKit Go.Proofs.Ytepccigcdbimaaa.P Go.Proofs.YtepccigcdbimaaaW.PrintWords Go.Proofs.YtepccigcdbimaaaW.PrintLast Go.Proofs.YtepccigcdbimaaaW.PrintMore
set_option linter.unusedVariables false
set_option linter.unusedSimpArgs false

/-- i, i + 1, .., d of them. -/
def upFrom (i : Nat) : Nat → List Int
  | 0 => []
  | d + 1 => (i : Int) :: upFrom (i + 1) d
theorem upFrom_length (i d : Nat) : (upFrom i d).length = d := by
  induction d generalizing i with
  | zero => rfl
  | succ d ih => simp [upFrom, ih]
/-- The numbers that are in a list of tiles. -/
def numsT (l : List S59) : List Int := (upFrom 0 10).filter fun n => decide (timesT l n > 0)
theorem numsT_len (l : List S59) : (numsT l).length ≤ 10 := by
  have := List.length_filter_le (fun n => decide (timesT l n > 0)) (upFrom 0 10)
  rw [upFrom_length] at this
  exact this
theorem numbers_loop (l : List S59) (hl : l.length ≤ 1000000000) : ∀ d i (acc : List Int), i + d = 10 → acc.length ≤ i → Ev (fun k => impl_numbers.l0 k l acc (i : Int)) (acc ++ (upFrom i d).filter fun n => decide (timesT l n > 0)) := by
  intro d
  induction d with
  | zero =>
    intro i acc h ha
    refine ⟨1, fun k hk => ?_⟩
    obtain ⟨k, rfl⟩ : ∃ m, k = m + 1 := ⟨k - 1, by omega⟩
    simp only [impl_numbers.l0]
    rw [if_neg (by omega)]
    simp [upFrom]
  | succ d ih =>
    intro i acc h ha
    refine Ev.step (f := fun k => (impl_times.f k l (i : Int)).bind fun t => if t > 0 then (if acc.length < 17592186044416 then impl_numbers.l0 k l (acc ++ [(i : Int)]) ((i + 1 : Nat) : Int) else none) else impl_numbers.l0 k l acc ((i + 1 : Nat) : Int)) (fun k => ?_) (Ev.bind (times_ev l i hl) ?_)
    · simp only [impl_numbers.l0]
      rw [if_pos (by omega), wrap_succ (by omega)]
    · by_cases c : timesT l i > 0
      · have := ih (i + 1) (acc ++ [(i : Int)]) (by omega) (by simp; omega)
        rw [show acc ++ (upFrom i (d + 1)).filter (fun n => decide (timesT l n > 0)) = acc ++ [(i : Int)] ++ (upFrom (i + 1) d).filter (fun n => decide (timesT l n > 0)) by rw [upFrom, List.filter_cons, if_pos (by simpa using c)]; simp]
        exact Ev.congr (fun k => by rw [if_pos c, if_pos (by omega)]) this
      · have := ih (i + 1) acc (by omega) (by omega)
        rw [show acc ++ (upFrom i (d + 1)).filter (fun n => decide (timesT l n > 0)) = acc ++ (upFrom (i + 1) d).filter (fun n => decide (timesT l n > 0)) by rw [upFrom, List.filter_cons, if_neg (by simpa using c)]]
        exact Ev.congr (fun k => by rw [if_neg c]) this
theorem numbers_ev (l : List S59) (hl : l.length ≤ 1000000000) : Ev (fun k => impl_numbers.f k l) (numsT l) := by
  have := numbers_loop l hl 10 0 [] (by omega) (by simp)
  rw [List.nil_append] at this
  exact this

end Go.Proofs.Ytepccigcdbimaaa.Q
