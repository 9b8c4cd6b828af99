/- Plain lists and numbers: what the program's functions and the reference's compute. -/
import Derived.Test.YtepccigcdbimaaaP0
import Derived.Test.YtepccigcdbimaaaPIa
import Derived.Test.YtepccigcdbimaaaPId
import Derived.Test.YtepccigcdbimaaaPSc
import Derived.Test.YtepccigcdbimaaaQScaf
namespace Go.Proofs.Ytepccigcdbimaaa.Q
open Go.RowKit Go.Proofs.Ytepccigcdbimaaa.P Go.Proofs.YtepccigcdbimaaaW.PrintWords Go.Proofs.YtepccigcdbimaaaW.PrintLast Go.Proofs.YtepccigcdbimaaaW.PrintMore
set_option linter.unusedVariables false
set_option linter.unusedSimpArgs false

/-- How often a number is in a list of tiles. -/
def timesT : List S59 → Int → Int
  | [], _ => 0
  | t :: l, n => (if t.f0 = n then 1 else 0) + (if t.f1 = n then 1 else 0) + timesT l n
theorem timesT_bd (l : List S59) (n : Int) : 0 ≤ timesT l n ∧ timesT l n ≤ 2 * l.length := by
  induction l with
  | nil => simp [timesT]
  | cons t l ih => simp only [timesT, List.length_cons]; split <;> split <;> omega
theorem timesT_append (a b : List S59) (n : Int) : timesT (a ++ b) n = timesT a n + timesT b n := by
  induction a with
  | nil => simp [timesT]
  | cons t l ih => simp only [timesT, List.cons_append, ih]; omega
theorem rdT_mid (pre : List S59) (x : S59) (suf : List S59) : rd_T59 (pre ++ x :: suf) (pre.length : Int) = x := rdT_nat _ _ _ (by simp)
theorem tiTimes_loop (n : Int) : ∀ (suf pre : List S59) (acc : Int), (pre ++ suf).length ≤ 1000000000 → 0 ≤ acc → acc + 2 * suf.length ≤ 4000000000000000000 → Ev (fun k => spec_tiTimes.l0 k n acc (pre ++ suf) ((pre ++ suf).length : Int) (pre.length : Int)) (acc + timesT suf n) := by
  intro suf
  induction suf with
  | nil =>
    intro pre acc hl ha hb
    refine ⟨1, fun k hk => ?_⟩
    obtain ⟨k, rfl⟩ : ∃ m, k = m + 1 := ⟨k - 1, by omega⟩
    simp only [spec_tiTimes.l0]
    rw [if_neg (by simp)]
    simp [timesT]
  | cons x suf ih =>
    intro pre acc hl ha hb
    have hlen : (pre ++ x :: suf).length = pre.length + suf.length + 1 := by simp; omega
    have h1 : (pre.length : Int) < ((pre ++ x :: suf).length : Int) := by omega
    have h2 : (0 : Int) ≤ (pre.length : Int) := by omega
    have hb' : acc + 2 * ((suf.length : Int) + 1) ≤ 4000000000000000000 := by simpa using hb
    have e0 : ((pre ++ [x]).length : Int) = ((pre.length + 1 : Nat) : Int) := by simp
    have key : ∀ a : Int, a = acc + (if x.f0 = n then 1 else 0) + (if x.f1 = n then 1 else 0) → Ev (fun k => spec_tiTimes.l0 k n a (pre ++ x :: suf) ((pre ++ x :: suf).length : Int) ((pre.length + 1 : Nat) : Int)) (acc + timesT (x :: suf) n) := by
      intro a ea
      have := ih (pre ++ [x]) a (by simpa using hl) (by rw [ea]; split <;> split <;> omega) (by rw [ea]; split <;> split <;> omega)
      rw [List.append_assoc, e0] at this
      rw [show acc + timesT (x :: suf) n = a + timesT suf n by rw [ea]; simp only [timesT]; omega]
      exact this
    have w1 : wrap64 (acc + 1) = acc + 1 := wrap_eq (by omega) (by omega)
    have w2 : wrap64 (acc + 1 + 1) = acc + 1 + 1 := wrap_eq (by omega) (by omega)
    by_cases c0 : x.f0 = n
    · by_cases c1 : x.f1 = n
      · refine Ev.step (fun k => ?_) (key (acc + 1 + 1) (by rw [if_pos c0, if_pos c1]))
        simp only [spec_tiTimes.l0]
        rw [if_pos h1, if_pos h2, if_pos h1, rdT_mid, if_pos c0, if_pos c1, w1, w2, wrap_succ (by omega)]
      · refine Ev.step (fun k => ?_) (key (acc + 1) (by rw [if_pos c0, if_neg c1]; omega))
        simp only [spec_tiTimes.l0]
        rw [if_pos h1, if_pos h2, if_pos h1, rdT_mid, if_pos c0, if_neg c1, w1, wrap_succ (by omega)]
    · by_cases c1 : x.f1 = n
      · refine Ev.step (fun k => ?_) (key (acc + 1) (by rw [if_neg c0, if_pos c1]; omega))
        simp only [spec_tiTimes.l0]
        rw [if_pos h1, if_pos h2, if_pos h1, rdT_mid, if_neg c0, if_pos c1, w1, wrap_succ (by omega)]
      · refine Ev.step (fun k => ?_) (key acc (by rw [if_neg c0, if_neg c1]; omega))
        simp only [spec_tiTimes.l0]
        rw [if_pos h1, if_pos h2, if_pos h1, rdT_mid, if_neg c0, if_neg c1, wrap_succ (by omega)]
theorem tiTimes_ev (l : List S59) (n : Int) (h : l.length ≤ 1000000000) : Ev (fun k => spec_tiTimes.f k l n) (timesT l n) := by
  have := tiTimes_loop n l [] 0 (by simpa using h) (by omega) (by omega)
  rw [Int.zero_add] at this
  exact this
theorem times_loop (n : Int) : ∀ (suf pre : List S59) (acc : Int), (pre ++ suf).length ≤ 1000000000 → 0 ≤ acc → acc + 2 * suf.length ≤ 4000000000000000000 → Ev (fun k => impl_times.l0 k n acc (pre ++ suf) ((pre ++ suf).length : Int) (pre.length : Int)) (acc + timesT suf n) := by
  intro suf
  induction suf with
  | nil =>
    intro pre acc hl ha hb
    refine ⟨1, fun k hk => ?_⟩
    obtain ⟨k, rfl⟩ : ∃ m, k = m + 1 := ⟨k - 1, by omega⟩
    simp only [impl_times.l0]
    rw [if_neg (by simp)]
    simp [timesT]
  | cons x suf ih =>
    intro pre acc hl ha hb
    have hlen : (pre ++ x :: suf).length = pre.length + suf.length + 1 := by simp; omega
    have h1 : (pre.length : Int) < ((pre ++ x :: suf).length : Int) := by omega
    have h2 : (0 : Int) ≤ (pre.length : Int) := by omega
    have hb' : acc + 2 * ((suf.length : Int) + 1) ≤ 4000000000000000000 := by simpa using hb
    have e0 : ((pre ++ [x]).length : Int) = ((pre.length + 1 : Nat) : Int) := by simp
    have hbit : ∀ a : Int, impl_bit.f (a == n) = some (if a = n then 1 else 0) := fun a => by
      unfold impl_bit.f
      by_cases e : a = n <;> simp [e]
    have w1 : wrap64 ((if x.f0 = n then 1 else 0) + (if x.f1 = n then 1 else 0)) = (if x.f0 = n then 1 else 0) + (if x.f1 = n then 1 else 0) := wrap_eq (by split <;> split <;> omega) (by split <;> split <;> omega)
    have w2 : wrap64 (acc + ((if x.f0 = n then 1 else 0) + (if x.f1 = n then 1 else 0))) = acc + ((if x.f0 = n then 1 else 0) + (if x.f1 = n then 1 else 0)) := wrap_eq (by split <;> split <;> omega) (by split <;> split <;> omega)
    have := ih (pre ++ [x]) (acc + ((if x.f0 = n then 1 else 0) + (if x.f1 = n then 1 else 0))) (by simpa using hl) (by split <;> split <;> omega) (by split <;> split <;> omega)
    rw [List.append_assoc, e0] at this
    rw [show acc + timesT (x :: suf) n = acc + ((if x.f0 = n then 1 else 0) + (if x.f1 = n then 1 else 0)) + timesT suf n by simp only [timesT]; omega]
    refine Ev.step (fun k => ?_) this
    simp only [impl_times.l0]
    rw [if_pos h1, if_pos h2, if_pos h1, rdT_mid, hbit, hbit, Option.bind_some, Option.bind_some, w1, w2, wrap_succ (by omega)]
    rfl
theorem times_ev (l : List S59) (n : Int) (h : l.length ≤ 1000000000) : Ev (fun k => impl_times.f k l n) (timesT l n) := by
  have := times_loop n l [] 0 (by simpa using h) (by omega) (by omega)
  rw [Int.zero_add] at this
  exact this

end Go.Proofs.Ytepccigcdbimaaa.Q
