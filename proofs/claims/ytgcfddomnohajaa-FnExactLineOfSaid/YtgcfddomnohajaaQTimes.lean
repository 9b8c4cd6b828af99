/- Plain lists and numbers: what the program's functions and the reference's compute. -/
import Derived.Test.YtgcfddomnohajaaP0
import Derived.Test.YtgcfddomnohajaaPIa
import Derived.Test.YtgcfddomnohajaaPId
import Derived.Test.YtgcfddomnohajaaPSc
import Derived.Test.YtgcfddomnohajaaQScaf
namespace Go.Proofs.Ytgcfddomnohajaa.Q
open Go.RowKit Go.Proofs.Ytgcfddomnohajaa.P Go.Proofs.YtgcfddomnohajaaW.PrintWords Go.Proofs.YtgcfddomnohajaaW.PrintLast Go.Proofs.YtgcfddomnohajaaW.PrintMore
set_option linter.unusedVariables false
set_option linter.unusedSimpArgs false

/-- How often a number is in a list of tiles. -/
def timesT : List S60 → Int → Int
  | [], _ => 0
  | t :: l, n => (if t.f0 = n then 1 else 0) + (if t.f1 = n then 1 else 0) + timesT l n
theorem timesT_bd (l : List S60) (n : Int) : 0 ≤ timesT l n ∧ timesT l n ≤ 2 * l.length := by
  induction l with
  | nil => simp [timesT]
  | cons t l ih => simp only [timesT, List.length_cons]; split <;> split <;> omega
theorem timesT_append (a b : List S60) (n : Int) : timesT (a ++ b) n = timesT a n + timesT b n := by
  induction a with
  | nil => simp [timesT]
  | cons t l ih => simp only [timesT, List.cons_append, ih]; omega
theorem rdT_mid (pre : List S60) (x : S60) (suf : List S60) : rd_T60 (pre ++ x :: suf) (pre.length : Int) = x := rdT_nat _ _ _ (by simp)
theorem tiTimes_loop (n : Int) : ∀ (suf pre : List S60) (acc : Int), (pre ++ suf).length ≤ 1000000000 → 0 ≤ acc → acc + 2 * suf.length ≤ 4000000000000000000 → Ev (fun k => spec_tiTimes.l0 k n acc (pre ++ suf) ((pre ++ suf).length : Int) (pre.length : Int)) (acc + timesT suf n) := by
  intro suf
  induction suf with
  | nil =>
    intro pre acc hl ha hb
    refine ⟨1, fun k hk => ?_⟩
    obtain ⟨k, rfl⟩ : ∃ m, k = m + 1 := ⟨k - 1, by omega⟩
    simp only [spec_tiTimes.l0]
    rw [if_neg (by simp)]
    simp [timesT]
  | cons x suf ih =>
    intro pre acc hl ha hb
    have hlen : (pre ++ x :: suf).length = pre.length + suf.length + 1 := by simp; omega
    have h1 : (pre.length : Int) < ((pre ++ x :: suf).length : Int) := by omega
    have h2 : (0 : Int) ≤ (pre.length : Int) := by omega
    have hb' : acc + 2 * ((suf.length : Int) + 1) ≤ 4000000000000000000 := by simpa using hb
    have e0 : ((pre ++ [x]).length : Int) = ((pre.length + 1 : Nat) : Int) := by simp
    have key : ∀ a : Int, a = acc + (if x.f0 = n then 1 else 0) + (if x.f1 = n then 1 else 0) → Ev (fun k => spec_tiTimes.l0 k n a (pre ++ x :: suf) ((pre ++ x :: suf).length : Int) ((pre.length + 1 : Nat) : Int)) (acc + timesT (x :: suf) n) := by
      intro a ea
      have := ih (pre ++ [x]) a (by simpa using hl) (by rw [ea]; split <;> split <;> omega) (by rw [ea]; split <;> split <;> omega)
      rw [List.append_assoc, e0] at this
      rw [show acc + timesT (x :: suf) n = a + timesT suf n by rw [ea]; simp only [timesT]; omega]
      exact this
    have w1 : wrap64 (acc + 1) = acc + 1 := wrap_eq (by omega) (by omega)
    have w2 : wrap64 (acc + 1 + 1) = acc + 1 + 1 := wrap_eq (by omega) (by omega)
    by_cases c0 : x.f0 = n
    · by_cases c1 : x.f1 = n
      · refine Ev.step (fun k => ?_) (key (acc + 1 + 1) (by rw [if_pos c0, if_pos c1]))
        simp only [spec_tiTimes.l0]
        rw [if_pos h1, if_pos h2, if_pos h1, rdT_mid, if_pos c0, if_pos c1, w1, w2, wrap_succ (by omega)]
      · refine Ev.step (fun k => ?_) (key (acc + 1) (by rw [if_pos c0, if_neg c1]; omega))
        simp only [spec_tiTimes.l0]
        rw [if_pos h1, if_pos h2, if_pos h1, rdT_mid, if_pos c0, if_neg c1, w1, wrap_succ (by omega)]
    · by_cases c1 : x.f1 = n
      · refine Ev.step (fun k => ?_) (key (acc + 1) (by rw [if_neg c0, if_pos c1]; omega))
        simp only [spec_tiTimes.l0]
        rw [if_pos h1, if_pos h2, if_pos h1, rdT_mid, if_neg c0, if_pos c1, w1, wrap_succ (by omega)]
      · refine Ev.step (fun k => ?_) (key acc (by rw [if_neg c0, if_neg c1]; omega))
        simp only [spec_tiTimes.l0]
        rw [if_pos h1, if_pos h2, if_pos h1, rdT_mid, if_neg c0, if_neg c1, wrap_succ (by omega)]
theorem tiTimes_ev (l : List S60) (n : Int) (h : l.length ≤ 1000000000) : Ev (fun k => spec_tiTimes.f k l n) (timesT l n) := by
  have := tiTimes_loop n l [] 0 (by simpa using h) (by omega) (by omega)
  rw [Int.zero_add] at this
  exact this
theorem times_loop (n : Int) : ∀ (suf pre : List S60) (acc : Int), (pre ++ suf).length ≤ 1000000000 → 0 ≤ acc → acc + 2 * suf.length ≤ 4000000000000000000 → Ev (fun k => impl_times.l0 k n acc (pre ++ suf) ((pre ++ suf).length : Int) (pre.length : Int)) (acc + timesT suf n) := by
  intro suf
  induction suf with
  | nil =>
    intro pre acc hl ha hb
    refine ⟨1, fun k hk => ?_⟩
    obtain ⟨k, rfl⟩ : ∃ m, k = m + 1 := ⟨k - 1, by omega⟩
    simp only [impl_times.l0]
    rw [if_neg (by simp)]
    simp [timesT]
  | cons x suf ih =>
    intro pre acc hl ha hb
    have hlen : (pre ++ x :: suf).length = pre.length + suf.length + 1 := by simp; omega
    have h1 : (pre.length : Int) < ((pre ++ x :: suf).length : Int) := by omega
    have h2 : (0 : Int) ≤ (pre.length : Int) := by omega
    have hb' : acc + 2 * ((suf.length : Int) + 1) ≤ 4000000000000000000 := by simpa using hb
    have e0 : ((pre ++ [x]).length : Int) = ((pre.length + 1 : Nat) : Int) := by simp
    have hbit : ∀ a : Int, impl_bit.f (a == n) = some (if a = n then 1 else 0) := fun a => by
      unfold impl_bit.f
      by_cases e : a = n <;> simp [e]
    have w1 : wrap64 ((if x.f0 = n then 1 else 0) + (if x.f1 = n then 1 else 0)) = (if x.f0 = n then 1 else 0) + (if x.f1 = n then 1 else 0) := wrap_eq (by split <;> split <;> omega) (by split <;> split <;> omega)
    have w2 : wrap64 (acc + ((if x.f0 = n then 1 else 0) + (if x.f1 = n then 1 else 0))) = acc + ((if x.f0 = n then 1 else 0) + (if x.f1 = n then 1 else 0)) := wrap_eq (by split <;> split <;> omega) (by split <;> split <;> omega)
    have := ih (pre ++ [x]) (acc + ((if x.f0 = n then 1 else 0) + (if x.f1 = n then 1 else 0))) (by simpa using hl) (by split <;> split <;> omega) (by split <;> split <;> omega)
    rw [List.append_assoc, e0] at this
    rw [show acc + timesT (x :: suf) n = acc + ((if x.f0 = n then 1 else 0) + (if x.f1 = n then 1 else 0)) + timesT suf n by simp only [timesT]; omega]
    refine Ev.step (fun k => ?_) this
    simp only [impl_times.l0]
    rw [if_pos h1, if_pos h2, if_pos h1, rdT_mid, hbit, hbit, Option.bind_some, Option.bind_some, w1, w2, wrap_succ (by omega)]
    rfl
theorem times_ev (l : List S60) (n : Int) (h : l.length ≤ 1000000000) : Ev (fun k => impl_times.f k l n) (timesT l n) := by
  have := times_loop n l [] 0 (by simpa using h) (by omega) (by omega)
  rw [Int.zero_add] at this
  exact this
/-- The sum of all pips, as the machine adds them. -/
def pipsT : List S60 → Int → Int
  | [], a => a
  | t :: l, a => pipsT l (wrap64 (a + wrap64 (t.f0 + t.f1)))
theorem tiPips_loop : ∀ (suf pre : List S60) (acc : Int), (pre ++ suf).length ≤ 1000000000 → Ev (fun k => spec_tiPips.l0 k acc (pre ++ suf) ((pre ++ suf).length : Int) (pre.length : Int)) (pipsT suf acc) := by
  intro suf
  induction suf with
  | nil =>
    intro pre acc hl
    refine ⟨1, fun k hk => ?_⟩
    obtain ⟨k, rfl⟩ : ∃ m, k = m + 1 := ⟨k - 1, by omega⟩
    simp only [spec_tiPips.l0]
    rw [if_neg (by simp)]
    simp [pipsT]
  | cons x suf ih =>
    intro pre acc hl
    have hlen : (pre ++ x :: suf).length = pre.length + suf.length + 1 := by simp; omega
    have h1 : (pre.length : Int) < ((pre ++ x :: suf).length : Int) := by omega
    have h2 : (0 : Int) ≤ (pre.length : Int) := by omega
    have e0 : ((pre ++ [x]).length : Int) = ((pre.length + 1 : Nat) : Int) := by simp
    have := ih (pre ++ [x]) (wrap64 (acc + wrap64 (x.f0 + x.f1))) (by simpa using hl)
    rw [List.append_assoc, e0] at this
    refine Ev.step (fun k => ?_) this
    simp only [spec_tiPips.l0]
    rw [if_pos h1, if_pos h2, if_pos h1, rdT_mid, wrap_succ (by omega)]
    rfl
theorem tiPips_ev (l : List S60) (h : l.length ≤ 1000000000) : Ev (fun k => spec_tiPips.f k l) (pipsT l 0) := tiPips_loop l [] 0 (by simpa using h)
theorem pips_same : ∀ k a l n i, impl_pips.l0 k a l n i = spec_tiPips.l0 k a l n i := by
  intro k
  induction k with
  | zero => intro a l n i; rfl
  | succ k ih => intro a l n i; simp only [impl_pips.l0, spec_tiPips.l0, ih]
theorem pips_ev (l : List S60) (h : l.length ≤ 1000000000) : Ev (fun k => impl_pips.f k l) (pipsT l 0) :=
  Ev.congr (fun k => pips_same k _ _ _ _) (tiPips_ev l h)

end Go.Proofs.Ytgcfddomnohajaa.Q
