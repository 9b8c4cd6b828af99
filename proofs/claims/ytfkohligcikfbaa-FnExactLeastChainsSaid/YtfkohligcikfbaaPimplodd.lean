-- Printed by a program of this session (wip/myprint.py, which drives the kit's print): what one function of the program does, and the proof that its call does so.
import Derived.Lib.SliceRun
import Derived.WalkSpells
import Derived.Test.YtfkohligcikfbaaP0
import Derived.Test.YtfkohligcikfbaaPId
import Derived.Test.YtfkohligcikfbaaPIk
import Derived.Test.YtfkohligcikfbaaPimplodd1
namespace Go.Proofs.Ytfkohligcikfbaa.P
open Go.RowKit Go.Proofs.YtfkohligcikfbaaW.PrintWords Go.Proofs.YtfkohligcikfbaaW.PrintLast Go.Proofs.YtfkohligcikfbaaW.PrintMore
attribute [local go_sem] max2_int min2_int max_two min_two max_three min_three max_four min_four   -- for this text's walks alone
set_option linter.unusedVariables false
set_option linter.unusedSimpArgs false

/-! ### impl_odd: function 45: written by hand -/
/-- How often a number is in a hand, if that can be told. -/
def timesO (k : Nat) (l0 : List S49) (n : Int) : Int := (impl_times.f k l0 n).getD 0
def timesOk (k : Nat) (l0 : List S49) (n : Int) : Bool := (impl_times.f k l0 n).any fun r => decide (0 ≤ r ∧ r ≤ 1000)
theorem timesOk_get {k : Nat} {l0 : List S49} {n : Int} (h : timesOk k l0 n = true) : impl_times.f k l0 n = some (timesO k l0 n) ∧ 0 ≤ timesO k l0 n ∧ timesO k l0 n ≤ 1000 := by
  unfold timesOk at h
  cases e : impl_times.f k l0 n with
  | none => rw [e] at h; cases h
  | some r =>
    rw [e] at h
    have : timesO k l0 n = r := by unfold timesO; rw [e]; rfl
    rw [this]
    exact ⟨rfl, by simpa using h⟩
def impl_odd.f (k : Nat) (l0 : List S49) : Option (List Int) := (impl_numbers.f k l0).bind fun ns => if ns.all (timesOk k l0) = true then some (ns.filter fun n => !decide (timesO k l0 n % 2 = 0)) else none
theorem timesO_succ {k : Nat} {l0 : List S49} {n : Int} (h : timesOk k l0 n = true) : timesOk (k + 1) l0 n = true ∧ timesO (k + 1) l0 n = timesO k l0 n := by
  obtain ⟨h1, h2, h3⟩ := timesOk_get h
  have h4 := impl_times.mono _ _ _ _ h1
  refine ⟨?_, ?_⟩
  · unfold timesOk
    rw [h4]
    simp [h2, h3]
  · show (impl_times.f (k + 1) l0 n).getD 0 = _
    rw [h4]; rfl
theorem impl_odd.mono : ∀ a0 k, LeO (impl_odd.f k a0) (impl_odd.f (k + 1) a0) := by
  intro a0 k r h
  unfold impl_odd.f at h ⊢
  obtain ⟨t, h1, h2⟩ := Option.bind_eq_some_iff.1 h
  rw [impl_numbers.mono _ _ _ h1, Option.bind_some]
  by_cases c : t.all (timesOk k a0) = true
  · rw [if_pos c] at h2
    have hc := List.all_eq_true.1 c
    rw [if_pos (List.all_eq_true.2 fun n hn => (timesO_succ (hc n hn)).1)]
    rw [← h2]
    congr 1
    apply List.filter_congr
    intro n hn
    rw [(timesO_succ (hc n hn)).2]
  · rw [if_neg c] at h2; cases h2
set_option maxHeartbeats 8000000 in
set_option maxRecDepth 100000 in
theorem impl_odd.calls (k : Nat) (A0 : Option Addr) (c0 : Nat) (l0 : List S49) (r : List Int) (w : World) (hr0 : Kd.C k49 w A0 l0.length l0) (hc0 : l0.length ≤ c0) (h : impl_odd.f k l0 = some r) :
    Calls Try.prog 45 #[.slice A0 l0.length c0] w fun e w' => ∃ v0_ : Value, e = .returned (v0_) ∧ Kd.R (Kd.int .i64) 3 w' w.heap.size (fun _ => True) v0_ r ∧ Below w.heap.size w w' := by
  have eg : ∀ args w, (callFunc 69 args).run Try.prog w = .ok (.enter 69 args) w := enters_of Try.func69 (by kernel_rfl) rfl
  have hmf : ∀ (fn : Fn) (first cap : Array Value) (w : World), (Instr.makeFunc fn first cap).run Try.prog w = .ok (.func fn first cap) w := fun _ _ _ _ => rfl
  unfold impl_odd.f at h
  obtain ⟨ns, h1, h⟩ := Option.bind_eq_some_iff.1 h
  by_cases c : ns.all (timesOk k l0) = true
  · rw [if_pos c] at h
    obtain rfl := Option.some.inj h
    have hcc := List.all_eq_true.1 c
    have hn : ∀ o, Calls Try.prog 59 #[.slice A0 l0.length c0] (w.alloc o) fun e w' => ∃ v0_ : Value, e = .returned (v0_) ∧ Kd.R (Kd.int .i64) 3 w' (w.alloc o).heap.size (fun _ => True) v0_ ns ∧ Below (w.alloc o).heap.size (w.alloc o) w' := fun o => impl_numbers.calls k A0 c0 l0 ns (w.alloc o) (Kd.C_below hr0 ((Below.refl _ _).alloc (Nat.le_refl _) o)) hc0 h1
    have hdel : ∀ (o : Obj) (W : World) (v : Value), (w.alloc o).cell? ⟨w.heap.size, 0, none⟩ = some (.slice A0 l0.length c0) → Kd.R (Kd.int .i64) 3 W (w.alloc o).heap.size (fun _ => True) v ns → Below (w.alloc o).heap.size (w.alloc o) W →
        Calls Try.prog 60 #[v, .func (.func 69) #[] #[.pointer (some ⟨w.heap.size, 0, none⟩)]] W fun e w' => ∃ v', e = .returned v' ∧ Kd.R (Kd.int .i64) 3 w' (w.alloc o).heap.size (fun _ => True) v' (ns.filter fun n => !decide (timesO k l0 n % 2 = 0)) ∧ Below (w.alloc o).heap.size W w' := by
      intro o W v hc ho hb
      have hlt : w.heap.size < (w.alloc o).heap.size := by simp
      exact slices_DeleteFunc_int.gcalls 69 #[.pointer (some ⟨w.heap.size, 0, none⟩)] (fun n => decide (timesO k l0 n % 2 = 0)) (w.alloc o).heap.size (fun _ => True) v ns W eg hb.size ho (fun n hn W' hb' => by
        have hb2 : Below w.heap.size w W' := (((Below.refl w.heap.size w).alloc (Nat.le_refl _) o).trans ((hb.trans hb').mono (Nat.le_of_lt hlt)))
        obtain ⟨t1, t2⟩ := timesOk_get (hcc n hn)
        exact impl_odd_1.gcalls k n A0 c0 l0 w.heap.size (timesO k l0 n) W' (Kd.C_below hr0 hb2) hc0 (((hb.trans hb').cell (by simp)).trans hc) t1 t2)
    have HN := Aside0.mk hn
    have HDE := Aside0.mk hdel
    clear hn hdel hcc c h1 hr0 hc0 eg
    go_enter Try.func45, Try.ntmps45
    go_wp2_with (first | (go_at_call 59; refine (HN.out _).mono ?_; rintro e w1 ⟨v1, rfl, ho1, hb1⟩; have HO1 := Aside0.mk ho1; have HB1 := Aside0.mk hb1; clear ho1 hb1) | (go_at_call 60; refine (HDE.out _ _ _ (by simp only [World.cell?, heap_alloc_new]; rfl) HO1.out HB1.out).mono ?_; rintro e w2 ⟨v2, rfl, ho2, hb2⟩))
    go_ret
    exact ⟨_, rfl, Kd.R_lower ho2 (by simp), ((Below.refl w.heap.size w).alloc (Nat.le_refl _) _).trans ((HB1.out.trans hb2).mono (by simp))⟩
  · rw [if_neg c] at h
    exact absurd h (by simp)

end Go.Proofs.Ytfkohligcikfbaa.P
