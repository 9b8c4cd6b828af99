/- Plain lists and numbers: what the program's functions and the reference's compute. -/
import Derived.Test.YtolbcmlngebdhaaP0
import Derived.Test.YtolbcmlngebdhaaPFCanRing
import Derived.Test.YtolbcmlngebdhaaPimplcanChain
import Derived.Test.YtolbcmlngebdhaaPimplcanRing
import Derived.Test.YtolbcmlngebdhaaPimplodd
import Derived.Test.YtolbcmlngebdhaaQBaseE
namespace Go.Proofs.Ytolbcmlngebdhaa.Q
open Go.RowKit Go.Proofs.Ytolbcmlngebdhaa.P Go.Proofs.YtolbcmlngebdhaaW.PrintWords Go.Proofs.YtolbcmlngebdhaaW.PrintLast Go.Proofs.YtolbcmlngebdhaaW.PrintMore
set_option linter.unusedVariables false
set_option linter.unusedSimpArgs false

theorem CanRing_same (l : List S33) : ∃ r, Ev (fun k => spec_CanRing.f k l) r ∧ Ev (fun k => impl_CanRing.f k l) r := by
  have h1 := tiHand_ev l
  have h2 := IsHand_ev l
  cases hc : handB l with
  | false =>
    rw [hc] at h1 h2
    exact ⟨(false, false), bind_false h1 (Ev.now _), bind_false h2 (Ev.now _)⟩
  | true =>
    rw [hc] at h1 h2
    have hl := handB_len hc
    have hg := handB_good hc
    obtain ⟨a, ha, ea⟩ := whCan_ev hg hl true
    obtain ⟨b, hb, eb⟩ := canChain_ev hg hl
    have ho := odd_ev l (by omega)
    have er : Ev (fun k => impl_canRing.f k l) a := by
      cases b with
      | false =>
        have : a = false := by
          cases a with
          | false => rfl
          | true =>
            obtain ⟨h, c⟩ := ha.1 rfl
            have := hb.2 ⟨h, by rcases c with c | c <;> omega⟩
            cases this
        rw [this]
        exact Ev.bind (g := fun k => impl_canChain.f k l) eb (ev_const fun k => by rw [if_neg (by decide)])
      | true =>
        obtain ⟨h, _⟩ := hb.1 rfl
        have hd : a = decide ((oddT l).length = 0) := by
          rw [Bool.eq_iff_iff, ha, decide_eq_true_eq]
          constructor
          · rintro ⟨_, c | c⟩
            · exact c
            · cases c.2
          · intro c
            exact ⟨h, .inl c⟩
        refine Ev.bind (g := fun k => impl_canChain.f k l) eb (Ev.congr (fun k => by rw [if_pos rfl]) (Ev.bind (g := fun k => impl_odd.f k l) ho (ev_const fun k => ?_)))
        rw [hd]
        congr 1
        rw [Bool.eq_iff_iff, decide_eq_true_eq, beq_iff_eq]
        omega
    exact ⟨(a, true), bind_true h1 (Ev.bind ea (Ev.now _)), bind_true h2 (Ev.bind er (Ev.now _))⟩

end Go.Proofs.Ytolbcmlngebdhaa.Q
