/- Plain lists and numbers: what the program's functions and the reference's compute. -/
import Derived.Test.YtcomlipkmcphfaaP0
import Derived.Test.YtcomlipkmcphfaaPFFirstRing
import Derived.Test.YtcomlipkmcphfaaPIv
import Derived.Test.YtcomlipkmcphfaaQBaseF
import Derived.Test.YtcomlipkmcphfaaQBaseH
import Derived.Test.YtcomlipkmcphfaaQBaseJ
import Derived.Test.YtcomlipkmcphfaaQFirst3
namespace Go.Proofs.Ytcomlipkmcphfaa.Q
open Go.RowKit Go.Proofs.Ytcomlipkmcphfaa.P Go.Proofs.YtcomlipkmcphfaaW.PrintWords Go.Proofs.YtcomlipkmcphfaaW.PrintLast Go.Proofs.YtcomlipkmcphfaaW.PrintMore
set_option linter.unusedVariables false
set_option linter.unusedSimpArgs false

theorem FirstRing_same (l : List S41) : ∃ r, Ev (fun k => spec_FirstRing.f k l) r ∧ Ev (fun k => impl_FirstRing.f k l) r ∧ r.1.length ≤ 1048576 := by
  have h1 := tiHand_ev l
  have h2 := IsHand_ev l
  cases hc : handB l with
  | false =>
    rw [hc] at h1 h2
    exact ⟨([], false), bind_false h1 (Ev.now _), bind_false h2 (Ev.now _), by simp⟩
  | true =>
    rw [hc] at h1 h2
    have hg := handB_good hc
    have hl := handB_len hc
    obtain ⟨a, ha, ea⟩ := whCan_ev hg hl true
    obtain ⟨b, hb, eb, r, hr, e1, e2, e3⟩ := first_both hg (handB_nodup hc) hl
    have eo := odd_ev l (by omega)
    have hring : Ev (fun k => impl_canRing.f k l) a := by
      cases hcb : b with
      | true =>
        rw [hcb] at eb
        obtain ⟨hone, _⟩ := hb.1 hcb
        refine bind_true eb (Ev.bind eo (ev_const fun k => ?_))
        congr 1
        rw [Bool.eq_iff_iff, ha, beq_iff_eq]
        constructor
        · intro c; exact ⟨hone, .inl (by omega)⟩
        · rintro ⟨_, c | ⟨_, c⟩⟩
          · omega
          · cases c
      | false =>
        rw [hcb] at eb
        have haf : a = false := by
          cases hca : a with
          | false => rfl
          | true =>
            exfalso
            obtain ⟨hone, c⟩ := ha.1 hca
            have : b = true := hb.2 ⟨hone, by rcases c with c | c <;> omega⟩
            rw [hcb] at this; cases this
        rw [haf]
        exact bind_false eb (Ev.now _)
    cases hca : a with
    | false =>
      rw [hca] at ea hring
      exact ⟨([], false), bind_true h1 (bind_false ea (Ev.now _)), bind_true h2 (bind_false hring (Ev.now _)), by simp⟩
    | true =>
      rw [hca] at ea hring
      obtain ⟨hone, c⟩ := ha.1 hca
      have hbt : b = true := hb.2 ⟨hone, by rcases c with c | c <;> omega⟩
      refine ⟨(r, true), bind_true h1 (bind_true ea ?_), bind_true h2 (bind_true hring (Ev.bind (e2 hbt) (Ev.now _))), by show r.length ≤ _; omega⟩
      rw [hbt] at e1
      exact Ev.bind e1 (Ev.now _)

end Go.Proofs.Ytcomlipkmcphfaa.Q
