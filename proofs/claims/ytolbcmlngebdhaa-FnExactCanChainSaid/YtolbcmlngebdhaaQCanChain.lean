/- Plain lists and numbers: what the program's functions and the reference's compute. -/
import Derived.Test.YtolbcmlngebdhaaP0
import Derived.Test.YtolbcmlngebdhaaPFCanChain
import Derived.Test.YtolbcmlngebdhaaQBaseE
namespace Go.Proofs.Ytolbcmlngebdhaa.Q
open Go.RowKit Go.Proofs.Ytolbcmlngebdhaa.P Go.Proofs.YtolbcmlngebdhaaW.PrintWords Go.Proofs.YtolbcmlngebdhaaW.PrintLast Go.Proofs.YtolbcmlngebdhaaW.PrintMore
set_option linter.unusedVariables false
set_option linter.unusedSimpArgs false

theorem CanChain_same (l : List S33) : ∃ r, Ev (fun k => spec_CanChain.f k l) r ∧ Ev (fun k => impl_CanChain.f k l) r := by
  have h1 := tiHand_ev l
  have h2 := IsHand_ev l
  cases hc : handB l with
  | false =>
    rw [hc] at h1 h2
    exact ⟨(false, false), bind_false h1 (Ev.now _), bind_false h2 (Ev.now _)⟩
  | true =>
    rw [hc] at h1 h2
    have hl := handB_len hc
    have hg := handB_good hc
    obtain ⟨a, ha, ea⟩ := whCan_ev hg hl false
    obtain ⟨b, hb, eb⟩ := canChain_ev hg hl
    have hev := odd_even hg
    have hab : a = b := by
      rw [Bool.eq_iff_iff, ha, hb]
      constructor
      · rintro ⟨h, c⟩
        rcases c with c | ⟨c, _⟩
        · exact ⟨h, by omega⟩
        · exact ⟨h, by omega⟩
      · rintro ⟨h, c⟩
        rcases (show (oddT l).length = 0 ∨ (oddT l).length = 2 by omega) with c | c
        · exact ⟨h, .inl c⟩
        · exact ⟨h, .inr ⟨c, rfl⟩⟩
    subst hab
    exact ⟨(a, true), bind_true h1 (Ev.bind ea (Ev.now _)), bind_true h2 (Ev.bind eb (Ev.now _))⟩

end Go.Proofs.Ytolbcmlngebdhaa.Q
