/- Plain lists and numbers: what the program's functions and the reference's compute. -/
import Derived.Test.YtgcfddomnohajaaPFJoinChains
import Derived.Test.YtgcfddomnohajaaPIc
import Derived.Test.YtgcfddomnohajaaQChain
import Derived.Test.YtgcfddomnohajaaQConcat
import Derived.Test.YtgcfddomnohajaaQScaf
import Derived.Test.YtgcfddomnohajaaQScaf2
import Derived.Test.YtgcfddomnohajaaQSpin
namespace Go.Proofs.Ytgcfddomnohajaa.Q
open Go.RowKit Go.Proofs.Ytgcfddomnohajaa.P Go.Proofs.YtgcfddomnohajaaW.PrintWords Go.Proofs.YtgcfddomnohajaaW.PrintLast Go.Proofs.YtgcfddomnohajaaW.PrintMore
set_option linter.unusedVariables false
set_option linter.unusedSimpArgs false

theorem JoinChains_same (a b : List Int) (ha : a.length ≤ 1048576) (hb : b.length ≤ 1048576) : ∃ r, Ev (fun k => spec_JoinChains.f k a b) r ∧ Ev (fun k => impl_JoinChains.f k a b) r ∧ r.1.length ≤ 1048576 := by
  have h1 := haGood_ev a (by omega)
  have h2 := IsChain_ev a (by omega)
  have h3 := haGood_ev b (by omega)
  have h4 := IsChain_ev b (by omega)
  have sT : Ev (fun k => spec_JoinChains.j0 k a b true) ([], false) := Ev.step (fun k => by simp only [spec_JoinChains.j0, ↓reduceIte]) (Ev.now _)
  have iT : Ev (fun k => impl_JoinChains.j0 k a b true) ([], false) := Ev.step (fun k => by simp only [impl_JoinChains.j0, ↓reduceIte]) (Ev.now _)
  cases hc : chainB a with
  | false =>
    rw [hc] at h1 h2
    exact ⟨([], false), bind_false h1 sT, bind_false h2 iT, by simp⟩
  | true =>
    rw [hc] at h1 h2
    cases hd : chainB b with
    | false =>
      rw [hd] at h3 h4
      exact ⟨([], false), bind_true h1 (bind_false h3 sT), bind_true h2 (bind_false h4 iT), by simp⟩
    | true =>
      rw [hd] at h3 h4
      have na := chainB_len hc
      have nb := chainB_len hd
      obtain ⟨w1, w2⟩ := rd_last a na.1 (by omega)
      have hh : ∃ r, Ev (fun k => spec_JoinChains.j0 k a b (a[a.length - 1] != b[0])) r ∧ Ev (fun k => impl_JoinChains.j0 k a b (a[a.length - 1] != b[0])) r ∧ r.1.length ≤ 1048576 := by
        cases he : (a[a.length - 1] != b[0]) with
        | true => exact ⟨_, sT, iT, by simp⟩
        | false =>
          have h5 := haGood_ev (a ++ b.drop 1) (by simp; omega)
          have h6 := IsChain_ev (a ++ b.drop 1) (by simp; omega)
          have h7 := concat2_ev a (b.drop 1) (by simp; omega)
          refine ⟨if chainB (a ++ b.drop 1) = true then (a ++ b.drop 1, true) else ([], false), Ev.step (fun k => ?_) (Ev.bind (f := fun k t => if t = true then some (a ++ b.drop 1, true) else some (([] : List Int), false)) h5 ?_), Ev.step (fun k => ?_) (Ev.bind (f := fun k x => (impl_IsChain.f k x).bind fun t => if t = true then some (x, true) else some (([] : List Int), false)) h7 (Ev.bind (f := fun k t => if t = true then some (a ++ b.drop 1, true) else some (([] : List Int), false)) h6 ?_)), ?_⟩
          · simp only [spec_JoinChains.j0]
            simp only [Bool.false_eq_true, ↓reduceIte]
            rw [l1Own_some a (by omega), Option.bind_some, if_pos (by omega), if_pos (by simp; omega), Option.bind_some]
          · exact ev_const (fun k => by split <;> rfl)
          · simp only [impl_JoinChains.j0]
            simp only [Bool.false_eq_true, ↓reduceIte]
            rw [if_pos (by omega)]
          · exact ev_const (fun k => by split <;> rfl)
          · split
            · simp; omega
            · simp
      obtain ⟨r, r1, r2, r3⟩ := hh
      refine ⟨r, bind_true h1 (bind_true h3 (Ev.congr (fun k => ?_) r1)), bind_true h2 (bind_true h4 (Ev.congr (fun k => ?_) r2)), r3⟩
      · rw [w1, if_pos (by omega), if_pos (by omega), if_pos (by omega), w2, rd_zero b nb.1]
      · rw [w1, if_pos (by omega), if_pos (by omega), if_pos (by omega), w2, rd_zero b nb.1]

end Go.Proofs.Ytgcfddomnohajaa.Q
