/- Plain lists and numbers: what the program's functions and the reference's compute. The pure statement behind FnExactParseHand: no conditions. -/
import Derived.Test.YtiabjcgcbjeikaaDoorPLawParseHand
import Derived.Test.YtiabjcgcbjeikaaDoorQBaseP
import Derived.Test.YtiabjcgcbjeikaaDoorQParseP
namespace Go.Proofs.YtiabjcgcbjeikaaDoor.Pure
open Go.RowKit Go.Proofs.YtiabjcgcbjeikaaDoor.P Go.Proofs.YtiabjcgcbjeikaaDoor.Q Go.Proofs.YtiabjcgcbjeikaaDoorW.PrintWords Go.Proofs.YtiabjcgcbjeikaaDoorW.PrintLast Go.Proofs.YtiabjcgcbjeikaaDoorW.PrintMore
set_option linter.unusedVariables false
set_option linter.unusedSimpArgs false

set_option maxRecDepth 100000 in
theorem FnExactParseHand : laws_FnExactParseHand.Pure := by
  intro a0 m0
  by_cases hsz : a0.size ≤ 1048576
  case neg =>
    refine ⟨0, ?_⟩
    unfold laws_FnExactParseHand.f
    rw [if_pos (by omega)]
  obtain ⟨r, hs, hi, hln⟩ := ParseHand_same a0 hsz
  have gsz : (1048576 < a0.size) = False := by simp only [eq_iff_iff, iff_false]; omega
  obtain ⟨r0, r1⟩ := r
  have hln' : r0.length ≤ 1048576 := hln
  have gk0 : ((1 + 2 * (r0.length : Int)) < 0) = False := by simp only [eq_iff_iff, iff_false]; omega
  obtain ⟨K0, fs⟩ := hs
  obtain ⟨K1, fi⟩ := hi
  obtain ⟨K2, fq0⟩ := (eqTileS_ev r0 r0 (by omega))
  obtain ⟨K3, fk0⟩ := (markTileS_ev r0 (by omega))
  obtain ⟨K4, fh0⟩ := (heldTileS_ev r0.length (by omega))
  obtain ⟨K, hK0, hK1, hK2, hK3, hK4⟩ : ∃ K, K0 ≤ K ∧ K1 ≤ K ∧ K2 ≤ K ∧ K3 ≤ K ∧ K4 ≤ K := ⟨K0 + K1 + K2 + K3 + K4, by omega, by omega, by omega, by omega, by omega⟩
  have H0 := fun c => fs (K + c) (by omega)
  have H1 := fun c => fi (K + c) (by omega)
  have H2 := fun c => fq0 (K + c) (by omega)
  have H3 := fun c => fk0 (K + c) (by omega)
  have H4 := fun c => fh0 (K + c) (by omega)
  clear fs fi fq0 fk0 fh0
  dsimp only at H0 H1 H2 H3 H4
  refine ⟨K + 9, ?_⟩
  simp [laws_FnExactParseHand.f, laws_FnExactParseHand.j0, laws_FnExactParseHand.j1, gsz, gk0, H0, H1, H2, H3, H4] <;> omega

end Go.Proofs.YtiabjcgcbjeikaaDoor.Pure
