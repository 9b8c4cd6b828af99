/- Plain lists and numbers: what the program's functions and the reference's compute. The pure statement behind FnExactAllChains: no conditions. -/
import Derived.Test.YtdklmjpimgeejaaPIl
import Derived.Test.YtdklmjpimgeejaaPLa
import Derived.Test.YtdklmjpimgeejaaPLawAllChains
import Derived.Test.YtdklmjpimgeejaaPSt
import Derived.Test.YtdklmjpimgeejaaPlawseqIntSS
import Derived.Test.YtdklmjpimgeejaaPlawsheldIntSS
import Derived.Test.YtdklmjpimgeejaaPlawsmarkIntSS
import Derived.Test.YtdklmjpimgeejaaPlawsmarkTileS
import Derived.Test.YtdklmjpimgeejaaQAllChains
import Derived.Test.YtdklmjpimgeejaaQBaseC
import Derived.Test.YtdklmjpimgeejaaQScafI
import Derived.Test.YtdklmjpimgeejaaQScafSSI
namespace Go.Proofs.Ytdklmjpimgeejaa.Pure
open Go.RowKit Go.Proofs.Ytdklmjpimgeejaa.P Go.Proofs.Ytdklmjpimgeejaa.Q Go.Proofs.YtdklmjpimgeejaaW.PrintWords Go.Proofs.YtdklmjpimgeejaaW.PrintLast Go.Proofs.YtdklmjpimgeejaaW.PrintMore
set_option linter.unusedVariables false
set_option linter.unusedSimpArgs false

set_option maxRecDepth 100000 in
theorem FnExactAllChains : laws_FnExactAllChains.Pure := by
  intro l0 m0
  by_cases hb : l0.length ≤ 1048576
  case neg => exact ⟨1, by unfold laws_FnExactAllChains.f; rw [szTileS_big l0 hb m0]; rfl⟩
  obtain ⟨r, hs, hi, hn, hn2⟩ := AllChains_same (l0.map convT)
  have hlm : (l0.map convT).length ≤ 1048576 := by rw [List.length_map]; exact hb
  have e2 := eqTileS_ev (l0.map convT) (l0.map convT) (by omega)
  rw [decide_eq_true rfl] at e2
  have e1 := eqIntSS_ev r.1 (fun g hg => by have := hn2 g hg; omega) (by omega)
  have m1 := markTileS_loop (l0.map convT).length [] (l0.map convT) 1 rfl (by omega) (by omega) (by simp; omega)
  have m2 := markIntSS_ev r.1 hn2 hn
  have q := heldIntSS_ev r.1 hn2 hn
  have hfin : (r = r ∧ true = true ∧ true = true ∧ ¬ (1 + 2 * ((l0.map convT).length : Int)) < 0 ∧ ¬ (1 + (totSS r.1 : Int)) < 0 ∧ (1 + (totSS r.1 : Int)) = (1 + (totSS r.1 : Int)) ∧ (marksSI 1 r.1).length = r.1.length) := ⟨rfl, rfl, rfl, by omega, by omega, rfl, marksSI_length _ _⟩
  have all : Ev (fun k => laws_FnExactAllChains.f k l0) true := by
    unfold laws_FnExactAllChains.f
    rw [szTileS_ok l0 hb]
    have hz : ¬ (1048576 - (l0.length : Int)) < 0 := by omega
    refine Ev.congr (f := fun k => (laws_toTileS.f k l0).bind fun lt => (spec_AllChains.f k lt).bind fun r => (impl_AllChains.f k lt).bind fun r' => (laws_eqIntSS.f k r'.1 r.1).bind fun e1 => (laws_eqTileS.f k lt lt).bind fun e2 => (laws_markTileS.f k lt 1).bind fun m1 => (laws_markIntSS.f k r'.1 1).bind fun m2 => (laws_heldIntSS.f k m2.2 1).bind fun q => if r' = r ∧ e1 = true ∧ e2 = true ∧ ¬ m1.1 < 0 ∧ ¬ q < 0 ∧ q = m2.1 ∧ m2.2.length = r.1.length then some true else none) (fun k => by rw [Option.bind_some, if_neg hz]) ?_
    exact Ev.bind (toTileS_ev l0 hb) (Ev.bind hs (Ev.bind hi (Ev.bind e1 (Ev.bind e2 (Ev.bind m1 (Ev.bind m2 (Ev.bind q (ev_const fun k => if_pos hfin))))))))
  obtain ⟨K, hK⟩ := all
  exact ⟨K, hK K (Nat.le_refl _)⟩

end Go.Proofs.Ytdklmjpimgeejaa.Pure
