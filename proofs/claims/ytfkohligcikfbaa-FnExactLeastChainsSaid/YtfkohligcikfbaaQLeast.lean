/- Plain lists and numbers: what the program's functions and the reference's compute. -/
import Derived.Test.YtfkohligcikfbaaP0
import Derived.Test.YtfkohligcikfbaaPFLeastChains
import Derived.Test.YtfkohligcikfbaaPFPartsOfHand
import Derived.Test.YtfkohligcikfbaaPSa
import Derived.Test.YtfkohligcikfbaaPimplgroups
import Derived.Test.YtfkohligcikfbaaPimplodd
import Derived.Test.YtfkohligcikfbaaPspecwhOdd
import Derived.Test.YtfkohligcikfbaaQBaseF
import Derived.Test.YtfkohligcikfbaaQBaseG
import Derived.Test.YtfkohligcikfbaaQBaseH
import Derived.Test.YtfkohligcikfbaaQParts
namespace Go.Proofs.Ytfkohligcikfbaa.Q
open Go.RowKit Go.Proofs.Ytfkohligcikfbaa.P Go.Proofs.YtfkohligcikfbaaW.PrintWords Go.Proofs.YtfkohligcikfbaaW.PrintLast Go.Proofs.YtfkohligcikfbaaW.PrintMore
set_option linter.unusedVariables false
set_option linter.unusedSimpArgs false

theorem least_spec (ps : List (List S49)) (hl : ps.length ≤ 1000) (hp : ∀ p ∈ ps, p.length ≤ 400) (r : Int × Bool) : ∀ (d i : Nat) (a : Int), i + d = ps.length → 0 ≤ a → a ≤ 100 * i → ∃ z : Int, 0 ≤ z ∧ z ≤ 100 * ps.length ∧ Ev (fun k => spec_LeastChains.l0 k a ps (ps.length : Int) (i : Int)) (z, true) ∧ ∀ b, Ev (fun k => impl_LeastChains.l0 k b a ps (ps.length : Int) (i : Int)) (z, b) := by
  intro d
  induction d with
  | zero =>
    intro i a hi h0 ha
    refine ⟨a, h0, by omega, ⟨1, fun k hk => ?_⟩, fun b => ⟨1, fun k hk => ?_⟩⟩
    · obtain ⟨k, rfl⟩ : ∃ m, k = m + 1 := ⟨k - 1, by omega⟩
      simp only [spec_LeastChains.l0]
      rw [if_neg (by omega)]
    · obtain ⟨k, rfl⟩ : ∃ m, k = m + 1 := ⟨k - 1, by omega⟩
      simp only [impl_LeastChains.l0]
      rw [if_neg (by omega)]
  | succ d ih =>
    intro i a hi h0 ha
    obtain ⟨p, hpi⟩ : ∃ p, ps[i]? = some p := ⟨_, List.getElem?_eq_getElem (by omega)⟩
    have hpl := hp p (List.mem_of_getElem? hpi)
    have hrd : rd_L4 ps (i : Int) = p := by
      show ps.getD (i : Int).toNat _ = p
      rw [Int.toNat_natCast, List.getD_eq_getElem?_getD, hpi]; rfl
    have ho := oddT_len p
    have hd : Int.tdiv ((oddT p).length : Int) 2 = ((oddT p).length : Int) / 2 := Int.tdiv_eq_ediv_of_nonneg (by omega)
    have hw : wrap64 (((oddT p).length : Int) / 2) = ((oddT p).length : Int) / 2 := wrap_eq (by omega) (by omega)
    obtain ⟨m, hm⟩ : ∃ m, m = max 1 (((oddT p).length : Int) / 2) := ⟨_, rfl⟩
    have hmx : mx 1 (((oddT p).length : Int) / 2) = m := by rw [hm]; unfold mx; split <;> omega
    have hmost : spec_l1Most.f 1 (((oddT p).length : Int) / 2) = some m := by
      rw [hm]; unfold spec_l1Most.f
      by_cases c : (1 : Int) > ((oddT p).length : Int) / 2
      · rw [if_pos c]; congr 1; omega
      · rw [if_neg c]; congr 1; omega
    have hwa : wrap64 (a + m) = a + m := wrap_eq (by omega) (by omega)
    obtain ⟨z, z0, z1, e1, e2⟩ := ih (i + 1) (a + m) (by omega) (by omega) (by omega)
    refine ⟨z, z0, z1, ?_, fun b => ?_⟩
    · refine Ev.step (f := fun k => (spec_whOdd.f k p).bind fun t => (spec_l1Most.f 1 (wrap64 ((t.length : Int) / 2))).bind fun u => spec_LeastChains.l0 k (wrap64 (a + u)) ps (ps.length : Int) ((i + 1 : Nat) : Int)) (fun k => ?_) (Ev.bind (whOdd_ev p (by omega)) (Ev.congr (fun k => by rw [hw, hmost, Option.bind_some, hwa]) e1))
      simp only [spec_LeastChains.l0]
      rw [if_pos (by omega), if_pos (by omega), if_pos (by omega), hrd, wrap_succ (by omega)]
    · refine Ev.step (f := fun k => (impl_odd.f k p).bind fun t => impl_LeastChains.l0 k b (wrap64 (a + (mx 1 (wrap64 ((t.length : Int) / 2))))) ps (ps.length : Int) ((i + 1 : Nat) : Int)) (fun k => ?_) (Ev.bind (odd_ev p hpl) (Ev.congr (fun k => by rw [hw, hmx, hwa]) (e2 b)))
      simp only [impl_LeastChains.l0]
      rw [if_pos (by omega), if_pos (by omega), if_pos (by omega), hrd, wrap_succ (by omega)]
theorem LeastChains_same (l : List S49) : ∃ r, Ev (fun k => spec_LeastChains.f k l) r ∧ Ev (fun k => impl_LeastChains.f k l) r := by
  have h1 := tiHand_ev l
  have h2 := IsHand_ev l
  cases hc : handB l with
  | false =>
    rw [hc] at h1 h2
    refine ⟨(0, false), bind_false h1 (Ev.now _), ?_⟩
    have hp : Ev (fun k => impl_PartsOfHand.f k l) ([], false) := bind_false h2 (Ev.now _)
    obtain ⟨z, z0, z1, _, e2⟩ := least_spec [] (by simp) (fun p hp => by cases hp) (0, false) 0 0 0 rfl (by omega) (by omega)
    have hz : z = 0 := by have : z ≤ 0 := z1; omega
    subst hz
    exact Ev.bind hp (e2 false)
  | true =>
    rw [hc] at h1 h2
    have hl := handB_len hc
    have hg := handB_good hc
    have hn := handB_nodup hc
    have hup : upI 0 10 = [0, 1, 2, 3, 4, 5, 6, 7, 8, 9] := rfl
    have hlab : ∀ v, 0 ≤ v → v ≤ 9 → IsLeast l v (rd (roundsN l l.length (upI 0 10)) v) := by
      intro v h0 h9
      rw [roundsN_L, hup]
      exact groups_least hg v h0 h9
    have hps : (partsL l (rd (roundsN l l.length (upI 0 10))) (upFrom 0 10)).length ≤ 1000 := by
      unfold partsL
      rw [List.length_map]
      exact Nat.le_trans (List.length_filter_le _ _) (by rw [upFrom_length]; omega)
    have hpp : ∀ p ∈ partsL l (rd (roundsN l l.length (upI 0 10))) (upFrom 0 10), p.length ≤ 400 := by
      intro g hgm
      obtain ⟨c, _, rfl⟩ := List.mem_map.1 hgm
      exact Nat.le_trans (List.length_filter_le _ _) (by have := sortN_length l; omega)
    obtain ⟨z, z0, z1, e1, e2⟩ := least_spec _ hps hpp (0, false) _ 0 0 (Nat.zero_add _) (by omega) (by omega)
    have hp : Ev (fun k => impl_PartsOfHand.f k l) (partsL l (rd (roundsN l l.length (upI 0 10))) (upFrom 0 10), true) := bind_true h2 (Ev.bind (parts_ev hg hn hl) (Ev.now _))
    exact ⟨(z, true), bind_true h1 (Ev.bind (whParts_is hg (by omega) hlab) e1), Ev.bind hp (e2 true)⟩

end Go.Proofs.Ytfkohligcikfbaa.Q
