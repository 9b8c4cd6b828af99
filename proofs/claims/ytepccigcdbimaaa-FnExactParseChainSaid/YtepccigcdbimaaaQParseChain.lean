/- Plain lists and numbers: what the program's functions and the reference's compute. -/
import Derived.Test.YtepccigcdbimaaaPFParseChain
import Derived.Test.YtepccigcdbimaaaPIc
import Derived.Test.YtepccigcdbimaaaPSd
import Derived.Test.YtepccigcdbimaaaPSf
import Derived.Test.YtepccigcdbimaaaQChain
import Derived.Test.YtepccigcdbimaaaQScaf
import Derived.Test.YtepccigcdbimaaaQScaf2
namespace Go.Proofs.Ytepccigcdbimaaa.Q
open Go.RowKit Go.Proofs.Ytepccigcdbimaaa.P Go.Proofs.YtepccigcdbimaaaW.PrintWords Go.Proofs.YtepccigcdbimaaaW.PrintLast Go.Proofs.YtepccigcdbimaaaW.PrintMore
set_option linter.unusedVariables false
set_option linter.unusedSimpArgs false

theorem bt_get (s : ByteArray) (i : Nat) (h : i < s.size) : ∃ b : UInt8, s.data.toList[i]? = some b ∧ bt s (i : Int) = (b.toNat : Int) := by
  have hl : i < s.data.toList.length := by simpa using h
  refine ⟨s.data.toList[i], List.getElem?_eq_getElem hl, ?_⟩
  unfold bt
  rw [Int.toNat_natCast, dif_pos h]
  rfl
theorem chainOf_get (s : ByteArray) (i : Nat) (b : UInt8) (h : s.data.toList[i]? = some b) : (chainOf s)[i]? = some ((b.toNat : Int) - 48) := by
  unfold chainOf
  rw [List.getElem?_map, h]; rfl
theorem haParse_loop (s : ByteArray) (hs : s.size ≤ 56) : ∀ d i, i + d = s.size → inB ((chainOf s).take i) = true → Ev (fun k => spec_haParse.l0 k s ((chainOf s).take i) (i : Int)) (if inB (chainOf s) = true then (chainOf s, chainB (chainOf s)) else ([], false)) := by
  intro d
  have hlen := chainOf_length s
  induction d with
  | zero =>
    intro i h hb
    rw [List.take_of_length_le (by omega)] at hb ⊢
    rw [if_pos hb]
    refine Ev.step (f := fun k => (spec_haGood.f k (chainOf s)).bind fun t => some (chainOf s, t)) (fun k => ?_) (Ev.bind (haGood_ev (chainOf s) (by omega)) (Ev.now _))
    simp only [spec_haParse.l0]
    rw [if_neg (by omega)]
  | succ d ih =>
    intro i h hb
    have hi : i < s.size := by omega
    obtain ⟨b, hb1, hb2⟩ := bt_get s i hi
    have hg := chainOf_get s i b hb1
    have hbd := b.toNat_lt
    have hmem : ((b.toNat : Int) - 48) ∈ chainOf s := List.mem_of_getElem? hg
    have hal : ((chainOf s).take i).length ≤ 56 := by rw [List.length_take]; omega
    by_cases c1 : (b.toNat : Int) < 48
    · have : ¬ inB (chainOf s) = true := fun c => by have := (inB_iff _).1 c _ hmem; omega
      rw [if_neg this]
      refine Ev.step (f := fun _ => some ([], false)) (fun k => ?_) (Ev.now _)
      simp only [spec_haParse.l0]
      rw [if_pos (by omega), if_pos (by omega), hb2, if_pos c1]
    · by_cases c2 : (b.toNat : Int) > 57
      · have : ¬ inB (chainOf s) = true := fun c => by have := (inB_iff _).1 c _ hmem; omega
        rw [if_neg this]
        refine Ev.step (f := fun _ => some ([], false)) (fun k => ?_) (Ev.now _)
        simp only [spec_haParse.l0]
        rw [if_pos (by omega), if_pos (by omega), hb2, if_neg c1, if_pos c2]
      · have htk : (chainOf s).take (i + 1) = (chainOf s).take i ++ [(b.toNat : Int) - 48] := by rw [List.take_add_one, hg]; rfl
        have := ih (i + 1) (by omega) (by
          rw [htk]
          rw [inB_iff] at hb ⊢
          intro n hn
          rcases List.mem_append.1 hn with hn | hn
          · exact hb n hn
          · rw [List.mem_singleton.1 hn]; omega)
        rw [htk] at this
        refine Ev.step (fun k => ?_) this
        simp only [spec_haParse.l0]
        rw [if_pos (by omega), if_pos (by omega), hb2, if_neg c1, if_neg c2, if_pos (by omega), wrap_succ (by omega), show ((b.toNat : Int) - 48) % 256 = (b.toNat : Int) - 48 by omega]
theorem chainB_inB {l : List Int} (h : chainB l = true) : inB l = true := (inB_iff l).2 (chainB_in h)
theorem ParseChain_same (s : ByteArray) (hs : s.size ≤ 1048576) : ∃ r, Ev (fun k => spec_ParseChain.f k s) r ∧ Ev (fun k => impl_ParseChain.f k s) r ∧ r.1.length ≤ 1048576 := by
  have hlen := chainOf_length s
  have h2 := IsChain_ev (chainOf s) (by omega)
  have himpl : ∀ r, Ev (fun k => (impl_IsChain.f k (chainOf s)).bind fun t => if t = true then some (chainOf s, true) else some ([], false)) r → Ev (fun k => impl_ParseChain.f k s) r := fun r hr => Ev.congr (fun k => by unfold impl_ParseChain.f; rw [if_pos hs]) hr
  by_cases h56 : s.size ≤ 56
  · have hp : Ev (fun k => spec_haParse.f k s) (if inB (chainOf s) = true then (chainOf s, chainB (chainOf s)) else ([], false)) := by
      have := haParse_loop s h56 s.size 0 (by omega) rfl
      exact Ev.congr (fun k => by unfold spec_haParse.f; rw [if_neg (by omega)]; rfl) this
    cases hc : chainB (chainOf s) with
    | true =>
      rw [hc] at h2 hp
      rw [if_pos (chainB_inB hc)] at hp
      exact ⟨(chainOf s, true), Ev.bind hp (ev_const fun k => if_pos rfl), himpl _ (bind_true h2 (Ev.now _)), by simp only; omega⟩
    | false =>
      rw [hc] at h2 hp
      refine ⟨([], false), ?_, himpl _ (bind_false h2 (Ev.now _)), by simp⟩
      by_cases hb : inB (chainOf s) = true
      · rw [if_pos hb] at hp
        exact Ev.bind hp (ev_const fun k => if_neg Bool.false_ne_true)
      · rw [if_neg hb] at hp
        exact Ev.bind hp (ev_const fun k => if_neg Bool.false_ne_true)
  · have hc : chainB (chainOf s) = false := by
      cases h : chainB (chainOf s) with
      | false => rfl
      | true => have := chainB_len h; omega
    rw [hc] at h2
    refine ⟨([], false), ?_, himpl _ (bind_false h2 (Ev.now _)), by simp⟩
    refine ev_const fun k => ?_
    unfold spec_ParseChain.f spec_haParse.f
    rw [if_pos (by omega), Option.bind_some, if_neg (by decide)]

end Go.Proofs.Ytepccigcdbimaaa.Q
