/- Plain lists and numbers: what the program's functions and the reference's compute. -/
import Derived.Test.YtdklmjpimgeejaaP0
import Derived.Test.YtdklmjpimgeejaaPIg
import Derived.Test.YtdklmjpimgeejaaPIl
import Derived.Test.YtdklmjpimgeejaaPSo
import Derived.Test.YtdklmjpimgeejaaPSp
import Derived.Test.YtdklmjpimgeejaaPSt
import Derived.Test.YtdklmjpimgeejaaQBaseC
import Derived.Test.YtdklmjpimgeejaaQChn
import Derived.Test.YtdklmjpimgeejaaQChnAll
namespace Go.Proofs.Ytdklmjpimgeejaa.Q
open Go.RowKit Go.Proofs.Ytdklmjpimgeejaa.P Go.Proofs.YtdklmjpimgeejaaW.PrintWords Go.Proofs.YtdklmjpimgeejaaW.PrintLast Go.Proofs.YtdklmjpimgeejaaW.PrintMore
set_option linter.unusedVariables false
set_option linter.unusedSimpArgs false

/-- The chains of all tiles among these. -/
def fullE (hl : Nat) (es : List (List Int)) : List (List Int) := es.filter fun ch => decide (ch.length = hl + 1)
theorem fullE_yes {hl : Nat} {ch : List Int} (h : ch.length = hl + 1) (es : List (List Int)) : fullE hl (ch :: es) = ch :: fullE hl es := by
  unfold fullE; rw [List.filter_cons, if_pos (by simpa using h)]
theorem fullE_no {hl : Nat} {ch : List Int} (h : ¬ ch.length = hl + 1) (es : List (List Int)) : fullE hl (ch :: es) = fullE hl es := by
  unfold fullE; rw [List.filter_cons, if_neg (by simpa using h)]
theorem seqB_all {hl : Nat} (h1 : 1 ≤ hl) : ∀ (es : List (List Int)) (out : List (List Int)), out.length ≤ 300 → ((out ++ fullE hl es).length ≤ 300 → seqB (eachN (gAll hl)) es out = (out ++ fullE hl es, true)) ∧ (¬ (out ++ fullE hl es).length ≤ 300 → (seqB (eachN (gAll hl)) es out).2 = false)
  | [], out, ho => ⟨fun _ => by simp [seqB, fullE], fun h => absurd (by simpa [fullE] using ho) h⟩
  | ch :: es, out, ho => by
    by_cases hf : ch.length = hl + 1
    · have he : eachN (gAll hl) ch out = (out ++ [ch], decide ((out ++ [ch]).length ≤ 300)) := by
        unfold eachN gAll
        rw [if_pos (by omega), if_pos hf]
      rw [fullE_yes hf, show out ++ ch :: fullE hl es = (out ++ [ch]) ++ fullE hl es from by simp]
      by_cases hlt : (out ++ [ch]).length ≤ 300
      · have hs : seqB (eachN (gAll hl)) (ch :: es) out = seqB (eachN (gAll hl)) es (out ++ [ch]) := by
          simp only [seqB, he]
          rw [if_pos (by simpa using hlt)]
        rw [hs]
        exact seqB_all h1 es _ hlt
      · have hs : seqB (eachN (gAll hl)) (ch :: es) out = (out ++ [ch], false) := by
          simp only [seqB, he]
          rw [if_neg (by simpa using hlt)]
        rw [hs]
        exact ⟨fun h => absurd (by rw [List.length_append] at h; omega) hlt, fun _ => rfl⟩
    · have he : eachN (gAll hl) ch out = (out, true) := by
        unfold eachN gAll
        rw [if_neg hf, decide_eq_true ho]
        split <;> rfl
      have hs : seqB (eachN (gAll hl)) (ch :: es) out = seqB (eachN (gAll hl)) es out := by
        simp only [seqB, he, if_true]
      rw [hs, fullE_no hf]
      exact seqB_all h1 es out ho
theorem wrap_more (n : Nat) : wrap64 (wrap64 (n : Int) + 1) = wrap64 ((n + 1 : Nat) : Int) := by unfold wrap64; omega
theorem visitL_all {hl : Nat} : ∀ (es : List (List Int)) (X : List (List Int)) (s : LkS), s.lst = X.take 301 → s.cnt = wrap64 (X.length : Int) → (es.foldl (visitL hl 300) s).lst = (X ++ fullE hl es).take 301 ∧ (es.foldl (visitL hl 300) s).cnt = wrap64 ((X ++ fullE hl es).length : Int)
  | [], X, s, h1, h2 => by simpa [fullE] using ⟨h1, h2⟩
  | ch :: es, X, s, h1, h2 => by
    rw [List.foldl_cons]
    have hA : (lkB ch (lkA ch s)).lst = s.lst ∧ (lkB ch (lkA ch s)).cnt = s.cnt := by unfold lkB lkA; split <;> split <;> exact ⟨rfl, rfl⟩
    by_cases hf : ch.length = hl + 1
    · rw [fullE_yes hf, show X ++ ch :: fullE hl es = (X ++ [ch]) ++ fullE hl es from by simp]
      refine visitL_all es (X ++ [ch]) _ ?_ ?_
      · unfold visitL
        rw [if_pos hf]
        unfold lkC
        simp only [hA.1, h1]
        by_cases c : X.length ≤ 300
        · rw [List.take_of_length_le (by omega), if_pos (by omega), List.take_of_length_le (by simp; omega)]
        · rw [if_neg (by rw [List.length_take]; omega), List.take_append_of_le_length (by omega)]
      · unfold visitL
        rw [if_pos hf]
        unfold lkC
        simp only [hA.2, h2]
        rw [wrap_more, List.length_append, List.length_singleton]
    · rw [fullE_no hf]
      have hv : visitL hl 300 s ch = lkB ch (lkA ch s) := by unfold visitL; rw [if_neg hf]
      rw [hv]
      exact visitL_all es X _ (hA.1.trans h1) (hA.2.trans h2)
/-- No more chains than so many. -/
def evB : Nat → Nat
  | 0 => 0
  | m + 1 => 1 + 10 * evB m
theorem flat_len {ι κ : Type} {E : ι → List κ} {B : Nat} (h : ∀ n, (E n).length ≤ B) : ∀ l : List ι, (l.flatMap E).length ≤ l.length * B
  | [] => by simp
  | n :: l => by
    rw [List.flatMap_cons, List.length_append, List.length_cons, Nat.succ_mul]
    have := flat_len h l
    have := h n
    omega
theorem evs_many : ∀ (m : Nat) (chain : List Int) (left : List S45), (evs m chain left).length ≤ evB m
  | 0, _, _ => Nat.le_refl _
  | m + 1, chain, left => by
    have := flat_len (E := fun (n : Nat) => if fwTile (chain.getLast?.getD 0) (n : Int) ∈ left then evs m (chain ++ [(n : Int)]) (left.erase (fwTile (chain.getLast?.getD 0) (n : Int))) else []) (B := evB m) (fun n => by
      show (if _ then _ else _ : List (List Int)).length ≤ _
      split
      · exact evs_many m _ _
      · exact Nat.zero_le _) (List.range 10)
    rw [List.length_range] at this
    simp only [evs, List.length_cons, evB]
    omega
theorem evB_le : ∀ m, m < 10 → evB m ≤ 111111111 := by decide
theorem evAll_many {l : List S45} (h8 : l.length ≤ 8) : (evAll l).length ≤ 1111111110 := by
  have h1 := flat_len (E := fun n => evs (l.length + 1) [n] l) (B := 111111111) (fun n => Nat.le_trans (evs_many _ _ _) (evB_le _ (by omega))) (numsT l)
  have h2 := numsT_len l
  have h3 : (numsT l).length * 111111111 ≤ 10 * 111111111 := Nat.mul_le_mul_right _ h2
  unfold evAll
  omega
theorem AllChains_same (l : List S45) : ∃ r, Ev (fun k => spec_AllChains.f k l) r ∧ Ev (fun k => impl_AllChains.f k l) r ∧ r.1.length ≤ 1000 ∧ ∀ g ∈ r.1, g.length ≤ 1000 := by
  by_cases hb : (handB l && decide ((l.length : Int) ≤ 8)) = true
  · have hh : handB l = true := by rw [Bool.and_eq_true] at hb; exact hb.1
    have h8 : l.length ≤ 8 := by rw [Bool.and_eq_true, decide_eq_true_eq] at hb; omega
    have hnd := handB_nodup hh
    have e1 := chained_ev l
    have e2 := small_ev l
    rw [hb] at e1 e2
    obtain ⟨F, hF⟩ : ∃ F, F = fullE l.length (evAll l) := ⟨_, rfl⟩
    have hFm : F.length ≤ 1111111110 := by rw [hF]; exact Nat.le_trans (List.length_filter_le _ _) (evAll_many h8)
    have hv := visitL_all (hl := l.length) (evAll l) [] ⟨0, List.replicate l.length 0, [], []⟩ rfl (by simp [wrap64])
    rw [← allV_evs hnd, List.nil_append, ← hF] at hv
    have hw : wrap64 (F.length : Int) = (F.length : Int) := by unfold wrap64; omega
    rw [hw] at hv
    have hall : (F.length ≤ 300 → seqB (eachN (gAll l.length)) (evAll l) [] = (F, true)) ∧ (¬ F.length ≤ 300 → (seqB (eachN (gAll l.length)) (evAll l) []).2 = false) := by
      by_cases hl1 : 1 ≤ l.length
      · have := seqB_all hl1 (evAll l) [] (by simp)
        rw [List.nil_append, ← hF] at this
        exact this
      · obtain rfl : l = [] := List.length_eq_zero_iff.1 (by omega)
        have h0 : evAll [] = [] := rfl
        rw [h0] at hF ⊢
        subst hF
        exact ⟨fun _ => rfl, fun h => absurd (by simp [fullE]) h⟩
    obtain ⟨s, hs⟩ : ∃ s, s = allV l 300 ((List.range 10).map fun (i : Nat) => timesT l (i : Int)) := ⟨_, rfl⟩
    rw [← hs] at hv
    by_cases hc : F.length ≤ 300
    · have hsr : (if s.cnt > 300 then (([] : List (List Int)), false) else (s.lst, true)) = (F, true) := by
        rw [if_neg (by rw [hv.2]; omega), hv.1, List.take_of_length_le (by omega)]
      refine ⟨(F, true), ?_, ?_, show F.length ≤ 1000 by omega, fun g hg => ?_⟩
      · refine Ev.bind e2 ?_
        simp only [if_true]
        exact Ev.bind (tms_ev l (by omega) 10) (ev_const fun k => by rw [if_pos h8, ← hs, hsr])
      · refine Ev.bind e1 ?_
        simp only [if_true]
        refine Ev.bind (numbers_ev l (by omega)) (ev_const fun k => ?_)
        rw [if_pos ⟨h8, by have := numsT_len l; omega⟩, allB_evs, hall.1 hc, if_pos rfl]
      · have hg2 : g ∈ F := hg
        rw [hF] at hg2
        have := (List.mem_filter.1 hg2).2
        rw [decide_eq_true_eq] at this
        omega
    · have hsr : (if s.cnt > 300 then (([] : List (List Int)), false) else (s.lst, true)) = ([], false) := if_pos (by rw [hv.2]; omega)
      refine ⟨([], false), ?_, ?_, by simp, fun g hg => by simp at hg⟩
      · refine Ev.bind e2 ?_
        simp only [if_true]
        exact Ev.bind (tms_ev l (by omega) 10) (ev_const fun k => by rw [if_pos h8, ← hs, hsr])
      · refine Ev.bind e1 ?_
        simp only [if_true]
        refine Ev.bind (numbers_ev l (by omega)) (ev_const fun k => ?_)
        rw [if_pos ⟨h8, by have := numsT_len l; omega⟩, allB_evs, hall.2 hc]
        simp
  · have e1 := chained_ev l
    have e2 := small_ev l
    rw [Bool.not_eq_true] at hb
    rw [hb] at e1 e2
    refine ⟨([], false), ?_, ?_, by simp, fun g hg => by simp at hg⟩
    · refine Ev.bind e2 ?_
      simp only [Bool.false_eq_true, if_false]
      exact Ev.now _
    · refine Ev.bind e1 ?_
      simp only [Bool.false_eq_true, if_false]
      exact Ev.now _

end Go.Proofs.Ytdklmjpimgeejaa.Q
