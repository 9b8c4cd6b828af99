/- Plain lists and numbers: what the program's functions and the reference's compute. -/
import Derived.Test.YtdklmjpimgeejaaP0
import Derived.Test.YtdklmjpimgeejaaPIb
import Derived.Test.YtdklmjpimgeejaaPIg
import Derived.Test.YtdklmjpimgeejaaPIk
import Derived.Test.YtdklmjpimgeejaaPSo
import Derived.Test.YtdklmjpimgeejaaPSp
import Derived.Test.YtdklmjpimgeejaaPSr
import Derived.Test.YtdklmjpimgeejaaQBaseC
import Derived.Test.YtdklmjpimgeejaaQChn
import Derived.Test.YtdklmjpimgeejaaQChnAll
namespace Go.Proofs.Ytdklmjpimgeejaa.Q
open Go.RowKit Go.Proofs.Ytdklmjpimgeejaa.P Go.Proofs.YtdklmjpimgeejaaW.PrintWords Go.Proofs.YtdklmjpimgeejaaW.PrintLast Go.Proofs.YtdklmjpimgeejaaW.PrintMore
set_option linter.unusedVariables false
set_option linter.unusedSimpArgs false

theorem visitL_lng {hl : Nat} {most : Int} : ∀ (es : List (List Int)) (s : LkS), (es.foldl (visitL hl most) s).lng = es.foldl (fun b ch => if ch.length > b.length then ch else b) s.lng
  | [], s => rfl
  | ch :: es, s => by
    rw [List.foldl_cons, List.foldl_cons, visitL_lng es]
    congr 1
    have hA : (lkB ch (lkA ch s)).lng = if ch.length > s.lng.length then ch else s.lng := by
      have h1 : (lkB ch (lkA ch s)).lng = (lkA ch s).lng := by unfold lkB; split <;> rfl
      rw [h1]
      unfold lkA; split <;> rfl
    unfold visitL
    by_cases hf : ch.length = hl + 1
    · rw [if_pos hf]; exact hA
    · rw [if_neg hf]; exact hA
/-- The two longest: the same from the first chain of a tile on. -/
def RelL (a b : List Int) : Prop := (a = b ∧ 2 ≤ a.length) ∨ (a.length ≤ 1 ∧ b = [0])
theorem relL_fold : ∀ (es : List (List Int)), (∀ ch ∈ es, 1 ≤ ch.length) → ∀ a b : List Int, RelL a b → RelL (es.foldl (fun b ch => if ch.length > b.length then ch else b) a) (es.foldl (fun b ch => (eachN gLng ch b).1) b)
  | [], _, _, _, h => h
  | ch :: es, hp, a, b, h => by
    rw [List.foldl_cons, List.foldl_cons]
    refine relL_fold es (fun c hc => hp c (List.mem_cons_of_mem _ hc)) _ _ ?_
    have h1 := hp ch List.mem_cons_self
    unfold eachN gLng
    rcases h with ⟨rfl, h2⟩ | ⟨h2, rfl⟩
    · by_cases c : ch.length > 1
      · rw [if_pos c]
        by_cases d : ch.length > a.length
        · simp only [if_pos d]; exact .inl ⟨rfl, by omega⟩
        · simp only [if_neg d]; exact .inl ⟨rfl, h2⟩
      · rw [if_neg c, if_neg (by omega)]; exact .inl ⟨rfl, h2⟩
    · by_cases c : ch.length > 1
      · rw [if_pos c]
        have d : ch.length > a.length := by omega
        have e : ch.length > ([0] : List Int).length := by simpa using c
        simp only [if_pos d, if_pos e]; exact .inl ⟨rfl, by omega⟩
      · rw [if_neg c]
        by_cases d : ch.length > a.length
        · rw [if_pos d]; exact .inr ⟨by omega, rfl⟩
        · rw [if_neg d]; exact .inr ⟨h2, rfl⟩
theorem lng_ge : ∀ (es : List (List Int)) (a : List Int), a.length ≤ (es.foldl (fun b ch => if ch.length > b.length then ch else b) a).length ∧ ∀ ch ∈ es, ch.length ≤ (es.foldl (fun b ch => if ch.length > b.length then ch else b) a).length
  | [], a => ⟨Nat.le_refl _, fun ch h => by simp at h⟩
  | ch :: es, a => by
    rw [List.foldl_cons]
    obtain ⟨h1, h2⟩ := lng_ge es (if ch.length > a.length then ch else a)
    have h3 : a.length ≤ (if ch.length > a.length then ch else a).length ∧ ch.length ≤ (if ch.length > a.length then ch else a).length := by
      by_cases c : ch.length > a.length
      · rw [if_pos c]; omega
      · rw [if_neg c]; omega
    refine ⟨by omega, fun c hc => ?_⟩
    rcases List.mem_cons.1 hc with rfl | hc
    · omega
    · exact h2 c hc
theorem two_in {l : List S45} (hg : ∀ t ∈ l, goodT t = true) (t : S45) (ht : t ∈ l) : [t.f0, t.f1] ∈ evAll l := by
  have hgt := (goodT_iff t).1 (hg t ht)
  obtain ⟨m, hm⟩ : ∃ m, l.length = m + 1 := ⟨l.length - 1, by have := List.length_pos_of_mem ht; omega⟩
  refine List.mem_flatMap.2 ⟨t.f0, (mem_numsT hg _).2 ⟨t, ht, .inl rfl⟩, ?_⟩
  rw [hm]
  have hf : fwTile t.f0 t.f1 = t := by
    unfold fwTile mn mx
    rw [if_neg (by omega)]
    by_cases c : t.f0 < t.f1
    · rw [if_pos c]
    · rw [if_neg c]
      have e : t.f0 = t.f1 := by omega
      cases t; simp only at e; simp [e]
  simp only [evs, List.mem_cons, List.mem_flatMap]
  refine .inr ⟨t.f1.toNat, List.mem_range.2 (by omega), ?_⟩
  have hc : ((t.f1.toNat : Nat) : Int) = t.f1 := Int.toNat_of_nonneg (by omega)
  rw [hc]
  simp only [List.getLast?_singleton, Option.getD_some, hf]
  rw [if_pos ht]
  simp
theorem LongestChain_same (l : List S45) : ∃ r, Ev (fun k => spec_LongestChain.f k l) r ∧ Ev (fun k => impl_LongestChain.f k l) r ∧ r.1.length ≤ 1048576 := by
  by_cases hb : (handB l && decide ((l.length : Int) ≤ 8)) = true
  · have hh : handB l = true := by rw [Bool.and_eq_true] at hb; exact hb.1
    have h8 : l.length ≤ 8 := by rw [Bool.and_eq_true, decide_eq_true_eq] at hb; omega
    have hnd := handB_nodup hh
    have hg := handB_good hh
    have e1 := chained_ev l
    have e2 := small_ev l
    rw [hb] at e1 e2
    have hok := (allV_ok l (most := 0) (by decide) ((List.range 10).map fun (i : Nat) => timesT l (i : Int)) 10).2.2
    obtain ⟨s, hs⟩ : ∃ s, s = allV l 0 ((List.range 10).map fun (i : Nat) => timesT l (i : Int)) := ⟨_, rfl⟩
    have hsl : s.lng.length ≤ l.length + 1 := by rw [hs]; exact hok
    have hlng : s.lng = (evAll l).foldl (fun b ch => if ch.length > b.length then ch else b) [] := by rw [hs, allV_evs hnd, visitL_lng]
    have hrel := relL_fold (evAll l) (fun ch hc => evAll_pos hc) [] [0] (.inr ⟨by simp, rfl⟩)
    have hres : (if s.lng.length = 0 then [0] else s.lng) = (evAll l).foldl (fun b ch => (eachN gLng ch b).1) [0] := by
      rw [← hlng] at hrel
      rcases hrel with ⟨h1, h2⟩ | ⟨h1, h2⟩
      · rw [if_neg (by omega)]; exact h1
      · rw [h2]
        by_cases hz : s.lng.length = 0
        · rw [if_pos hz]
        · exfalso
          have hne : l ≠ [] := by
            rintro rfl
            apply hz
            rw [hlng]
            rfl
          obtain ⟨t, ht⟩ := List.exists_mem_of_ne_nil l hne
          have h3 := (lng_ge (evAll l) []).2 _ (two_in hg t ht)
          rw [← hlng] at h3
          have h4 : ([t.f0, t.f1] : List Int).length = 2 := rfl
          omega
    refine ⟨(if s.lng.length = 0 then [0] else s.lng, true), ?_, ?_, ?_⟩
    · refine Ev.bind e2 ?_
      simp only [if_true]
      exact Ev.bind (tms_ev l (by omega) 10) (ev_const fun k => by rw [if_pos h8, ← hs])
    · refine Ev.bind e1 ?_
      simp only [if_true]
      refine Ev.bind (numbers_ev l (by omega)) (ev_const fun k => ?_)
      rw [if_pos ⟨h8, by have := numsT_len l; omega⟩, allB_evs, seqB_foldl (fun n s => by unfold eachN gLng; split <;> rfl), hres]
    · show (if s.lng.length = 0 then [0] else s.lng).length ≤ _
      split
      · simp
      · omega
  · have e1 := chained_ev l
    have e2 := small_ev l
    rw [Bool.not_eq_true] at hb
    rw [hb] at e1 e2
    refine ⟨([], false), ?_, ?_, by simp⟩
    · refine Ev.bind e2 ?_
      simp only [Bool.false_eq_true, if_false]
      exact Ev.now _
    · refine Ev.bind e1 ?_
      simp only [Bool.false_eq_true, if_false]
      exact Ev.now _

end Go.Proofs.Ytdklmjpimgeejaa.Q
