/- Plain lists and numbers: what the program's functions and the reference's compute. -/
import Derived.Test.YtdklmjpimgeejaaP0
import Derived.Test.YtdklmjpimgeejaaPIj
import Derived.Test.YtdklmjpimgeejaaPSo
import Derived.Test.YtdklmjpimgeejaaPSp
import Derived.Test.YtdklmjpimgeejaaPSq
import Derived.Test.YtdklmjpimgeejaaQBaseC
import Derived.Test.YtdklmjpimgeejaaQChn
import Derived.Test.YtdklmjpimgeejaaQChnAll
namespace Go.Proofs.Ytdklmjpimgeejaa.Q
open Go.RowKit Go.Proofs.Ytdklmjpimgeejaa.P Go.Proofs.YtdklmjpimgeejaaW.PrintWords Go.Proofs.YtdklmjpimgeejaaW.PrintLast Go.Proofs.YtdklmjpimgeejaaW.PrintMore
set_option linter.unusedVariables false
set_option linter.unusedSimpArgs false

theorem visitL_cs {hl : Nat} {most : Int} : ∀ (es : List (List Int)) (s : LkS), (es.foldl (visitL hl most) s).cs = es.foldl (fun cs ch => (eachN gCnt ch cs).1) s.cs
  | [], s => rfl
  | ch :: es, s => by
    rw [List.foldl_cons, List.foldl_cons, visitL_cs es]
    congr 1
    have hA : (lkB ch (lkA ch s)).cs = (eachN gCnt ch s.cs).1 := by
      have h1 : (lkA ch s).cs = s.cs := by unfold lkA; split <;> rfl
      unfold lkB eachN gCnt
      by_cases c : ch.length > 1
      · rw [if_pos c, if_pos c]; simp only [h1]
      · rw [if_neg c, if_neg c]; exact h1
    unfold visitL
    by_cases hf : ch.length = hl + 1
    · rw [if_pos hf]; exact hA
    · rw [if_neg hf]; exact hA
theorem CountByTiles_same (l : List S45) : ∃ r, Ev (fun k => spec_CountByTiles.f k l) r ∧ Ev (fun k => impl_CountByTiles.f k l) r ∧ r.1.length ≤ 1048576 := by
  by_cases hb : (handB l && decide ((l.length : Int) ≤ 8)) = true
  · have hh : handB l = true := by rw [Bool.and_eq_true] at hb; exact hb.1
    have h8 : l.length ≤ 8 := by rw [Bool.and_eq_true, decide_eq_true_eq] at hb; omega
    have hnd := handB_nodup hh
    have e1 := chained_ev l
    have e2 := small_ev l
    rw [hb] at e1 e2
    refine ⟨((allV l 0 ((List.range 10).map fun (i : Nat) => timesT l (i : Int))).cs, true), ?_, ?_, ?_⟩
    · refine Ev.bind e2 ?_
      simp only [if_true]
      exact Ev.bind (tms_ev l (by omega) 10) (ev_const fun k => if_pos h8)
    · refine Ev.bind e1 ?_
      simp only [if_true]
      refine Ev.bind (numbers_ev l (by omega)) (ev_const fun k => ?_)
      rw [if_pos ⟨h8, by have := numsT_len l; omega⟩, allB_evs, seqB_foldl (fun n s => by unfold eachN gCnt; split <;> rfl), allV_evs hnd, visitL_cs]
    · have := (allV_ok l (most := 0) (by decide) ((List.range 10).map fun (i : Nat) => timesT l (i : Int)) 10).1
      show (allV l 0 _).cs.length ≤ _
      unfold allV
      omega
  · have e1 := chained_ev l
    have e2 := small_ev l
    rw [Bool.not_eq_true] at hb
    rw [hb] at e1 e2
    refine ⟨([], false), ?_, ?_, by simp⟩
    · refine Ev.bind e2 ?_
      simp only [Bool.false_eq_true, if_false]
      exact Ev.now _
    · refine Ev.bind e1 ?_
      simp only [Bool.false_eq_true, if_false]
      exact Ev.now _

end Go.Proofs.Ytdklmjpimgeejaa.Q
