/- Plain lists and numbers: what the program's functions and the reference's compute. -/
import Derived.Test.YtdklmjpimgeejaaP0
import Derived.Test.YtdklmjpimgeejaaPIg
import Derived.Test.YtdklmjpimgeejaaPIh
import Derived.Test.YtdklmjpimgeejaaPSo
import Derived.Test.YtdklmjpimgeejaaPSp
import Derived.Test.YtdklmjpimgeejaaPimplisChained
import Derived.Test.YtdklmjpimgeejaaPspechaSmall
import Derived.Test.YtdklmjpimgeejaaQBaseC
import Derived.Test.YtdklmjpimgeejaaQChn
namespace Go.Proofs.Ytdklmjpimgeejaa.Q
open Go.RowKit Go.Proofs.Ytdklmjpimgeejaa.P Go.Proofs.YtdklmjpimgeejaaW.PrintWords Go.Proofs.YtdklmjpimgeejaaW.PrintLast Go.Proofs.YtdklmjpimgeejaaW.PrintMore
set_option linter.unusedVariables false
set_option linter.unusedSimpArgs false

/-- All chains of a hand, in order. -/
def evAll (l : List S45) : List (List Int) := (numsT l).flatMap fun n => evs (l.length + 1) [n] l
theorem allB_evs {σ : Type} (g : List Int → σ → σ × Bool) (l : List S45) (s : σ) : allB g l (numsT l) s = seqB (eachN g) (evAll l) s :=
  seqB_flatMap _ _ _ (fun n s => chB_evs g (l.length + 1) [n] l s) _ _
theorem foldl_filter {ι σ : Type} (p : ι → Bool) (G : σ → ι → σ) : ∀ (l : List ι) (s : σ), (l.filter p).foldl G s = l.foldl (fun s n => if p n = true then G s n else s) s
  | [], s => rfl
  | n :: l, s => by
    rw [List.filter_cons, List.foldl_cons]
    by_cases h : p n = true
    · rw [if_pos h, if_pos h, List.foldl_cons, foldl_filter p G l]
    · rw [if_neg h, if_neg h, foldl_filter p G l]
theorem foldl_range (G : LkS → Int → LkS) (s : LkS) : (List.range 10).foldl (fun s (n : Nat) => G s (n : Int)) s = (upFrom 0 10).foldl G s := rfl
theorem tms_get (l : List S45) (n : Nat) (hn : n < 10) : ((List.range 10).map fun (i : Nat) => timesT l (i : Int)).getD n 0 = timesT l (n : Int) := by
  rw [List.getD_eq_getElem?_getD, List.getElem?_map, List.getElem?_range hn]; rfl
theorem foldl_congr_mem {ι σ : Type} {F G : σ → ι → σ} : ∀ (l : List ι) (s : σ), (∀ n ∈ l, ∀ s, F s n = G s n) → l.foldl F s = l.foldl G s
  | [], _, _ => rfl
  | n :: l, s, h => by rw [List.foldl_cons, List.foldl_cons, h n List.mem_cons_self, foldl_congr_mem l _ (fun m hm => h m (List.mem_cons_of_mem _ hm))]
theorem allV_evs {l : List S45} (hn : l.Nodup) (most : Int) : allV l most ((List.range 10).map fun (i : Nat) => timesT l (i : Int)) = (evAll l).foldl (visitL l.length most) ⟨0, List.replicate l.length 0, [], []⟩ := by
  unfold allV evAll numsT
  rw [foldl_flat, foldl_filter, ← foldl_range]
  refine foldl_congr_mem _ _ (fun n hnm s => ?_)
  have h10 : n < 10 := List.mem_range.1 hnm
  rw [tms_get l n h10]
  by_cases h : timesT l (n : Int) > 0
  · obtain ⟨t, ht, _⟩ := (times_pos l n).1 h
    have hpos := List.length_pos_of_mem ht
    rw [if_pos ⟨hpos, h⟩, if_pos (by simpa using h)]
    have := lookV_evs l most hn (l.length + 1) [(n : Int)] (List.replicate l.length false) s (by simp) (by rw [leftU_init]; simp; omega) (by rw [leftU_init]; omega)
    rw [leftU_init] at this
    exact this
  · rw [if_neg (fun e => h e.2), if_neg (by simpa using h)]
theorem tms_ev (l : List S45) (hl : l.length ≤ 1000000000) : ∀ n, Ev (fun k => tmsF k l n) ((List.range n).map fun (i : Nat) => timesT l (i : Int))
  | 0 => Ev.now _
  | n + 1 => by
    rw [List.range_succ, List.map_append]
    exact Ev.bind (tms_ev l hl n) (Ev.bind (tiTimes_ev l n hl) (Ev.now _))
theorem chained_ev (l : List S45) : Ev (fun k => impl_isChained.f k l) (handB l && decide ((l.length : Int) ≤ 8)) := by
  refine Ev.bind (IsHand_ev l) ?_
  cases handB l with
  | true => exact Ev.now _
  | false => exact Ev.now _
theorem small_ev (l : List S45) : Ev (fun k => spec_haSmall.f k l) (handB l && decide ((l.length : Int) ≤ 8)) := by
  refine Ev.bind (tiHand_ev l) ?_
  cases handB l with
  | true => exact Ev.now _
  | false => exact Ev.now _
/-- A chain that begins so is no shorter, and no longer than all tiles allow. -/
theorem evs_len : ∀ (m : Nat) (chain : List Int) (left : List S45) (ch : List Int), ch ∈ evs m chain left → chain.length ≤ ch.length
  | 0, _, _, _, h => by simp [evs] at h
  | m + 1, chain, left, ch, h => by
    simp only [evs, List.mem_cons, List.mem_flatMap] at h
    rcases h with rfl | ⟨n, _, h⟩
    · exact Nat.le_refl _
    · split at h
      · have := evs_len m _ _ ch h
        rw [List.length_append, List.length_singleton] at this
        omega
      · simp at h
theorem evAll_pos {l : List S45} {ch : List Int} (h : ch ∈ evAll l) : 1 ≤ ch.length := by
  obtain ⟨n, _, h⟩ := List.mem_flatMap.1 h
  exact evs_len _ _ _ _ h
theorem visitL_lst {hl : Nat} {most : Int} : ∀ (es : List (List Int)) (s : LkS), (∀ g ∈ s.lst, g.length = hl + 1) → ∀ g ∈ (es.foldl (visitL hl most) s).lst, g.length = hl + 1
  | [], s, h => h
  | ch :: es, s, h => by
    rw [List.foldl_cons]
    refine visitL_lst es _ ?_
    have hA : (lkB ch (lkA ch s)).lst = s.lst := by unfold lkB lkA; split <;> split <;> rfl
    unfold visitL
    by_cases hf : ch.length = hl + 1
    · rw [if_pos hf]
      intro g hg
      unfold lkC at hg
      rw [hA] at hg
      simp only at hg
      split at hg
      · rcases List.mem_append.1 hg with hg | hg
        · exact h g hg
        · rw [List.mem_singleton.1 hg]; exact hf
      · exact h g hg
    · rw [if_neg hf, hA]; exact h

end Go.Proofs.Ytdklmjpimgeejaa.Q
