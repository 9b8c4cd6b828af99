/- Plain lists and numbers: what the program's functions and the reference's compute. -/
import Derived.Test.YtnooegfhffhfpaaP0
import Derived.Test.YtnooegfhffhfpaaPIb
import Derived.Test.YtnooegfhffhfpaaPIf
import Derived.Test.YtnooegfhffhfpaaPIg4
import Derived.Test.YtnooegfhffhfpaaPIx
import Derived.Test.YtnooegfhffhfpaaQBaseF
import Derived.Test.YtnooegfhffhfpaaQBaseG
import Derived.Test.YtnooegfhffhfpaaQBaseH
import Derived.Test.YtnooegfhffhfpaaQCountI
import Derived.Test.YtnooegfhffhfpaaQDblC
import Derived.Test.YtnooegfhffhfpaaQTrails
import Derived.Test.YtnooegfhffhfpaaQWalkC
namespace Go.Proofs.Ytnooegfhffhfpaa.Q
open Go.RowKit Go.Proofs.Ytnooegfhffhfpaa.P Go.Proofs.YtnooegfhffhfpaaW.PrintWords Go.Proofs.YtnooegfhffhfpaaW.PrintLast Go.Proofs.YtnooegfhffhfpaaW.PrintMore
set_option linter.unusedVariables false
set_option linter.unusedSimpArgs false

theorem times_plain (v : Int) : ∀ l : List S39, (∀ t ∈ l, goodT t = true) → timesT l v % 2 = timesT (plnT l) v % 2
  | [], _ => rfl
  | t :: l, hg => by
    have ih := times_plain v l fun x hx => hg x (List.mem_cons_of_mem _ hx)
    have g := (goodT_iff t).1 (hg t List.mem_cons_self)
    rw [plnT_cons]
    by_cases c : t.f0 < t.f1
    · rw [if_pos c, timesT, timesT]; omega
    · rw [if_neg c, timesT]
      have e : t.f1 = t.f0 := by omega
      rw [e]
      split <;> omega
theorem odd_plain {l : List S39} (hg : ∀ t ∈ l, goodT t = true) : oddT (plnT l) = oddT l := by
  unfold oddT
  apply List.filter_congr
  intro n _
  rw [times_plain n l hg]
theorem same_sort {l : List S39} (hg : ∀ t ∈ l, goodT t = true) (hn : l.Nodup) : Same l (sortN l) := ⟨hn, sortN_nodup l, fun t => (mem_sortN hg t).symm⟩
theorem mem_pln {l : List S39} (hg : ∀ t ∈ l, goodT t = true) (t : S39) : t ∈ plnT (sortN l) ↔ t ∈ l ∧ t.f0 < t.f1 := by
  unfold plnT
  rw [List.mem_filter, mem_sortN hg, decide_eq_true_eq]
theorem pln_good (l : List S39) : ∀ t ∈ plnT (sortN l), goodT t = true := fun t ht => sortN_good l t (List.mem_filter.1 ht).1
theorem pln_nodup (l : List S39) : (plnT (sortN l)).Nodup := (sortN_nodup l).filter _
theorem pln_len (l : List S39) : (plnT (sortN l)).length ≤ 55 := Nat.le_trans (List.length_filter_le _ _) (sortN_length l)
theorem one_nil : OneC ([] : List S39) := fun t ht => by cases ht
theorem trail_can {h : List S39} {n x : Int} {r : List Int} (ht : Trail h n r x) (hn : 0 ≤ n ∧ n ≤ 9) : OneC h ∧ (oddT h).length ≤ 2 := by
  refine ⟨?_, ?_⟩
  · by_cases hz : h = []
    · rw [hz]; exact one_nil
    · exact ((from_one hz n).1 ht.from_).1
  · rcases par_odd ht.par hn (ht.last hn) with c | ⟨c, _⟩ <;> omega
theorem total_zero (own : List Int) {h : List S39} (hno : ¬ (OneC h ∧ (oddT h).length ≤ 2)) : totalN own h = 0 := by
  refine sumF_zero _ fun n hn => ?_
  by_cases c : cntT h.length n h = 0
  · rw [c, Int.mul_zero]
  · obtain ⟨r, x, ht⟩ := cntT_trail _ n h rfl c
    exact absurd (trail_can ht ((mem_up n).1 hn)) hno
theorem times_nil (v : Int) : timesT [] v = 0 := rfl
/-- With a double that no chain can take, no way is left. -/
theorem total_zero' {l : List S39} (hg : ∀ t ∈ l, goodT t = true) (hn : l.Nodup) (hno : ¬ (OneC l ∧ (oddT l).length ≤ 2)) : totalN (dblT (sortN l)) (plnT (sortN l)) = 0 := by
  refine sumF_zero _ fun n hn9 => ?_
  by_cases c : cntT (plnT (sortN l)).length n (plnT (sortN l)) = 0
  · rw [c, Int.mul_zero]
  obtain ⟨r, x, ht⟩ := cntT_trail _ n _ rfl c
  have hcan := trail_can ht ((mem_up n).1 hn9)
  have hodd : oddT (plnT (sortN l)) = oddT l := by rw [odd_plain (sortN_good l), (same_sort hg hn).odd]
  by_cases hall : ∀ v ∈ dblT (sortN l), facT (plnT (sortN l)) n v ≠ 0
  case neg =>
    obtain ⟨v, hv⟩ := Classical.not_forall.1 hall
    obtain ⟨hv, e⟩ := Classical.not_imp.1 hv
    have e := Classical.not_not.1 e
    rw [prodI_zero _ hv e, Int.zero_mul]
  exfalso
  refine hno ⟨?_, by rw [← hodd]; exact hcan.2⟩
  have hdbl : ∀ t ∈ l, ¬ t.f0 < t.f1 → timesT (plnT (sortN l)) t.f0 > 0 ∨ t.f0 = n := by
    intro t htm hlt
    have g := (goodT_iff t).1 (hg t htm)
    have hv : t.f0 ∈ dblT (sortN l) := List.mem_map.2 ⟨t, List.mem_filter.2 ⟨(mem_sortN hg t).2 htm, by simp; omega⟩, rfl⟩
    have h1 := hall _ hv
    have h2 := timesT_bd (plnT (sortN l)) t.f0
    unfold facT at h1
    by_cases e : t.f0 = n
    · exact .inr e
    · rw [if_neg fun q => e q.2] at h1
      left; omega
  have hconn : ∀ t ∈ l, Conn l n t.f0 := by
    intro t htm
    by_cases hlt : t.f0 < t.f1
    · have hp := (mem_pln hg t).2 ⟨htm, hlt⟩
      rcases ht.from_ with e | ⟨_, e⟩
      · rw [e] at hp; cases hp
      · exact (e t hp).congr fun x hx => ((mem_pln hg x).1 hx).1
    · rcases hdbl t htm hlt with h1 | h1
      · obtain ⟨u, hu, e⟩ := (times_pos _ _).1 h1
        have hul := ((mem_pln hg u).1 hu).1
        rcases ht.from_ with e2 | ⟨_, e2⟩
        · rw [e2] at hu; cases hu
        · have h3 := (e2 u hu).congr fun x hx => ((mem_pln hg x).1 hx).1
          rcases e with e | e
          · rw [← e]; exact h3
          · rw [← e]; exact .fwd u h3 hul
      · rw [h1]; exact .refl _
  exact fun t htm u hu => (hconn t htm).symm.trans (hconn u hu)
theorem countWhole_ev {l : List S39} (hg : ∀ t ∈ l, goodT t = true) (hn : l.Nodup) (hl : l.length ≤ 55) : Ev (fun k => impl_countWhole.f k l) (wrap64 (totalN (dblT (sortN l)) (plnT (sortN l)))) := by
  obtain ⟨b, hb, eb⟩ := canChain_ev hg hl
  obtain ⟨b2, hb2, eb2⟩ := canChain_ev (pln_good l) (pln_len l)
  have hlen : (dblT (sortN l)).length ≤ 1000 ∧ (plnT (sortN l)).length ≤ 800 := by
    have h1 := dblT_length (sortN l); have h2 := sortN_length l; have h3 := pln_len l
    exact ⟨by omega, by omega⟩
  refine Ev.bind (f := fun k own => (impl_canChain.f k l).bind fun c => if c = true then ((impl_plain.f l).bind fun pl => (impl_canChain.f k pl).bind fun c2 => if own.length ≤ 1000 ∧ pl.length ≤ 800 then some (if c2 = true then wholesN own pl 0 else 0) else none) else some 0) (doubles_ev hg hn (by omega)) ?_
  cases b with
  | false =>
    have hz := total_zero' hg hn (fun c => by have := hb.2 c; cases this)
    rw [hz]
    exact Ev.bind eb (ev_const fun k => by rw [if_neg (by decide), wrap_eq (x := 0) (by omega) (by omega)])
  | true =>
    refine Ev.bind eb ?_
    refine Ev.congr (f := fun k => (impl_canChain.f k (plnT (sortN l))).bind fun c2 => some (if c2 = true then wholesN (dblT (sortN l)) (plnT (sortN l)) 0 else 0)) (fun k => ?_) ?_
    · rw [if_pos rfl, plain_some hg hn (by omega), Option.bind_some]
      congr 1
      funext c2
      rw [if_pos hlen]
    · refine Ev.bind eb2 (ev_const fun k => ?_)
      cases b2 with
      | false =>
        have hz := total_zero (dblT (sortN l)) (fun c => by have := hb2.2 c; cases this)
        rw [hz, if_neg (by decide), wrap_eq (x := 0) (by omega) (by omega)]
      | true =>
        rw [if_pos rfl, wholesN_total _ (pln_good l) (pln_nodup l)]

end Go.Proofs.Ytnooegfhffhfpaa.Q
