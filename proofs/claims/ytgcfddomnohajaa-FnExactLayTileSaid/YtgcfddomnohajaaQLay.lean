/- Plain lists and numbers: what the program's functions and the reference's compute. -/
import Derived.Test.YtgcfddomnohajaaP0
import Derived.Test.YtgcfddomnohajaaPIa
import Derived.Test.YtgcfddomnohajaaPIb
import Derived.Test.YtgcfddomnohajaaPIf
import Derived.Test.YtgcfddomnohajaaPLawLayTile
import Derived.Test.YtgcfddomnohajaaPSa
import Derived.Test.YtgcfddomnohajaaPSd
import Derived.Test.YtgcfddomnohajaaQChain
import Derived.Test.YtgcfddomnohajaaQConcat
import Derived.Test.YtgcfddomnohajaaQHand
import Derived.Test.YtgcfddomnohajaaQScaf
namespace Go.Proofs.Ytgcfddomnohajaa.Q
open Go.RowKit Go.Proofs.Ytgcfddomnohajaa.P Go.Proofs.YtgcfddomnohajaaW.PrintWords Go.Proofs.YtgcfddomnohajaaW.PrintLast Go.Proofs.YtgcfddomnohajaaW.PrintMore
set_option linter.unusedVariables false
set_option linter.unusedSimpArgs false

theorem tilesT_snoc : ∀ (l : List Int) (h : l ≠ []) (b : Int), tilesT (l ++ [b]) = tilesT l ++ [mkT (l.getLast h) b]
  | [a], _, b => rfl
  | a :: c :: r, h, b => by
    have := tilesT_snoc (c :: r) (by simp) b
    simp only [List.cons_append, tilesT] at this ⊢
    rw [this]
    rfl
theorem haOther_some (t : S60) (n : Int) : spec_haOther.f t.f0 t.f1 n = some (if n = t.f0 then t.f1 else if n = t.f1 then t.f0 else -1) := by
  unfold spec_haOther.f
  by_cases h : n = t.f0
  · rw [if_pos h, if_pos h]
  · rw [if_neg h, if_neg h]; by_cases h2 : n = t.f1
    · rw [if_pos h2, if_pos h2]
    · rw [if_neg h2, if_neg h2]
theorem has_some (t : S60) (n : Int) : impl_Tile_has.f t.f0 t.f1 n = some (decide (t.f0 = n) || decide (t.f1 = n)) := by
  unfold impl_Tile_has.f
  by_cases h : t.f0 = n <;> by_cases h2 : t.f1 = n <;> simp [h, h2]
theorem mkT_of (t : S60) (hg : goodT t = true) (n o : Int) (h : (n = t.f0 ∧ o = t.f1) ∨ (n = t.f1 ∧ o = t.f0)) : mkT n o = t := by
  rw [goodT_iff] at hg
  rw [tile_ext]
  unfold mkT
  simp only
  rcases h with ⟨rfl, rfl⟩ | ⟨rfl, rfl⟩
  · constructor <;> split <;> omega
  · constructor <;> split <;> omega
/-- The other number of a tile, told by both. -/
theorem other_cases (t : S60) (hg : goodT t = true) (n : Int) (hn : 0 ≤ n ∧ n ≤ 9) :
    ((decide (t.f0 = n) || decide (t.f1 = n)) = true ∧ ∃ o, 0 ≤ o ∧ o ≤ 9 ∧ spec_haOther.f t.f0 t.f1 n = some o ∧ impl_Tile_other.f t.f0 t.f1 n = some o ∧ mkT n o = t ∧ mkT o n = t) ∨
    ((decide (t.f0 = n) || decide (t.f1 = n)) = false ∧ spec_haOther.f t.f0 t.f1 n = some (-1)) := by
  have hg' := (goodT_iff t).1 hg
  rw [haOther_some]
  by_cases h : t.f0 = n
  · refine .inl ⟨by simp [h], t.f1, by omega, by omega, by rw [if_pos h.symm], ?_, mkT_of t hg n _ (.inl ⟨h.symm, rfl⟩), by rw [mkT_comm]; exact mkT_of t hg n _ (.inl ⟨h.symm, rfl⟩)⟩
    unfold impl_Tile_other.f
    rw [wrap_eq (x := t.f0 + t.f1) (by omega) (by omega), wrap_eq (by omega) (by omega)]; congr 1; omega
  · by_cases h2 : t.f1 = n
    · refine .inl ⟨by simp [h2], t.f0, by omega, by omega, by rw [if_neg (fun e => h e.symm), if_pos h2.symm], ?_, mkT_of t hg n _ (.inr ⟨h2.symm, rfl⟩), by rw [mkT_comm]; exact mkT_of t hg n _ (.inr ⟨h2.symm, rfl⟩)⟩
      unfold impl_Tile_other.f
      rw [wrap_eq (x := t.f0 + t.f1) (by omega) (by omega), wrap_eq (by omega) (by omega)]; congr 1; omega
    · exact .inr ⟨by simp [h, h2], by rw [if_neg (fun e => h e.symm), if_neg (fun e => h2 e.symm)]⟩
theorem chainB_bad {l : List Int} (n : Int) (h : n ∈ l) (hn : ¬ (0 ≤ n ∧ n ≤ 9)) : chainB l = false := by
  cases hc : chainB l with
  | false => rfl
  | true => exact absurd (chainB_in hc n h) hn
theorem chainB_cons {l : List Int} (hc : chainB l = true) (o : Int) (h0 : 0 ≤ o ∧ o ≤ 9) (t : S60) (ht : mkT o (l[0]'(chainB_len hc).1) = t) : chainB (o :: l) = !decide (t ∈ tilesT l) := by
  have hn := chainB_nodup hc
  have hi := chainB_in hc
  match l, hc, hn, hi, ht with
  | a :: r, hc, hn, hi, ht =>
    have ht' : mkT o a = t := ht
    unfold chainB
    rw [show inB (o :: a :: r) = true from (inB_iff _).2 (fun n hm => by
      rcases List.mem_cons.1 hm with rfl | hm
      · exact h0
      · exact hi n hm)]
    rw [tilesT, ht', decide_eq_true (by simp), Bool.true_and, Bool.true_and]
    by_cases hm : t ∈ tilesT (a :: r)
    · simp [hm]
    · simp [hm, hn]
theorem chainB_snoc {l : List Int} (hc : chainB l = true) (o : Int) (h0 : 0 ≤ o ∧ o ≤ 9) (t : S60) (ht : mkT (l[l.length - 1]'(by have := (chainB_len hc).1; omega)) o = t) : chainB (l ++ [o]) = !decide (t ∈ tilesT l) := by
  have hn := chainB_nodup hc
  have hi := chainB_in hc
  have hne : l ≠ [] := by intro e; subst e; have := (chainB_len hc).1; simp at this
  have hl : l.getLast hne = l[l.length - 1]'(by have := (chainB_len hc).1; omega) := by rw [List.getLast_eq_getElem]
  unfold chainB
  rw [show inB (l ++ [o]) = true from (inB_iff _).2 (fun n hm => by
    rcases List.mem_append.1 hm with hm | hm
    · exact hi n hm
    · rw [List.mem_singleton.1 hm]; exact h0)]
  rw [tilesT_snoc l hne, hl, ht, decide_eq_true (by simp), Bool.true_and, Bool.true_and, ← decide_not, decide_eq_decide, nodup_snoc]
  exact ⟨fun h => h.2, fun h => ⟨hn, h⟩⟩
theorem l1Own_some' (l : List Int) (h : l.length ≤ 1000000000) : spec_l1Own.f l = some l := by
  unfold spec_l1Own.f
  rw [Option.bind_some, if_pos (by simp; omega), List.nil_append]
theorem LayTile_same (l : List Int) (a b : Int) (front : Bool) (hl : l.length ≤ 1048576) : ∃ r, Ev (fun k => spec_LayTile.f k l a b front) r ∧ Ev (fun k => impl_LayTile.f k l a b front) r ∧ r.1.length ≤ 1048576 := by
  have h1 := haGood_ev l (by omega)
  have h2 := IsChain_ev l (by omega)
  have sbad : Ev (fun k => spec_LayTile.j0 k l front true a b) ([], false) := ⟨1, fun k hk => by obtain ⟨k, rfl⟩ : ∃ m, k = m + 1 := ⟨k - 1, by omega⟩; simp only [spec_LayTile.j0, ↓reduceIte]⟩
  have ibad : Ev (fun k => impl_LayTile.j0 k l front true a b) ([], false) := ⟨1, fun k hk => by obtain ⟨k, rfl⟩ : ∃ m, k = m + 1 := ⟨k - 1, by omega⟩; simp only [impl_LayTile.j0, ↓reduceIte]⟩
  cases hc : chainB l with
  | false =>
    rw [hc] at h1 h2
    exact ⟨([], false), Ev.bind h1 (Ev.congr (fun k => by rw [if_neg (by decide)]) sbad), Ev.bind h2 (Ev.congr (fun k => by rw [if_neg (by decide)]) ibad), by simp⟩
  | true =>
    rw [hc] at h1 h2
    obtain ⟨t, ht0, ht1⟩ : ∃ t : S60, t.f0 = a ∧ t.f1 = b := ⟨⟨a, b⟩, rfl, rfl⟩
    subst ht0 ht1
    have g1 := tiGood_some t
    have g2 := goodT_f t
    cases hg : goodT t with
    | false =>
      rw [hg] at g1 g2
      exact ⟨([], false), Ev.bind h1 (Ev.congr (fun k => by rw [if_pos rfl, g1, Option.bind_some]; rfl) sbad), Ev.bind h2 (Ev.congr (fun k => by rw [if_pos rfl, g2, Option.bind_some, if_neg (by decide)]) ibad), by simp⟩
    | true =>
      rw [hg] at g1 g2
      have hn := chainB_len hc
      have hi := chainB_in hc
      obtain ⟨w1, w2⟩ := rd_last l hn.1 (by omega)
      have he : impl_ends.f l = some (l[0], l[l.length - 1]) := by
        unfold impl_ends.f
        rw [w1, if_pos (by omega), if_pos (by omega), if_pos (by omega), rd_zero l hn.1, w2]
      have hct := contains_ev (tilesT l) t (by rw [tilesT_length]; omega)
      have htl := tilesOf_ev l (by omega)
      -- what the program does behind its tests
      have istep : ∀ r, Ev (fun k => impl_LayTile.j0 k l front (decide (t ∈ tilesT l)) t.f0 t.f1) r → Ev (fun k => impl_LayTile.f k l t.f0 t.f1 front) r := fun r hr =>
        Ev.bind h2 (Ev.congr (fun k => by rw [if_pos rfl, g2, Option.bind_some, if_pos rfl]) (Ev.bind htl (Ev.bind hct hr)))
      have sstep : ∀ r, Ev (fun k => spec_LayTile.j0 k l front false t.f0 t.f1) r → Ev (fun k => spec_LayTile.f k l t.f0 t.f1 front) r := fun r hr =>
        Ev.bind h1 (Ev.congr (fun k => by rw [if_pos rfl, g1, Option.bind_some]; rfl) hr)
      have j2no : ∀ x9, Ev (fun k => impl_LayTile.j2 k l x9 false t.f0 t.f1) ([], false) := fun x9 => ⟨1, fun k hk => by obtain ⟨k, rfl⟩ : ∃ m, k = m + 1 := ⟨k - 1, by omega⟩; simp only [impl_LayTile.j2, Bool.false_eq_true, ↓reduceIte]⟩
      cases front with
      | true =>
        have sj : ∀ r o, spec_haOther.f t.f0 t.f1 l[0] = some o → Ev (fun k => (spec_haGood.f k (o :: l)).bind fun t => if t = true then some (o :: l, true) else some ([], false)) r → Ev (fun k => spec_LayTile.j0 k l true false t.f0 t.f1) r := fun r o ho hr => by
          refine Ev.step (fun k => ?_) hr
          simp only [spec_LayTile.j0, Option.bind_some, Bool.false_eq_true, ↓reduceIte]
          rw [if_pos (by omega), rd_zero l hn.1, ho, Option.bind_some, if_pos (by simp; omega)]
          rfl
        rcases other_cases t hg l[0] (hi _ (List.getElem_mem _)) with ⟨hh, o, o0, o9, ho, hoi, hm1, hm2⟩ | ⟨hh, ho⟩
        · have hb := chainB_cons hc o ⟨o0, o9⟩ t hm2
          have hgo := haGood_ev (o :: l) (by simp; omega)
          rw [hb] at hgo
          by_cases hin : t ∈ tilesT l
          · rw [decide_eq_true hin] at hgo istep
            exact ⟨([], false), sstep _ (sj _ o ho (Ev.bind hgo (ev_const fun k => by rw [if_neg (by decide)]))), istep _ ibad, by simp⟩
          · rw [decide_eq_false hin] at hgo istep
            refine ⟨(o :: l, true), sstep _ (sj _ o ho (Ev.bind hgo (ev_const fun k => by rw [if_pos (by decide)]))), istep _ ?_, by simp; omega⟩
            have hj1 : Ev (fun k => impl_LayTile.j1 k l true l[0] l[l.length - 1] true t.f0 t.f1) (o :: l, true) := by
              refine Ev.step (fun k => ?_) (Ev.bind (f := fun _ x => some (x, true)) (concat2_ev [o] l (by simp; omega)) (Ev.now _))
              simp only [impl_LayTile.j1, Bool.false_eq_true, ↓reduceIte]
              rw [hoi, Option.bind_some]
            refine Ev.step (fun k => ?_) hj1
            simp only [impl_LayTile.j0, Bool.false_eq_true, ↓reduceIte]
            rw [he, Option.bind_some, has_some, hh, Option.bind_some]
        · have hgo := haGood_ev ((-1) :: l) (by simp; omega)
          rw [chainB_bad (-1) (by simp) (by omega)] at hgo
          refine ⟨([], false), sstep _ (sj _ (-1) ho (Ev.bind hgo (ev_const fun k => by rw [if_neg (by decide)]))), istep _ ?_, by simp⟩
          by_cases hin : t ∈ tilesT l
          · rw [decide_eq_true hin]; exact ibad
          · rw [decide_eq_false hin]
            have hj1 : Ev (fun k => impl_LayTile.j1 k l true l[0] l[l.length - 1] false t.f0 t.f1) ([], false) := by
              refine Ev.step (fun k => ?_) (j2no l[l.length - 1])
              simp only [impl_LayTile.j1, Bool.false_eq_true, ↓reduceIte]
            refine Ev.step (fun k => ?_) hj1
            simp only [impl_LayTile.j0, Bool.false_eq_true, ↓reduceIte]
            rw [he, Option.bind_some, has_some, hh, Option.bind_some]
      | false =>
        have sj : ∀ r o, spec_haOther.f t.f0 t.f1 l[l.length - 1] = some o → Ev (fun k => (spec_haGood.f k (l ++ [o])).bind fun t => if t = true then some (l ++ [o], true) else some ([], false)) r → Ev (fun k => spec_LayTile.j0 k l false false t.f0 t.f1) r := fun r o ho hr => by
          refine Ev.step (fun k => ?_) hr
          simp only [spec_LayTile.j0, Option.bind_some, Bool.false_eq_true, ↓reduceIte]
          rw [l1Own_some' l (by omega), Option.bind_some, w1, if_pos (by omega), if_pos (by omega), w2, ho, Option.bind_some, if_pos (by omega)]
        have ij : ∀ (hn : (decide (t.f0 = l[l.length - 1]) || decide (t.f1 = l[l.length - 1])) = true → True) r x, (decide (t.f0 = l[l.length - 1]) || decide (t.f1 = l[l.length - 1])) = x → Ev (fun k => impl_LayTile.j2 k l l[l.length - 1] x t.f0 t.f1) r → Ev (fun k => impl_LayTile.j0 k l false false t.f0 t.f1) r := fun _ r x hx hr => by
          have hj1 : Ev (fun k => impl_LayTile.j1 k l false l[0] l[l.length - 1] false t.f0 t.f1) r := by
            refine Ev.step (fun k => ?_) hr
            simp only [impl_LayTile.j1, Bool.false_eq_true, ↓reduceIte]
            rw [has_some, hx, Option.bind_some]
          refine Ev.step (fun k => ?_) hj1
          simp only [impl_LayTile.j0, Bool.false_eq_true, ↓reduceIte]
          rw [he, Option.bind_some]
        rcases other_cases t hg l[l.length - 1] (hi _ (List.getElem_mem _)) with ⟨hh, o, o0, o9, ho, hoi, hm1, hm2⟩ | ⟨hh, ho⟩
        · have hb := chainB_snoc hc o ⟨o0, o9⟩ t hm1
          have hgo := haGood_ev (l ++ [o]) (by simp; omega)
          rw [hb] at hgo
          by_cases hin : t ∈ tilesT l
          · rw [decide_eq_true hin] at hgo istep
            exact ⟨([], false), sstep _ (sj _ o ho (Ev.bind hgo (ev_const fun k => by rw [if_neg (by decide)]))), istep _ ibad, by simp⟩
          · rw [decide_eq_false hin] at hgo istep
            refine ⟨(l ++ [o], true), sstep _ (sj _ o ho (Ev.bind hgo (ev_const fun k => by rw [if_pos (by decide)]))), istep _ (ij (fun _ => trivial) _ true hh ?_), by simp; omega⟩
            refine Ev.step (fun k => ?_) (Ev.bind (f := fun _ x => some (x, true)) (concat2_ev l [o] (by simp; omega)) (Ev.now _))
            simp only [impl_LayTile.j2, Bool.false_eq_true, ↓reduceIte]
            rw [hoi, Option.bind_some]
        · have hgo := haGood_ev (l ++ [-1]) (by simp; omega)
          rw [chainB_bad (-1) (by simp) (by omega)] at hgo
          refine ⟨([], false), sstep _ (sj _ (-1) ho (Ev.bind hgo (ev_const fun k => by rw [if_neg (by decide)]))), istep _ ?_, by simp⟩
          by_cases hin : t ∈ tilesT l
          · rw [decide_eq_true hin]; exact ibad
          · rw [decide_eq_false hin]; exact ij (fun _ => trivial) _ false hh (j2no _)

end Go.Proofs.Ytgcfddomnohajaa.Q
