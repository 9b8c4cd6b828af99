/- Plain lists and numbers: what the program's functions and the reference's compute. -/
import Derived.Test.YtcomlipkmcphfaaP0
import Derived.Test.YtcomlipkmcphfaaPIb
import Derived.Test.YtcomlipkmcphfaaPIf
import Derived.Test.YtcomlipkmcphfaaPIw
import Derived.Test.YtcomlipkmcphfaaPSa
import Derived.Test.YtcomlipkmcphfaaPSb
import Derived.Test.YtcomlipkmcphfaaPSc
import Derived.Test.YtcomlipkmcphfaaPSk
import Derived.Test.YtcomlipkmcphfaaPSl
import Derived.Test.YtcomlipkmcphfaaQBaseF
import Derived.Test.YtcomlipkmcphfaaQBaseG
import Derived.Test.YtcomlipkmcphfaaQBaseH
import Derived.Test.YtcomlipkmcphfaaQFleury
namespace Go.Proofs.Ytcomlipkmcphfaa.Q
open Go.RowKit Go.Proofs.Ytcomlipkmcphfaa.P Go.Proofs.YtcomlipkmcphfaaW.PrintWords Go.Proofs.YtcomlipkmcphfaaW.PrintLast Go.Proofs.YtcomlipkmcphfaaW.PrintMore
set_option linter.unusedVariables false
set_option linter.unusedSimpArgs false

theorem first_of (P : Int → Prop) : ∀ (d : Nat) (m : Int), 0 ≤ m → m ≤ d → P m → ∃ q, 0 ≤ q ∧ q ≤ m ∧ P q ∧ ∀ j, 0 ≤ j → j < q → ¬ P j := by
  intro d
  induction d with
  | zero => intro m h0 h1 hp; exact ⟨m, h0, Int.le_refl _, hp, fun j a b => by omega⟩
  | succ d ih =>
    intro m h0 h1 hp
    by_cases c : ∃ j, 0 ≤ j ∧ j < m ∧ P j
    · obtain ⟨j, j0, j1, hj⟩ := c
      obtain ⟨q, a, b, c, e⟩ := ih j j0 (by omega) hj
      exact ⟨q, a, by omega, c, e⟩
    · exact ⟨m, h0, Int.le_refl _, hp, fun j a b hj => c ⟨j, a, b, hj⟩⟩
/-- The chain can go on with m. -/
def Goes (h : List S41) (n m : Int) : Prop := mkT n m ∈ h ∧ From (h.erase (mkT n m)) m
def FirstGo (h : List S41) (n m : Int) : Prop := (0 ≤ m ∧ m ≤ 9) ∧ Goes h n m ∧ ∀ j, 0 ≤ j → j < m → ¬ Goes h n j
/-- The first whole chain of tiles from a number on. -/
inductive Walks : List S41 → Int → List Int → Prop
  | nil (n : Int) : Walks [] n []
  | cons {h : List S41} {n m : Int} {r : List Int} (hne : h ≠ []) (hf : FirstGo h n m) (hw : Walks (h.erase (mkT n m)) m r) : Walks h n (m :: r)
theorem walks_exists : ∀ (d : Nat) (h : List S41) (n x : Int), h.length = d → (∀ t ∈ h, goodT t = true) → From h n → Par h n x → ∃ r, Walks h n r ∧ r.length = d ∧ ∀ v ∈ r, 0 ≤ v ∧ v ≤ 9
  | 0, h, n, x, hl, hg, hF, hP => by
    obtain rfl := List.length_eq_zero_iff.1 hl
    exact ⟨[], .nil n, rfl, fun v hv => by cases hv⟩
  | d + 1, h, n, x, hl, hg, hF, hP => by
    have hne : h ≠ [] := by intro e; rw [e] at hl; simp at hl
    obtain ⟨m, m0, m9, hm, hFm⟩ := step_exists hg hF hne hP
    obtain ⟨q, q0, q1, hq, hmin⟩ := first_of (Goes h n) m.toNat m m0 (by omega) ⟨hm, hFm⟩
    obtain ⟨r, hr, hrl, hrv⟩ := walks_exists d (h.erase (mkT n q)) q x (by rw [List.length_erase_of_mem hq.1]; omega) (fun t ht => hg t (List.mem_of_mem_erase ht)) hq.2 (hP.step hq.1)
    refine ⟨q :: r, .cons hne ⟨⟨q0, by omega⟩, hq, hmin⟩ hr, by simp [hrl], fun v hv => ?_⟩
    rcases List.mem_cons.1 hv with e | e
    · subst e; omega
    · exact hrv v e
/-! ### what the program asks: are the tiles that are left one group with the number? -/
theorem grp_mem {l there : List Int} (hl : ∀ n ∈ there, 0 ≤ rd l n ∧ rd l n ≤ 9) {n : Int} (hn : n ∈ there) : ∃ g ∈ groupsN l there, n ∈ g := by
  have hm : n ∈ there.filter fun x => decide (rd l x = rd l n) := List.mem_filter.2 ⟨hn, by simp⟩
  refine ⟨_, List.mem_filter.2 ⟨List.mem_map.2 ⟨rd l n, ?_, rfl⟩, ?_⟩, hm⟩
  · rw [upI_from]
    have := hl n hn
    exact (mem_upFrom 10 0 _).2 (by omega)
  · cases hc : there.filter (fun x => decide (rd l x = rd l n)) with
    | nil => rw [hc] at hm; cases hm
    | cons a b => rfl
theorem grp_sub {l there g : List Int} (h : g ∈ groupsN l there) {n : Int} (hn : n ∈ g) : n ∈ there := by
  obtain ⟨a, _, rfl⟩ := List.mem_map.1 (List.mem_filter.1 h).1
  exact (List.mem_filter.1 hn).1
theorem from_one {h : List S41} (hne : h ≠ []) (m : Int) : From h m ↔ OneC h ∧ InT h m := by
  unfold From
  constructor
  · intro H
    obtain ⟨h1, h2⟩ := H.resolve_left hne
    exact ⟨fun t ht u hu => (h2 t ht).symm.trans (h2 u hu), h1⟩
  · rintro ⟨h1, h2⟩
    refine .inr ⟨h2, fun t ht => ?_⟩
    obtain ⟨u, hu, e⟩ := h2
    have c : Conn h m u.f0 := by
      rcases e with e | e
      · rw [← e]; exact .refl _
      · rw [← e]; exact .bwd u (.refl _) hu
    exact c.trans (h1 u hu t ht)
theorem groups_from {h : List S41} (hg : ∀ t ∈ h, goodT t = true) (hne : h ≠ []) (m : Int) : ((groupsN (roundsN h h.length (upI 0 10)) (numsT h)).length = 1 ∧ m ∈ (groupsN (roundsN h h.length (upI 0 10)) (numsT h)).getD 0 []) ↔ From h m := by
  have hup : upI 0 10 = [0, 1, 2, 3, 4, 5, 6, 7, 8, 9] := rfl
  have hnum : ∀ n ∈ numsT h, 0 ≤ n ∧ n ≤ 9 := by
    intro n hn
    unfold numsT at hn
    have := (mem_upFrom 10 0 n).1 (List.mem_filter.1 hn).1
    omega
  have hlab : ∀ n ∈ numsT h, 0 ≤ rd (roundsN h h.length (upI 0 10)) n ∧ rd (roundsN h h.length (upI 0 10)) n ≤ 9 := by
    intro n hn
    have h1 := hnum n hn
    have : IsLeast h n (rd (roundsN h h.length (upI 0 10)) n) := by
      rw [roundsN_L, hup]
      exact groups_least hg n h1.1 h1.2
    have h2 := conn_dom hg this.1 h1
    exact h2
  have hone := groups_one hg
  rw [from_one hne, ← hone]
  have hin : InT h m ↔ m ∈ numsT h := (mem_numsT hg m).symm
  obtain ⟨t, ht⟩ := List.exists_mem_of_ne_nil _ hne
  obtain ⟨g0, hg0, _⟩ := grp_mem hlab ((mem_numsT hg t.f0).2 ⟨t, ht, .inl rfl⟩)
  have hpos : 0 < (groupsN (roundsN h h.length (upI 0 10)) (numsT h)).length := List.length_pos_of_mem hg0
  have hmem := fun {n : Int} (hn : n ∈ numsT h) => grp_mem hlab hn
  have hsub := fun {g : List Int} (hg : g ∈ groupsN (roundsN h h.length (upI 0 10)) (numsT h)) {n : Int} (hn : n ∈ g) => grp_sub hg hn
  generalize groupsN (roundsN h h.length (upI 0 10)) (numsT h) = gs at hpos hmem hsub ⊢
  rw [hin]
  constructor
  · rintro ⟨h1, h2⟩
    match gs, h1 with
    | [g], _ => exact ⟨by simp, hsub List.mem_cons_self h2⟩
  · rintro ⟨h1, h2⟩
    have h3 : gs.length = 1 := by omega
    match gs, h3 with
    | [g], _ =>
      obtain ⟨g', hg', hm'⟩ := hmem h2
      rw [List.mem_singleton.1 hg'] at hm'
      exact ⟨rfl, hm'⟩
theorem fwTile_mk (a b : Int) : fwTile a b = mkT a b := by
  unfold fwTile mkT mn mx
  by_cases h : a < b
  · rw [if_neg (by omega), if_pos h, if_pos h]
  · rw [if_neg h, if_neg h]
    by_cases h2 : b < a
    · rw [if_pos h2]
    · obtain rfl : a = b := by omega
      rw [if_neg h2]
theorem fwScan_ev {left : List S41} (hg : ∀ t ∈ left, goodT t = true) (h55 : left.length ≤ 55) {last m : Int} (hf : FirstGo left last m) : ∀ d n : Nat, n + d = 10 → (n : Int) ≤ m → Ev (fun k => fwScan (impl_groups.f k) left last d n) (some (m, left.erase (mkT last m))) := by
  obtain ⟨h9, hgo, hmin⟩ := hf
  intro d
  induction d with
  | zero => intro n h1 h2; omega
  | succ d ih =>
    intro n h1 h2
    have hge : ∀ j : Int, ∀ t ∈ left.erase (mkT last j), goodT t = true := fun j t ht => hg t (List.mem_of_mem_erase ht)
    have hle : ∀ j : Int, (left.erase (mkT last j)).length ≤ 55 := fun j => Nat.le_trans List.length_erase_le h55
    by_cases e : (n : Int) = m
    · subst e
      refine Ev.congr (f := fun k => (impl_groups.f k (left.erase (mkT last n))).bind fun g => if left.erase (mkT last n) = [] ∨ (g.length = 1 ∧ (n : Int) ∈ g.getD 0 []) then some (some ((n : Int), left.erase (mkT last n))) else fwScan (impl_groups.f k) left last d (n + 1)) (fun k => ?_) (Ev.bind (groups_ev (hge n) (hle n)) (ev_const fun k => ?_))
      · simp only [fwScan, fwTile_mk]; rw [if_pos hgo.1]
      · rw [if_pos]
        by_cases hr : left.erase (mkT last n) = []
        · exact .inl hr
        · exact .inr ((groups_from (hge n) hr n).2 hgo.2)
    · have hno := hmin n (by omega) (by omega)
      have ih' := ih (n + 1) (by omega) (by omega)
      by_cases hm : mkT last n ∈ left
      · have hnf : ¬ From (left.erase (mkT last n)) n := fun c => hno ⟨hm, c⟩
        refine Ev.congr (f := fun k => (impl_groups.f k (left.erase (mkT last n))).bind fun g => if left.erase (mkT last n) = [] ∨ (g.length = 1 ∧ (n : Int) ∈ g.getD 0 []) then some (some ((n : Int), left.erase (mkT last n))) else fwScan (impl_groups.f k) left last d (n + 1)) (fun k => ?_) (Ev.bind (groups_ev (hge n) (hle n)) (Ev.congr (fun k => ?_) ih'))
        · simp only [fwScan, fwTile_mk]; rw [if_pos hm]
        · rw [if_neg]
          rintro (c | c)
          · exact hnf (.inl c)
          · by_cases hr : left.erase (mkT last n) = []
            · exact hnf (.inl hr)
            · exact hnf ((groups_from (hge n) hr n).1 c)
      · refine Ev.congr (fun k => ?_) ih'
        simp only [fwScan, fwTile_mk]; rw [if_neg hm]
theorem fwLoop_ev {left : List S41} {n : Int} {r : List Int} (hw : Walks left n r) : ∀ out : List Int, out.getLast?.getD 0 = n → (∀ t ∈ left, goodT t = true) → left.length ≤ 55 → ∃ K, ∀ k, K ≤ k → ∀ f, left.length + 1 ≤ f → fwLoop (impl_groups.f k) f left out = some (out ++ r) := by
  induction hw with
  | nil n =>
    intro out ho hg h55
    refine ⟨0, fun k _ f hf => ?_⟩
    obtain ⟨f, rfl⟩ : ∃ m, f = m + 1 := ⟨f - 1, by omega⟩
    unfold fwLoop
    rw [if_pos rfl, List.append_nil]
  | @cons h n m r hne hf hw ih =>
    intro out ho hg h55
    obtain ⟨K1, hK1⟩ := fwScan_ev hg h55 hf 10 0 rfl (by have := hf.1; omega)
    obtain ⟨K2, hK2⟩ := ih (out ++ [m]) (by simp) (fun t ht => hg t (List.mem_of_mem_erase ht)) (Nat.le_trans List.length_erase_le h55)
    refine ⟨K1 + K2, fun k hk f hf' => ?_⟩
    obtain ⟨f, rfl⟩ : ∃ m, f = m + 1 := ⟨f - 1, by omega⟩
    have e1 : fwScan (impl_groups.f k) h n 10 0 = some (some (m, h.erase (mkT n m))) := hK1 k (by omega)
    unfold fwLoop
    rw [if_neg hne, ho, e1, Option.bind_some]
    simp only
    rw [hK2 k (by omega) f (by rw [List.length_erase_of_mem hf.2.1.1]; have := List.length_pos_iff.2 hne; omega), List.append_assoc]
    rfl
/-! ### the same tiles in another order -/
def Same (a b : List S41) : Prop := a.Nodup ∧ b.Nodup ∧ ∀ t, t ∈ a ↔ t ∈ b
theorem Same.perm {a b : List S41} (h : Same a b) : a.Perm b := (List.perm_ext_iff_of_nodup h.1 h.2.1).2 h.2.2
theorem timesT_perm {a b : List S41} (h : a.Perm b) (v : Int) : timesT a v = timesT b v := by
  induction h with
  | nil => rfl
  | cons x _ ih => simp only [timesT]; omega
  | swap x y l => simp only [timesT]; omega
  | trans _ _ ih1 ih2 => omega
theorem Same.odd {a b : List S41} (h : Same a b) : oddT a = oddT b := by
  unfold oddT
  apply List.filter_congr
  intro n _
  rw [timesT_perm h.perm]
theorem Same.nil {a b : List S41} (h : Same a b) : a = [] ↔ b = [] := by
  have := h.perm.length_eq
  rw [← List.length_eq_zero_iff, ← List.length_eq_zero_iff, this]
theorem Same.from_ {a b : List S41} (h : Same a b) (n : Int) : From a n ↔ From b n := by
  have one : ∀ {a b : List S41}, Same a b → From a n → From b n := by
    intro a b h hf
    rcases hf with e | ⟨⟨t, ht, e⟩, h2⟩
    · exact .inl (h.nil.1 e)
    · exact .inr ⟨⟨t, (h.2.2 t).1 ht, e⟩, fun u hu => (h2 u ((h.2.2 u).2 hu)).congr fun x hx => (h.2.2 x).1 hx⟩
  exact ⟨one h, one ⟨h.2.1, h.1, fun t => (h.2.2 t).symm⟩⟩
theorem Same.good {a b : List S41} (h : Same a b) (hg : ∀ t ∈ a, goodT t = true) : ∀ t ∈ b, goodT t = true := fun t ht => hg t ((h.2.2 t).2 ht)
/-- What the reference leaves of a hand without a tile. -/
def withoutT (h : List S41) (t : S41) : List S41 := (sortN h).filter fun x => decide (x ∈ [t]) == false
theorem Same.without {a b : List S41} (h : Same a b) (hg : ∀ t ∈ a, goodT t = true) (t : S41) : Same (a.erase t) (withoutT b t) := by
  refine ⟨h.1.erase t, (sortN_nodup b).filter _, fun x => ?_⟩
  unfold withoutT
  rw [h.1.mem_erase_iff, List.mem_filter, mem_sortN (h.good hg), h.2.2 x]
  simp
  exact ⟨fun c => ⟨c.2, c.1⟩, fun c => ⟨c.2, c.1⟩⟩
theorem whWithout_ev (h : List S41) (a b : Int) (hl : h.length ≤ 1000000000) : Ev (fun k => spec_whWithout.f k h a b) (withoutT h (mkT a b)) := by
  refine Ev.congr (f := fun k => (spec_tiThose.f k h [mkT a b] false).bind fun t => some t) (fun k => ?_) (Ev.bind (tiThose_ev h [mkT a b] false hl (by simp)) (Ev.now _))
  unfold spec_whWithout.f
  rw [tiOf_some, Option.bind_some]
def Odd2 (h : List S41) (n : Int) : Prop := (oddT h).length = 0 ∨ ((oddT h).length = 2 ∧ n ∈ oddT h)
theorem sortN_len {h : List S41} (hg : ∀ t ∈ h, goodT t = true) (hn : h.Nodup) : (sortN h).length = h.length := by
  rw [← mergeSort_eq hg hn, List.length_mergeSort]
theorem whFrom_ev {h : List S41} (hg : ∀ t ∈ h, goodT t = true) (hn : h.Nodup) (hl : h.length ≤ 55) {n : Int} (h09 : 0 ≤ n ∧ n ≤ 9) : ∃ b : Bool, (b = true ↔ h = [] ∨ (From h n ∧ Odd2 h n)) ∧ Ev (fun k => spec_whFrom.f k h n) b := by
  by_cases hz : h = []
  · refine ⟨true, ⟨fun _ => .inl hz, fun _ => rfl⟩, ev_const fun k => ?_⟩
    unfold spec_whFrom.f
    rw [if_pos (by rw [hz]; rfl)]
  have hlen : ¬ (h.length : Int) = 0 := by have := List.length_pos_iff.2 hz; omega
  obtain ⟨R, hR, ep⟩ := whPart_ev hg (by omega) h09
  have eo := whOdd_ev h (by omega)
  have ol := oddT_len h
  have hfrom : ((((sortN h).filter fun t => decide (t.f0 ∈ R)).length : Int) = (h.length : Int)) ↔ From h n := by
    rw [show ((((sortN h).filter fun t => decide (t.f0 ∈ R)).length : Int) = (h.length : Int)) ↔ ((sortN h).filter fun t => decide (t.f0 ∈ R)).length = (sortN h).length by rw [sortN_len hg hn]; omega, List.length_filter_eq_length_iff]
    constructor
    · intro H
      have hall : ∀ t ∈ h, Conn h n t.f0 := fun t ht => (hR _).1 (by simpa using H t ((mem_sortN hg t).2 ht))
      obtain ⟨t, ht⟩ := List.exists_mem_of_ne_nil _ hz
      refine .inr ⟨?_, hall⟩
      rcases conn_nums (hall t ht) with e | e
      · exact ⟨t, ht, .inl e.symm⟩
      · exact e
    · intro H t ht
      simpa using (hR _).2 ((H.resolve_left hz).2 t ((mem_sortN hg t).1 ht))
  refine ⟨decide ((((sortN h).filter fun t => decide (t.f0 ∈ R)).length : Int) = (h.length : Int)) && (decide ((oddT h).length = 0) || (decide ((oddT h).length = 2) && decide (n ∈ oddT h))), ?_, ?_⟩
  · rw [Bool.and_eq_true, decide_eq_true_eq, hfrom, Bool.or_eq_true, decide_eq_true_eq, Bool.and_eq_true, decide_eq_true_eq, decide_eq_true_eq]
    exact ⟨fun c => .inr c, fun c => c.resolve_left hz⟩
  · refine Ev.congr (f := fun k => (spec_whOdd.f k h).bind fun o => (spec_whPart.f k h n).bind fun p => if (p.length : Int) = (h.length : Int) then (if (o.length : Int) = 0 then some true else if (o.length : Int) = 2 then (spec_l1Has.f k o n).bind fun t => some t else some false) else some false) (fun k => by unfold spec_whFrom.f; rw [if_neg hlen]) (Ev.bind eo (Ev.bind ep ?_))
    by_cases c : ((((sortN h).filter fun t => decide (t.f0 ∈ R)).length : Int) = (h.length : Int))
    · simp only [c, decide_true, Bool.true_and, if_true]
      by_cases c0 : (oddT h).length = 0
      · exact ev_const fun k => by rw [if_pos (by omega), decide_eq_true c0]; rfl
      · by_cases c2 : (oddT h).length = 2
        · refine Ev.congr (f := fun k => (spec_l1Has.f k (oddT h) n).bind fun t => some t) (fun k => by rw [if_neg (by omega), if_pos (by omega)]) ?_
          rw [decide_eq_false c0, decide_eq_true c2, Bool.false_or, Bool.true_and]
          exact Ev.bind (hasI_ev (oddT h) n (by omega)) (Ev.now _)
        · exact ev_const fun k => by rw [if_neg (by omega), if_neg (by omega), decide_eq_false c0, decide_eq_false c2]; rfl
    · refine ev_const fun k => ?_
      rw [if_neg c, decide_eq_false c]; rfl
theorem times_out {h : List S41} (hg : ∀ t ∈ h, goodT t = true) {v : Int} (hv : ¬ (0 ≤ v ∧ v ≤ 9)) : timesT h v = 0 := by
  have hb := timesT_bd h v
  by_cases c : timesT h v > 0
  · obtain ⟨t, ht, e⟩ := (times_pos h v).1 c
    have g := (goodT_iff t).1 (hg t ht)
    omega
  · omega
theorem mem_oddT (h : List S41) (v : Int) : v ∈ oddT h ↔ (0 ≤ v ∧ v ≤ 9) ∧ timesT h v % 2 = 1 := by
  unfold oddT
  rw [List.mem_filter, mem_upFrom, decide_eq_true_eq]
  constructor
  · rintro ⟨a, b⟩; exact ⟨by omega, b⟩
  · rintro ⟨a, b⟩; exact ⟨by omega, b⟩
theorem oddT_nodup (h : List S41) : (oddT h).Nodup := (upFrom_nodup 10 0).filter _
theorem par_odd {h : List S41} {n x : Int} (hP : Par h n x) (hn : 0 ≤ n ∧ n ≤ 9) (hx : 0 ≤ x ∧ x ≤ 9) : Odd2 h n := by
  have hnd := oddT_nodup h
  by_cases e : n = x
  · subst e
    left
    cases hc : oddT h with
    | nil => rfl
    | cons a l =>
      have : a ∈ oddT h := by rw [hc]; exact List.mem_cons_self
      have h1 := ((mem_oddT h a).1 this).2
      have h2 := hP a
      split at h2 <;> omega
  · right
    have mn_ : n ∈ oddT h := (mem_oddT h n).2 ⟨hn, by have := hP n; rw [if_pos rfl, if_neg (fun c => e c.symm)] at this; omega⟩
    have mx_ : x ∈ oddT h := (mem_oddT h x).2 ⟨hx, by have := hP x; rw [if_neg e, if_pos rfl] at this; omega⟩
    have hsub : ∀ v ∈ oddT h, v ∈ [n, x] := by
      intro v hv
      have h1 := ((mem_oddT h v).1 hv).2
      have h2 := hP v
      by_cases c1 : n = v
      · simp [c1]
      · by_cases c2 : x = v
        · simp [c2]
        · rw [if_neg c1, if_neg c2] at h2; omega
    have l1 := nodup_leI _ _ hnd hsub
    have l2 := nodup_leI [n, x] (oddT h) (by simp [e]) (fun v hv => by
      rcases List.mem_cons.1 hv with c | c
      · rw [c]; exact mn_
      · rw [List.mem_singleton.1 c]; exact mx_)
    exact ⟨by simp at l1 l2; omega, mn_⟩
theorem same_odd2 {a b : List S41} (h : Same a b) {n : Int} : Odd2 a n ↔ Odd2 b n := by unfold Odd2; rw [h.odd]
theorem walk_ev {left : List S41} {n : Int} {r : List Int} (hw : Walks left n r) : ∀ (h : List S41) (x : Int) (out : List Int), Same left h → (∀ t ∈ left, goodT t = true) → left.length ≤ 55 → Par left n x → (0 ≤ n ∧ n ≤ 9) → (0 ≤ x ∧ x ≤ 9) → out.length + left.length ≤ 1000 → Ev (fun k => spec_whWalk.l0 k h n out) (out ++ r) := by
  induction hw with
  | nil n =>
    intro h x out hs hg h55 hP hn hx ho
    obtain rfl := (hs.nil).1 rfl
    refine Ev.step (f := fun _ => some out) (fun k => ?_) (by rw [List.append_nil]; exact Ev.now _)
    simp only [spec_whWalk.l0]
    rw [if_neg (by simp)]
  | @cons left n m r hne hf hw ih =>
    intro h x out hs hg h55 hP hn hx ho
    obtain ⟨h9, hgo, hmin⟩ := hf
    have hgh := hs.good hg
    have hlen : left.length = h.length := hs.perm.length_eq
    have hpos : 0 < left.length := List.length_pos_iff.2 hne
    have hsj : ∀ j : Int, Same (left.erase (mkT n j)) (withoutT h (mkT n j)) := fun j => hs.without hg _
    have hgj : ∀ j : Int, ∀ t ∈ left.erase (mkT n j), goodT t = true := fun j t ht => hg t (List.mem_of_mem_erase ht)
    have hlj : ∀ j : Int, (withoutT h (mkT n j)).length ≤ 55 := fun j => by
      rw [← (hsj j).perm.length_eq]
      exact Nat.le_trans List.length_erase_le h55
    have hrec : Ev (fun k => spec_whWalk.l0 k (withoutT h (mkT n m)) m (out ++ [m])) (out ++ m :: r) := by
      have := ih (withoutT h (mkT n m)) x (out ++ [m]) (hsj m) (hgj m) (Nat.le_trans List.length_erase_le h55) (hP.step hgo.1) h9 hx (by rw [List.length_append, List.length_singleton, List.length_erase_of_mem hgo.1]; omega)
      rwa [List.append_assoc] at this
    have hin : ∀ (d : Nat) (j : Nat), (j : Int) + d = m → Ev (fun k => spec_whWalk.l1 k h n out (j : Int)) (out ++ m :: r) := by
      intro d
      induction d with
      | zero =>
        intro j hj
        obtain rfl : (j : Int) = m := by omega
        have hp := tiPlace_ev h (mkT n j) (by omega)
        have hpn : ¬ placeT h (mkT n j) < 0 := by have := (placeT_nonneg h (mkT n j)).2 ((hs.2.2 _).1 hgo.1); omega
        obtain ⟨b, hb, eb⟩ := whFrom_ev ((hsj j).good (hgj j)) (hsj j).2.1 (hlj j) h9
        have hbt : b = true := hb.2 (.inr ⟨((hsj j).from_ j).1 hgo.2, (same_odd2 (hsj j)).1 (par_odd (hP.step hgo.1) h9 hx)⟩)
        subst hbt
        have hwo := whWithout_ev h n j (by omega)
        refine Ev.step (f := fun k => (spec_tiPlace.f k h (mkT n j).f0 (mkT n j).f1).bind fun t => if t < 0 then spec_whWalk.l1 k h n out ((j + 1 : Nat) : Int) else (spec_whWithout.f k h n j).bind fun t192 => (spec_whFrom.f k t192 j).bind fun t195 => if t195 = true then (spec_whWithout.f k h n j).bind fun t196 => (if out.length < 17592186044416 then spec_whWalk.l0 k t196 j (out ++ [(j : Int)]) else none) else spec_whWalk.l1 k h n out ((j + 1 : Nat) : Int)) (fun k => ?_) (Ev.bind hp ?_)
        · simp only [spec_whWalk.l1]
          rw [if_pos (by omega), tiOf_some, Option.bind_some, wrap_succ (by omega)]
        · simp only [hpn, if_false]
          refine Ev.bind hwo (Ev.bind eb ?_)
          simp only [if_true]
          refine Ev.bind hwo (Ev.congr (fun k => ?_) hrec)
          rw [if_pos (by omega)]
      | succ d ihd =>
        intro j hj
        have hno := hmin j (by omega) (by omega)
        have ih' := ihd (j + 1) (by omega)
        have hp := tiPlace_ev h (mkT n j) (by omega)
        refine Ev.step (f := fun k => (spec_tiPlace.f k h (mkT n j).f0 (mkT n j).f1).bind fun t => if t < 0 then spec_whWalk.l1 k h n out ((j + 1 : Nat) : Int) else (spec_whWithout.f k h n j).bind fun t192 => (spec_whFrom.f k t192 j).bind fun t195 => if t195 = true then (spec_whWithout.f k h n j).bind fun t196 => (if out.length < 17592186044416 then spec_whWalk.l0 k t196 j (out ++ [(j : Int)]) else none) else spec_whWalk.l1 k h n out ((j + 1 : Nat) : Int)) (fun k => ?_) (Ev.bind hp ?_)
        · simp only [spec_whWalk.l1]
          rw [if_pos (by omega), tiOf_some, Option.bind_some, wrap_succ (by omega)]
        · by_cases hm : mkT n j ∈ left
          · have hpn : ¬ placeT h (mkT n j) < 0 := by have := (placeT_nonneg h (mkT n j)).2 ((hs.2.2 _).1 hm); omega
            have hnf : ¬ From (left.erase (mkT n j)) j := fun c => hno ⟨hm, c⟩
            obtain ⟨b, hb, eb⟩ := whFrom_ev ((hsj j).good (hgj j)) (hsj j).2.1 (hlj j) (n := (j : Int)) (by omega)
            have hbf : b = false := by
              cases hc : b with
              | false => rfl
              | true =>
                exfalso
                rcases hb.1 hc with c | c
                · exact hnf (.inl ((hsj j).nil.2 c))
                · exact hnf (((hsj j).from_ j).2 c.1)
            subst hbf
            simp only [hpn, if_false]
            refine Ev.bind (whWithout_ev h n j (by omega)) (Ev.bind eb ?_)
            simp only [Bool.false_eq_true, if_false]
            exact ih'
          · have hpn : placeT h (mkT n j) < 0 := by
              have h1 := mt (placeT_nonneg h (mkT n j)).1 (fun c => hm ((hs.2.2 _).2 c))
              omega
            simp only [hpn, if_true]
            exact ih'
    refine Ev.step (f := fun k => spec_whWalk.l1 k h n out ((0 : Nat) : Int)) (fun k => ?_) (hin m.toNat 0 (by omega))
    simp only [spec_whWalk.l0]
    rw [if_pos (by omega)]
    rfl

end Go.Proofs.Ytcomlipkmcphfaa.Q
