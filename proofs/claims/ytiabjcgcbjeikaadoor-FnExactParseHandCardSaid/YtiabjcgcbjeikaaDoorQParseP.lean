/- Plain lists and numbers: what the program's functions and the reference's compute. -/
import Derived.Test.YtiabjcgcbjeikaaDoorP0
import Derived.Test.YtiabjcgcbjeikaaDoorPFParseHand
import Derived.Test.YtiabjcgcbjeikaaDoorPIb
import Derived.Test.YtiabjcgcbjeikaaDoorPLb
import Derived.Test.YtiabjcgcbjeikaaDoorPSa
import Derived.Test.YtiabjcgcbjeikaaDoorPSg
import Derived.Test.YtiabjcgcbjeikaaDoorQBaseP
import Derived.Test.YtiabjcgcbjeikaaDoorQPieces
namespace Go.Proofs.YtiabjcgcbjeikaaDoor.Q
open Go.RowKit Go.Proofs.YtiabjcgcbjeikaaDoor.P Go.Proofs.YtiabjcgcbjeikaaDoorW.PrintWords Go.Proofs.YtiabjcgcbjeikaaDoorW.PrintLast Go.Proofs.YtiabjcgcbjeikaaDoorW.PrintMore
set_option linter.unusedVariables false
set_option linter.unusedSimpArgs false

theorem heldTileS_loop : ∀ (d : Nat) (pre : List S31) (m : Int), 0 ≤ m → m + 2 * d ≤ 1000000000 → pre.length + d ≤ 1000000000 → Ev (fun k => laws_heldTileS.l0 k (pre ++ marksT m d) m (pre.length : Int)) (m + 2 * d) := by
  intro d
  induction d with
  | zero =>
    intro pre m hm hb hp
    refine ⟨1, fun k hk => ?_⟩
    obtain ⟨k, rfl⟩ : ∃ m, k = m + 1 := ⟨k - 1, by omega⟩
    simp only [laws_heldTileS.l0]
    rw [if_neg (by simp [marksT])]
    simp
  | succ d ih =>
    intro pre m hm hb hp
    have := ih (pre ++ [⟨m, m + 1⟩]) (m + 2) (by omega) (by omega) (by simp; omega)
    have e1 : m + 2 + 2 * (d : Int) = m + 2 * ((d + 1 : Nat) : Int) := by omega
    rw [e1, List.append_assoc] at this
    refine Ev.step (fun k => ?_) this
    have r1 : rd_T31 (pre ++ marksT m (d + 1)) (pre.length : Int) = ⟨m, m + 1⟩ := rdT_nat _ _ _ (by simp [marksT])
    have e2 : wrap64 (m + 1 + 1) = m + 2 := by rw [wrap_eq (by omega) (by omega)]; omega
    simp only [laws_heldTileS.l0]
    rw [if_pos (by simp [marksT]; omega), if_pos (by omega), r1, if_pos rfl, wrap_eq (x := m + 1) (by omega) (by omega), if_pos rfl, wrap_succ (by omega), e2]
    simp [marksT]
theorem heldTileS_ev (n : Nat) (h : n ≤ 1048576) : Ev (fun k => laws_heldTileS.f k (marksT 1 n) 1) (1 + 2 * (n : Int)) := heldTileS_loop n [] 1 (by omega) (by omega) (by simp; omega)
theorem rdOf_nat (xs : List ByteArray) (i : Nat) (x : ByteArray) (h : xs[i]? = some x) : rdOf ByteArray.empty xs (i : Int) = x := by
  unfold rdOf
  rw [Int.toNat_natCast, List.getD_eq_getElem?_getD, h]; rfl
/-- The tile that two signs name. -/
def tileP (p : ByteArray) : S31 := ⟨bt p 0 - 48, bt p 1 - 48⟩
def outP (acc : List S31) (ps : List ByteArray) : List S31 × Bool := if (∀ p ∈ ps, p.size = 2) ∧ handB (acc ++ ps.map tileP) = true then (acc ++ ps.map tileP, true) else ([], false)
theorem outP_cons (acc : List S31) (p : ByteArray) (ps : List ByteArray) (h : p.size = 2) : outP acc (p :: ps) = outP (acc ++ [tileP p]) ps := by
  unfold outP
  have e : acc ++ (p :: ps).map tileP = acc ++ [tileP p] ++ ps.map tileP := by simp
  rw [e]
  by_cases c : (∀ q ∈ ps, q.size = 2) ∧ handB (acc ++ [tileP p] ++ ps.map tileP) = true
  · rw [if_pos c, if_pos ⟨fun q hq => by rcases List.mem_cons.1 hq with e | e; rw [e]; exact h; exact c.1 q e, c.2⟩]
  · rw [if_neg c, if_neg fun d => c ⟨fun q hq => d.1 q (List.mem_cons_of_mem _ hq), d.2⟩]
theorem outP_size (acc : List S31) (p : ByteArray) (ps : List ByteArray) (h : ¬ p.size = 2) : outP acc (p :: ps) = ([], false) := by
  unfold outP
  exact if_neg fun d => h (d.1 p List.mem_cons_self)
theorem outP_bad (acc : List S31) (p : ByteArray) (ps : List ByteArray) (h : ¬ goodT (tileP p) = true) : outP acc (p :: ps) = ([], false) := by
  unfold outP
  exact if_neg fun d => h (handB_good d.2 _ (by simp))
theorem impl_loop (ps : List ByteArray) (hn : ps.length ≤ 1000000000) : ∀ (d i : Nat) (acc : List S31), i + d = ps.length → acc.length ≤ i → Ev (fun k => impl_ParseHand.l0 k acc ps (ps.length : Int) (i : Int)) (outP acc (ps.drop i)) := by
  intro d
  induction d with
  | zero =>
    intro i acc hi ha
    rw [List.drop_of_length_le (by omega)]
    refine Ev.step (f := fun k => (impl_IsHand.f k acc).bind fun t157 => (if t157 = true then (some (acc, true)) else (some (([] : List S31), false)))) (fun k => ?_) (Ev.bind (IsHand_ev acc) (ev_const fun k => ?_))
    · simp only [impl_ParseHand.l0]
      rw [if_neg (by omega)]
    · unfold outP
      cases hb : handB acc <;> simp [hb]
  | succ d ih =>
    intro i acc hi ha
    have hlt : i < ps.length := by omega
    obtain ⟨p, hp⟩ : ∃ p, ps[i]? = some p := ⟨_, List.getElem?_eq_getElem hlt⟩
    have hd : ps.drop i = p :: ps.drop (i + 1) := by
      rw [List.drop_eq_getElem_cons hlt]
      rw [List.getElem?_eq_getElem hlt] at hp
      cases hp; rfl
    rw [hd]
    by_cases c : p.size = 2
    · have := ih (i + 1) (acc ++ [tileP p]) (by omega) (by simp; omega)
      rw [outP_cons acc p _ c]
      refine Ev.step (fun k => ?_) this
      have b0 := bt_range p 0
      have b1 := bt_range p 1
      simp only [impl_ParseHand.l0]
      rw [rdOf_nat ps i p hp, if_pos (by omega), if_pos (by omega), if_pos (by omega), if_pos (by omega), if_pos (by omega), if_pos (by omega), if_pos (by omega), wrap_succ (by omega), wrap_eq (x := bt p 0) (by omega) (by omega), wrap_eq (x := bt p 1) (by omega) (by omega), wrap_eq (x := bt p 0 - 48) (by omega) (by omega), wrap_eq (x := bt p 1 - 48) (by omega) (by omega)]
      rfl
    · rw [outP_size acc p _ c]
      refine Ev.step (f := fun _ => some ([], false)) (fun k => ?_) (Ev.now _)
      simp only [impl_ParseHand.l0]
      rw [rdOf_nat ps i p hp, if_pos (by omega), if_pos (by omega), if_pos (by omega), if_neg (by omega)]
theorem spec_loop (ps : List ByteArray) (hn : ps.length ≤ 1000000000) : ∀ (d i : Nat) (acc : List S31), i + d = ps.length → acc.length ≤ i → Ev (fun k => spec_tiParse.l0 k acc ps (ps.length : Int) (i : Int)) (outP acc (ps.drop i)) := by
  intro d
  induction d with
  | zero =>
    intro i acc hi ha
    rw [List.drop_of_length_le (by omega)]
    refine Ev.step (f := fun k => (spec_tiHand.f k acc).bind fun t157 => (if t157 = true then (some (acc, true)) else (some (([] : List S31), false)))) (fun k => ?_) (Ev.bind (tiHand_ev acc) (ev_const fun k => ?_))
    · simp only [spec_tiParse.l0]
      rw [if_neg (by omega)]
    · unfold outP
      cases hb : handB acc <;> simp [hb]
  | succ d ih =>
    intro i acc hi ha
    have hlt : i < ps.length := by omega
    obtain ⟨p, hp⟩ : ∃ p, ps[i]? = some p := ⟨_, List.getElem?_eq_getElem hlt⟩
    have hd : ps.drop i = p :: ps.drop (i + 1) := by
      rw [List.drop_eq_getElem_cons hlt]
      rw [List.getElem?_eq_getElem hlt] at hp
      cases hp; rfl
    rw [hd]
    have b0 := bt_range p 0
    have b1 := bt_range p 1
    by_cases c : p.size = 2
    · have hbad : ∀ X : List S31 × Bool, ¬ (48 ≤ bt p 0 ∧ bt p 0 ≤ 57 ∧ 48 ≤ bt p 1 ∧ bt p 1 ≤ 57) → outP acc (p :: ps.drop (i + 1)) = ([], false) := fun _ hq => outP_bad acc p _ fun g => hq (by
        have := (goodT_iff (tileP p)).1 g
        unfold tileP at this
        simp only at this
        omega)
      by_cases q0 : bt p 0 < 48
      · rw [hbad ([], false) (by omega)]
        refine Ev.step (f := fun _ => some ([], false)) (fun k => ?_) (Ev.now _)
        simp only [spec_tiParse.l0]
        rw [rdOf_nat ps i p hp, if_pos (by omega), if_pos (by omega), if_pos (by omega), if_pos (by omega), if_pos (by omega), if_pos q0]
      by_cases q1 : bt p 0 > 57
      · rw [hbad ([], false) (by omega)]
        refine Ev.step (f := fun _ => some ([], false)) (fun k => ?_) (Ev.now _)
        simp only [spec_tiParse.l0]
        rw [rdOf_nat ps i p hp, if_pos (by omega), if_pos (by omega), if_pos (by omega), if_pos (by omega), if_pos (by omega), if_neg q0, if_pos q1]
      by_cases q2 : bt p 1 < 48
      · rw [hbad ([], false) (by omega)]
        refine Ev.step (f := fun _ => some ([], false)) (fun k => ?_) (Ev.now _)
        simp only [spec_tiParse.l0]
        rw [rdOf_nat ps i p hp, if_pos (by omega), if_pos (by omega), if_pos (by omega), if_pos (by omega), if_pos (by omega), if_neg q0, if_neg q1, if_pos (by omega), if_pos q2]
      by_cases q3 : bt p 1 > 57
      · rw [hbad ([], false) (by omega)]
        refine Ev.step (f := fun _ => some ([], false)) (fun k => ?_) (Ev.now _)
        simp only [spec_tiParse.l0]
        rw [rdOf_nat ps i p hp, if_pos (by omega), if_pos (by omega), if_pos (by omega), if_pos (by omega), if_pos (by omega), if_neg q0, if_neg q1, if_pos (by omega), if_neg q2, if_pos q3]
      have := ih (i + 1) (acc ++ [tileP p]) (by omega) (by simp; omega)
      rw [outP_cons acc p _ c]
      refine Ev.step (fun k => ?_) this
      simp only [spec_tiParse.l0]
      rw [rdOf_nat ps i p hp, if_pos (by omega), if_pos (by omega), if_pos (by omega), if_pos (by omega), if_pos (by omega), if_neg q0, if_neg q1, if_pos (by omega), if_neg q2, if_neg q3, if_pos (by omega), wrap_succ (by omega), show (bt p 0 - 48) % 256 = bt p 0 - 48 by omega, show (bt p 1 - 48) % 256 = bt p 1 - 48 by omega]
      rfl
    · rw [outP_size acc p _ c]
      refine Ev.step (f := fun _ => some ([], false)) (fun k => ?_) (Ev.now _)
      simp only [spec_tiParse.l0]
      rw [rdOf_nat ps i p hp, if_pos (by omega), if_pos (by omega), if_pos (by omega), if_neg (by omega)]
theorem sum_two : ∀ l : List (List UInt8), (∀ x ∈ l, x.length = 2) → (l.map List.length).sum = 2 * l.length
  | [], _ => rfl
  | x :: l, h => by
    have := sum_two l fun y hy => h y (List.mem_cons_of_mem _ hy)
    rw [List.map_cons, List.sum_cons, this, h x List.mem_cons_self, List.length_cons]; omega
theorem outP_long (s : ByteArray) (h : s.size > 165) : outP [] (partsB s) = ([], false) := by
  unfold outP
  refine if_neg fun d => ?_
  have hl := handB_len d.2
  rw [List.nil_append, List.length_map] at hl
  have h1 : ∀ x ∈ piecesL s.data.toList, x.length = 2 := fun x hx => by
    have := d.1 (toBA x) (List.mem_map.2 ⟨x, hx, rfl⟩)
    simpa [toBA, ByteArray.size] using this
  have h2 := sum_two _ h1
  have h3 := pieces_sum s.data.toList
  have h4 : s.data.toList.length = s.size := rfl
  unfold partsB at hl
  rw [List.length_map] at hl
  omega
theorem outP_len (ps : List ByteArray) : (outP [] ps).1.length ≤ 1048576 := by
  unfold outP
  by_cases c : (∀ p ∈ ps, p.size = 2) ∧ handB ([] ++ ps.map tileP) = true
  · rw [if_pos c]
    have := handB_len c.2
    simp only
    omega
  · rw [if_neg c]; simp
theorem ParseHand_same (a : ByteArray) (h : a.size ≤ 1048576) : ∃ r, Ev (fun k => spec_ParseHand.f k a) r ∧ Ev (fun k => impl_ParseHand.f k a) r ∧ r.1.length ≤ 1048576 := by
  by_cases hd : a.toList = ([45] : List UInt8)
  · refine ⟨([], true), ev_const fun k => ?_, ev_const fun k => ?_, by simp⟩
    · unfold spec_ParseHand.f spec_tiParse.f
      rw [if_pos hd]; rfl
    · unfold impl_ParseHand.f
      rw [Option.bind_some, if_pos hd]
  · have hlen : (partsB a).length ≤ 1000000000 := by
      have := pieces_le a.data.toList
      have h4 : a.data.toList.length = a.size := rfl
      unfold partsB
      rw [List.length_map]; omega
    have ei := impl_loop (partsB a) hlen (partsB a).length 0 [] (by omega) (by simp)
    rw [List.drop_zero] at ei
    refine ⟨outP [] (partsB a), ?_, ?_, outP_len _⟩
    · by_cases hb : (a.size : Int) > 165
      · rw [outP_long a (by omega)]
        refine ev_const fun k => ?_
        unfold spec_ParseHand.f spec_tiParse.f
        rw [if_neg hd, if_pos hb]; rfl
      · have es := spec_loop (partsB a) hlen (partsB a).length 0 [] (by omega) (by simp)
        rw [List.drop_zero] at es
        refine Ev.congr (f := fun k => ((spec_l1Split.f k a 44).bind fun t120 => (spec_tiParse.l0 k ([] : List S31) t120 (t120.length : Int) 0)).bind fun bt128 => some (bt128.1, bt128.2)) (fun k => ?_) (Ev.bind (Ev.bind (l1Split_ev a (by omega)) es) (Ev.now _))
        unfold spec_ParseHand.f spec_tiParse.f
        rw [if_neg hd, if_neg hb]
    · refine Ev.congr (fun k => ?_) ei
      unfold impl_ParseHand.f
      rw [Option.bind_some, if_neg hd, split_val a h, Option.bind_some]
      rfl

end Go.Proofs.YtiabjcgcbjeikaaDoor.Q
