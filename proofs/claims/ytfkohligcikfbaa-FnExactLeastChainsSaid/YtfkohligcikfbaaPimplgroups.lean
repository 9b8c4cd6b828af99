-- Printed by a program of this session (wip/myprint.py, which drives the kit's print): what one function of the program does, and the proof that its call does so.
import Derived.BigRegion
import Derived.Lib.SliceRun
import Derived.RegionTactic
import Derived.WalkSpells
import Derived.Test.YtfkohligcikfbaaP0
import Derived.Test.YtfkohligcikfbaaPIb
import Derived.Test.YtfkohligcikfbaaPId
import Derived.Test.YtfkohligcikfbaaPIf
import Derived.Test.YtfkohligcikfbaaPIk
import Derived.Test.YtfkohligcikfbaaPimplgroups1
namespace Go.Proofs.Ytfkohligcikfbaa.P
open Go.RowKit Go.Proofs.YtfkohligcikfbaaW.PrintWords Go.Proofs.YtfkohligcikfbaaW.PrintLast Go.Proofs.YtfkohligcikfbaaW.PrintMore
attribute [local go_sem] max2_int min2_int max_two min_two max_three min_three max_four min_four   -- for this text's walks alone
set_option linter.unusedVariables false
set_option linter.unusedSimpArgs false

/-! ### impl_groups: function 38: written by hand -/
def upI (i : Nat) : Nat → List Int
  | 0 => []
  | d + 1 => (i : Int) :: upI (i + 1) d
theorem upI_snoc (d : Nat) : ∀ i, upI i (d + 1) = upI i d ++ [((i + d : Nat) : Int)] := by
  induction d with
  | zero => intro i; simp [upI]
  | succ d ih =>
    intro i
    rw [upI, ih (i + 1), upI, List.cons_append]
    congr 4
    omega
theorem upI_length (d : Nat) : ∀ i, (upI i d).length = d := by
  induction d with
  | zero => intro i; rfl
  | succ d ih => intro i; simp [upI, ih]
/-- What a tile makes of the names. -/
def stepN (l : List Int) (t : S49) : List Int := (l.set t.f0.toNat (mn (rd l t.f0) (rd l t.f1))).set t.f1.toNat (mn (rd l t.f0) (rd l t.f1))
def roundsN (h : List S49) : Nat → List Int → List Int
  | 0, l => l
  | n + 1, l => roundsN h n (h.foldl stepN l)
def groupsP (l there : List Int) (ns : List Int) : List (List Int) := (ns.map fun name => there.filter fun n => decide (rd l n = name)).filter fun g => !g.isEmpty
def groupsN (l there : List Int) : List (List Int) := groupsP l there (upI 0 10)
theorem heap_cell1 {W : World} {g : Nat} {v : Value} {T : TypeId} (h : W.heap[g]? = some (.cells #[v] T (0, 0))) : W.cell? ⟨g, 0, none⟩ = some v ∧ W.frozen? ⟨g, 0, none⟩ = false := by
  refine ⟨?_, by simp [World.frozen?, h]⟩
  simp only [World.cell?, h]; rfl
theorem box_below {W W' : World} {g : Nat} {v : Value} {T : TypeId} (h : W.heap[g]? = some (.cells #[v] T (0, 0))) (hb : Below W.heap.size W W') : W'.heap[g]? = some (.cells #[v] T (0, 0)) := (hb.block g (Array.getElem?_eq_some_iff.1 h).1).trans h
theorem box_drawn {W W' : World} {g : Nat} {v : Value} {T : TypeId} (h : W.heap[g]? = some (.cells #[v] T (0, 0))) (hd : Drawn0 W W') : W'.heap[g]? = some (.cells #[v] T (0, 0)) := box_below h hd.below
theorem box_far {W : World} {g b o : Nat} {v u : Value} {T : TypeId} (h : W.heap[g]? = some (.cells #[v] T (0, 0))) (hne : b ≠ g) : (W.setCell ⟨b, o, none⟩ u).heap[g]? = some (.cells #[v] T (0, 0)) := by
  rw [← h]
  simp only [World.setCell, Array.getElem?_modify]
  rw [if_neg hne]
theorem stepN_eq {l : List Int} {t : S49} {p q : Nat} {y0 y1 : Int} (hp : t.f0 = (p : Int)) (hq : t.f1 = (q : Int)) (h0 : l[p]? = some y0) (h1 : l[q]? = some y1) : stepN l t = (l.set p (mn y0 y1)).set q (mn y0 y1) := by
  have e0 : rd l t.f0 = y0 := by
    rw [hp]
    show l.getD (p : Int).toNat _ = y0
    rw [Int.toNat_natCast, List.getD_eq_getElem?_getD, h0]; rfl
  have e1 : rd l t.f1 = y1 := by
    rw [hq]
    show l.getD (q : Int).toNat _ = y1
    rw [Int.toNat_natCast, List.getD_eq_getElem?_getD, h1]; rfl
  unfold stepN
  rw [e0, e1, hp, hq, Int.toNat_natCast, Int.toNat_natCast]
theorem goodT_iff' (t : S49) : goodT t = true ↔ 0 ≤ t.f0 ∧ t.f0 ≤ t.f1 ∧ t.f1 ≤ 9 := by
  unfold goodT
  simp
def impl_groups.f (k : Nat) (l0 : List S49) : Option (List (List Int)) := if l0.length ≤ 55 ∧ (∀ t ∈ l0, goodT t = true) then ((impl_numbers.f k l0).bind fun there => if (∀ n ∈ there, 0 ≤ n ∧ n ≤ 9) ∧ there.length ≤ 1000 then some (groupsN (roundsN l0 l0.length (upI 0 10)) there) else none) else none
theorem impl_groups.mono : ∀ a0 k, LeO (impl_groups.f k a0) (impl_groups.f (k + 1) a0) := by
  intro a0 k r h
  unfold impl_groups.f at h ⊢
  by_cases c : a0.length ≤ 55 ∧ (∀ t ∈ a0, goodT t = true)
  · rw [if_pos c] at h ⊢
    obtain ⟨t, h1, h2⟩ := Option.bind_eq_some_iff.1 h
    rw [impl_numbers.mono _ _ _ h1, Option.bind_some]
    exact h2
  · rw [if_neg c] at h; cases h
set_option maxHeartbeats 8000000 in
set_option maxRecDepth 100000 in
theorem impl_groups.calls (k : Nat) (A0 : Option Addr) (c0 : Nat) (l0 : List S49) (r : List (List Int)) (w : World) (hr0 : Kd.C k49 w A0 l0.length l0) (hc0 : l0.length ≤ c0) (h : impl_groups.f k l0 = some r) :
    Calls Try.prog 38 #[.slice A0 l0.length c0] w fun e w' => ∃ v0_ : Value, e = .returned (v0_) ∧ Kd.S (Kd.slice 3 (Kd.int .i64)) 41 w' w.heap.size (fun _ => True) v0_ r ∧ Below w.heap.size w w' := by
  have eg : ∀ args w, (callFunc 62 args).run Try.prog w = .ok (.enter 62 args) w := enters_of Try.func62 (by kernel_rfl) rfl
  have hmf : ∀ (fn : Fn) (first cap : Array Value) (w : World), (Instr.makeFunc fn first cap).run Try.prog w = .ok (.func fn first cap) w := fun _ _ _ _ => rfl
  unfold impl_groups.f at h
  by_cases c : l0.length ≤ 55 ∧ (∀ t ∈ l0, goodT t = true)
  case neg => rw [if_neg c] at h; cases h
  rw [if_pos c] at h
  obtain ⟨there, h1, h⟩ := Option.bind_eq_some_iff.1 h
  by_cases c2 : (∀ n ∈ there, 0 ≤ n ∧ n ≤ 9) ∧ there.length ≤ 1000
  case neg => rw [if_neg c2] at h; cases h
  rw [if_pos c2] at h
  obtain rfl := Option.some.inj h
  have HR0 := Aside0.mk hr0
  have HC := Aside0.mk c
  have HC2 := Aside0.mk c2
  clear h hr0 c c2
  go_enter Try.func38, Try.ntmps38
  go_wp2
  go_loopg [13] 10 (fun gg s13 wr => ∃ (i : Nat) (v : Value), s13 = .int .i64 i ∧ i ≤ 10 ∧ 10 - i ≤ gg ∧ Aside0 (wr.heap[w.heap.size + 1]? = some (.cells #[v] 41 (0, 0))) ∧ Aside0 (Kd.R (Kd.int .i64) 3 wr w.heap.size (fun b => b ≠ w.heap.size + 1) v (upI 0 i)) ∧ Aside0 (Below w.heap.size w wr) ∧ Aside0 (w.heap.size + 2 ≤ wr.heap.size))
  case atStart =>
    have e1 : (w.alloc (.cells #[] 3)).heap.size = w.heap.size + 1 := by simp
    refine ⟨0, .slice (some ⟨w.heap.size, 0, none⟩) 0 0, rfl, by omega, by omega, ⟨?_⟩, ⟨R_of_rowI (m := []) ⟨#[], ?_, rfl, Nat.le_refl _, fun i x hx => by simp at hx⟩ (Nat.le_refl _) (by omega) (by simp [maxLen])⟩, ⟨((Below.refl w.heap.size w).alloc (Nat.le_refl _) _).alloc (by simp) _⟩, ⟨by simp⟩⟩
    · rw [← e1]; exact heap_alloc_new _ _
    · rw [heap_alloc_old _ _ (by simp)]; exact heap_alloc_new _ _
  case round =>
    obtain ⟨i, v, rfl, hi, hg, HBX, HO, HB, HS⟩ := hrel
    by_cases hlt : i < 10
    · have hltz : (i : Int) < 10 := by omega
      obtain ⟨A, cc, rfl, hlc, _⟩ := Kd.R_reads HO.out
      obtain ⟨hx0, hf0⟩ := heap_cell1 HBX.out
      have HLn := Aside0.mk (upI_length i 0)
      have HN := Aside0.mk (show upI 0 (i + 1) = upI 0 i ++ [(i : Int)] by rw [upI_snoc i 0, Nat.zero_add])
      have hown : (Value.slice A (upI 0 i).length cc).ownBlock ≠ some (w.heap.size + 1) := fun e => HO.out.1 _ e rfl
      have HW := Aside0.mk hown
      clear hown
      go_wp2_with ((with_reducible refine gate_builtin (b := .append) (xs := #[.tmp 16, .tmp 18]) rfl ?_); at_builtin; refine Kd.R_append (Kd.int .i64) (w0 := w) w.heap.size rfl (.tmp 16) (.tmp 18) 41 3 (.int .i64 0) 8 rfl Try.underlying41 info3 rfl (by decide) (by omega) (.slice A (upI 0 i).length cc) (upI 0 i) (i : Int) [.int .i64 (i : Int)] (fun b => b ≠ w.heap.size + 1) (fun _ => False) rfl ?aX rfl (fun _ hk => hk.elim) ?aF HO.out HB.out ?aS (by have := HLn.out; omega) ?_; (case aX => rfl); (case aF => intro b hb; have := HS.out; omega); (case aS => exact HB.out.size); intro v1 w1 ho hb hg hat; rw [← HN.out] at ho; obtain ⟨A1, c1, rfl, hl1, _⟩ := Kd.R_reads ho; have hbx1 : w1.heap[w.heap.size + 1]? = some (.cells #[.slice A (upI 0 i).length cc] 41 (0, 0)) := (hg.block _ (by have := HS.out; omega) (fun e => HW.out e.symm)).trans HBX.out; have HX1 := Aside0.mk hbx1; obtain ⟨hx1, hf1⟩ := heap_cell1 hbx1; have HO1 := Aside0.mk ho; have HB1 := Aside0.mk hb; have HG1 := Aside0.mk hg.size; clear ho hb hg hat hbx1)
      go_roundg (10 - (i + 1))
      case measure => omega
      case rel =>
        refine ⟨i + 1, _, by go_num, by omega, Nat.le_refl _, ⟨?_⟩, ⟨Kd.R_far (p := ⟨w.heap.size + 1, 0, none⟩) HO1.out (fun _ h => h) _⟩, ⟨below_row_set HB1.out (by omega)⟩, ⟨by simpa [World.setCell] using Nat.le_trans HS.out HG1.out⟩⟩
        rw [heap_setCell_at HX1.out]
        simp
    · obtain rfl : i = 10 := by omega
      rcases rowI_of_R HO.out with ⟨_, hnil⟩ | ⟨gN, capN, rfl, hgN, hokN, hlN, hcN, hrow⟩
      · exact absurd (congrArg List.length hnil) (by rw [upI_length]; decide)
      rw [upI_length] at hlN
      have hbx := HBX.out
      rw [upI_length] at hbx
      have HBX0 := Aside0.mk hbx
      obtain ⟨hx0, hf0⟩ := heap_cell1 hbx
      have HROW := Aside0.mk hrow
      have HN := Aside0.mk (show gN ≠ w.heap.size + 1 ∧ w.heap.size ≤ gN ∧ capN ≤ maxLen from ⟨hokN, hgN, hcN⟩)
      have hlh := HC.out.1
      clear hrow hokN hgN hcN hbx HO HBX
      go_wp2
      clear hx0 hf0
      go_loopg [23] l0.length (fun gg s23 wr => ∃ (i : Nat) (l : List Int), s23 = .int .i64 i ∧ i ≤ l0.length ∧ l0.length - i ≤ gg ∧ l.length = 10 ∧ Aside0 (roundsN l0 (l0.length - i) l = roundsN l0 l0.length (upI 0 10)) ∧ Aside0 (rowI wr gN capN l) ∧ Aside0 (wr.heap[w.heap.size + 1]? = some (.cells #[.slice (some ⟨gN, 0, none⟩) 10 capN] 41 (0, 0))) ∧ Aside0 (Below w.heap.size w wr) ∧ Aside0 (w.heap.size + 2 ≤ wr.heap.size))
      case atStart => exact ⟨0, upI 0 10, rfl, by omega, by omega, upI_length 10 0, ⟨rfl⟩, HROW, HBX0, HB, HS⟩
      case round =>
        obtain ⟨i, l, rfl, hi, hg, hl10, HF, HRW, HBX, HB, HS⟩ := hrel
        by_cases hlt : i < l0.length
        · have hltz : (i : Int) < (l0.length : Int) := by omega
          go_wp2
          go_loopg [27] l0.length (fun gg s27 wr => ∃ (j : Nat) (l : List Int), s27 = .int .i64 j ∧ j ≤ l0.length ∧ l0.length - j ≤ gg ∧ l.length = 10 ∧ Aside0 (roundsN l0 (l0.length - (i + 1)) ((l0.drop j).foldl stepN l) = roundsN l0 l0.length (upI 0 10)) ∧ Aside0 (rowI wr gN capN l) ∧ Aside0 (wr.heap[w.heap.size + 1]? = some (.cells #[.slice (some ⟨gN, 0, none⟩) 10 capN] 41 (0, 0))) ∧ Aside0 (Below w.heap.size w wr) ∧ Aside0 (w.heap.size + 2 ≤ wr.heap.size))
          case atStart => exact ⟨0, l, rfl, by omega, by omega, hl10, ⟨by
            have := HF.out
            rw [show l0.length - i = (l0.length - (i + 1)) + 1 by omega, roundsN] at this
            rw [List.drop_zero]; exact this⟩, HRW, HBX, HB, HS⟩
          case round =>
            obtain ⟨j, l', rfl, hj, hg2, hl', HF2, HRW2, HBX2, HB2, HS2⟩ := hrel
            by_cases hlt2 : j < l0.length
            · have hltz2 : (j : Int) < (l0.length : Int) := by omega
              obtain ⟨x, hx⟩ : ∃ x, l0[j]? = some x := ⟨_, List.getElem?_eq_getElem hlt2⟩
              have hrdx : rd_T49 l0 (j : Int) = x := by
                show l0.getD (j : Int).toNat _ = x
                rw [Int.toNat_natCast, List.getD_eq_getElem?_getD, hx]; rfl
              have hgx := (goodT_iff' x).1 (HC.out.2 x (List.mem_of_getElem? hx))
              obtain ⟨p, hp⟩ := Int.eq_ofNat_of_zero_le hgx.1
              obtain ⟨q, hq⟩ := Int.eq_ofNat_of_zero_le (Int.le_trans hgx.1 hgx.2.1)
              obtain ⟨ad, rfl, ha0, ha1⟩ := at_T49 (Kd.C_below HR0.out HB2.out) (j : Int) (by omega) hltz2
              rw [hrdx, hp, Int.toNat_natCast] at ha0
              rw [hrdx, hq, Int.toNat_natCast] at ha1
              obtain ⟨y0, hy0⟩ : ∃ y, l'[p]? = some y := ⟨_, List.getElem?_eq_getElem (by omega)⟩
              obtain ⟨y1, hy1⟩ : ∃ y, l'[q]? = some y := ⟨_, List.getElem?_eq_getElem (by omega)⟩
              obtain ⟨r0, rf0⟩ := rowI_at HRW2.out p y0 hy0
              obtain ⟨r1, rf1⟩ := rowI_at HRW2.out q y1 hy1
              obtain ⟨hx0, hf0⟩ := heap_cell1 HBX2.out
              have hp10 : (p : Int) < 10 := by omega
              have hq10 : (q : Int) < 10 := by omega
              have hbl := World.block_lt_of_cell? _ _ r0
              have hbl2 := World.block_lt_of_cell? _ _ hx0
              have hbl3 := World.block_lt_of_cell? _ _ ha0
              have HST := Aside0.mk (stepN_eq hp hq hy0 hy1)
              have HDR := Aside0.mk (show l0.drop j = x :: l0.drop (j + 1) by
                rw [List.drop_eq_getElem_cons hlt2]
                rw [List.getElem?_eq_getElem hlt2] at hx
                cases hx; rfl)
              have hp10n : p < l'.length := by omega
              have hq10n : q < l'.length := by omega
              have hgn := HN.out.1
              have hgn' : w.heap.size + 1 ≠ gN := fun e => hgn e.symm
              have hbl4 : gN < wr.heap.size := hbl
              have hne2 : gN ≠ wr.heap.size := by omega
              have hne2' : wr.heap.size ≠ gN := by omega
              have hpqd : p = q ∨ (p ≠ q ∧ q ≠ p) := by omega
              rcases hpqd with rfl | ⟨hpq, hqp⟩
              · obtain rfl : y0 = y1 := by rw [hy0] at hy1; exact Option.some.inj hy1
                clear hx hrdx hy0 hy1
                go_wp2
                repeat (go_quiet (fail); try go_wp2)
                go_region
                go_wp2
                go_roundg (l0.length - (j + 1))
                case measure => omega
                case rel =>
                  refine ⟨j + 1, (l'.set p y0).set p y0, by go_num, by omega, Nat.le_refl _, by rw [List.length_set, List.length_set]; exact hl', ⟨?_⟩, ⟨?_⟩, ⟨?_⟩, ⟨?_⟩, ⟨?_⟩⟩
                  · have := HF2.out
                    rw [HDR.out, List.foldl_cons, HST.out, show mn y0 y0 = y0 by unfold mn; split <;> omega] at this
                    exact this
                  · exact rowI_set (rowI_set (rowI_drawn (rowI_below HRW2.out ((Below.refl _ _).alloc (Nat.le_refl _) _)) (by repeat (first | exact Drawn0.refl _ | apply Drawn0.step))) p y0 (by omega)) p y0 (by rw [List.length_set]; omega)
                  · exact box_far (box_far (box_drawn (box_below HBX2.out ((Below.refl _ _).alloc (Nat.le_refl _) _)) (by repeat (first | exact Drawn0.refl _ | apply Drawn0.step))) hgn) hgn
                  · exact below_row_set (below_row_set (below_drawn (HB2.out.alloc HB2.out.size _) (Nat.le_trans HB2.out.size (by simp)) (by repeat (first | exact Drawn0.refl _ | apply Drawn0.step))) HN.out.2.1) HN.out.2.1
                  · exact Nat.le_trans HS2.out (below_row_set (below_row_set (below_drawn (((Below.refl wr.heap.size wr).mono HB2.out.size).alloc HB2.out.size _) (Nat.le_trans HB2.out.size (by simp)) (by repeat (first | exact Drawn0.refl _ | apply Drawn0.step))) HN.out.2.1) HN.out.2.1).size
              · clear hx hrdx hy0 hy1
                go_wp2
                repeat (go_quiet (fail); try go_wp2)
                · go_region
                  go_wp2
                  go_roundg (l0.length - (j + 1))
                  case measure => omega
                  case rel =>
                    refine ⟨j + 1, (l'.set p y1).set q y1, by go_num, by omega, Nat.le_refl _, by rw [List.length_set, List.length_set]; exact hl', ⟨?_⟩, ⟨?_⟩, ⟨?_⟩, ⟨?_⟩, ⟨?_⟩⟩
                    · have := HF2.out
                      rw [HDR.out, List.foldl_cons, HST.out, show mn y0 y1 = y1 by unfold mn; split <;> omega] at this
                      exact this
                    · exact rowI_set (rowI_set (rowI_drawn (rowI_below HRW2.out ((Below.refl _ _).alloc (Nat.le_refl _) _)) (by repeat (first | exact Drawn0.refl _ | apply Drawn0.step))) p y1 (by omega)) q y1 (by rw [List.length_set]; omega)
                    · exact box_far (box_far (box_drawn (box_below HBX2.out ((Below.refl _ _).alloc (Nat.le_refl _) _)) (by repeat (first | exact Drawn0.refl _ | apply Drawn0.step))) hgn) hgn
                    · exact below_row_set (below_row_set (below_drawn (HB2.out.alloc HB2.out.size _) (Nat.le_trans HB2.out.size (by simp)) (by repeat (first | exact Drawn0.refl _ | apply Drawn0.step))) HN.out.2.1) HN.out.2.1
                    · exact Nat.le_trans HS2.out (below_row_set (below_row_set (below_drawn (((Below.refl wr.heap.size wr).mono HB2.out.size).alloc HB2.out.size _) (Nat.le_trans HB2.out.size (by simp)) (by repeat (first | exact Drawn0.refl _ | apply Drawn0.step))) HN.out.2.1) HN.out.2.1).size
                · go_region
                  go_wp2
                  go_roundg (l0.length - (j + 1))
                  case measure => omega
                  case rel =>
                    refine ⟨j + 1, (l'.set p y0).set q y0, by go_num, by omega, Nat.le_refl _, by rw [List.length_set, List.length_set]; exact hl', ⟨?_⟩, ⟨?_⟩, ⟨?_⟩, ⟨?_⟩, ⟨?_⟩⟩
                    · have := HF2.out
                      rw [HDR.out, List.foldl_cons, HST.out, show mn y0 y1 = y0 by unfold mn; split <;> omega] at this
                      exact this
                    · exact rowI_set (rowI_set (rowI_drawn (rowI_below HRW2.out ((Below.refl _ _).alloc (Nat.le_refl _) _)) (by repeat (first | exact Drawn0.refl _ | apply Drawn0.step))) p y0 (by omega)) q y0 (by rw [List.length_set]; omega)
                    · exact box_far (box_far (box_drawn (box_below HBX2.out ((Below.refl _ _).alloc (Nat.le_refl _) _)) (by repeat (first | exact Drawn0.refl _ | apply Drawn0.step))) hgn) hgn
                    · exact below_row_set (below_row_set (below_drawn (HB2.out.alloc HB2.out.size _) (Nat.le_trans HB2.out.size (by simp)) (by repeat (first | exact Drawn0.refl _ | apply Drawn0.step))) HN.out.2.1) HN.out.2.1
                    · exact Nat.le_trans HS2.out (below_row_set (below_row_set (below_drawn (((Below.refl wr.heap.size wr).mono HB2.out.size).alloc HB2.out.size _) (Nat.le_trans HB2.out.size (by simp)) (by repeat (first | exact Drawn0.refl _ | apply Drawn0.step))) HN.out.2.1) HN.out.2.1).size
            · obtain rfl : j = l0.length := by omega
              have hltz2 : ¬ (l0.length : Int) < (l0.length : Int) := by omega
              go_wp2
              go_roundg (l0.length - (i + 1))
              case measure => omega
              case rel => exact ⟨i + 1, l', by go_num, by omega, Nat.le_refl _, hl', ⟨by have := HF2.out; rw [List.drop_length] at this; exact this⟩, HRW2, HBX2, HB2, HS2⟩
        · obtain rfl : i = l0.length := by omega
          have hltz : ¬ (l0.length : Int) < (l0.length : Int) := by omega
          have hFl := HF.out
          rw [Nat.sub_self, roundsN] at hFl
          have hN : ∀ W, Below w.heap.size w W → Calls Try.prog 59 #[.slice A0 l0.length c0] W fun e w' => ∃ v0_ : Value, e = .returned (v0_) ∧ Kd.R (Kd.int .i64) 3 w' W.heap.size (fun _ => True) v0_ there ∧ Below W.heap.size W w' := fun W hb => impl_numbers.calls k A0 c0 l0 there W (Kd.C_below HR0.out hb) hc0 h1
          have HNUM := Aside0.mk hN
          have HFL := Aside0.mk hFl
          obtain ⟨hx0, hf0⟩ := heap_cell1 HBX.out
          have hll : (Value.slice (some ⟨gN, 0, none⟩) 10 capN) = .slice (some ⟨gN, 0, none⟩) 10 capN := rfl
          clear hN hFl
          go_wp2_with (go_at_call 59; refine (HNUM.out _ (by first | exact HB.out | exact HB.out.alloc HB.out.size _)).mono ?_; rintro e w1 ⟨v1, rfl, ho1, hb1⟩; obtain ⟨A1, c1, rfl, hl1, _⟩ := Kd.R_reads ho1; have HBX1 := Aside0.mk (box_below (box_below HBX.out ((Below.refl _ _).alloc (Nat.le_refl _) _)) hb1); obtain ⟨hx1, hf1⟩ := heap_cell1 HBX1.out; have HO1 := Aside0.mk ho1; have HB1 := Aside0.mk hb1; clear ho1 hb1 hx0 hf0)
          have HBW1 := Aside0.mk (HB.out.alloc HB.out.size (.cells #[] 41))
          have hs0 : (wr.alloc (.cells #[] 41)).heap.size = wr.heap.size + 1 := by simp
          have hS1 : Kd.S (Kd.slice 3 (Kd.int .i64)) 41 w1 w.heap.size (fun b => b ≠ w.heap.size + 1 ∧ b ≠ gN) (.slice (some ⟨wr.heap.size, 0, none⟩) 0 0) [] := by
            refine ⟨fun _ => 0, fun b hb => ?_, [], ⟨rfl, .inr ⟨wr.heap.size, 0, #[], rfl, HB.out.size, ?_, Nat.le_refl _, by simp [maxLen], rfl, rfl⟩⟩, rfl, fun j p hj => by simp at hj⟩
            · have : wr.heap.size = b := by simpa [Value.ownBlock] using hb
              have h1 := HS.out
              have h2 := rowI_lt HRW.out
              omega
            · rw [HB1.out.block _ (by omega)]; exact heap_alloc_new _ _
          have HS1 := Aside0.mk hS1
          have HRW1 := Aside0.mk (rowI_below (rowI_below HRW.out ((Below.refl _ _).alloc (Nat.le_refl _) _)) HB1.out)
          have HBB1 := Aside0.mk (below_then HBW1.out HBW1.out.size HB1.out)
          have HSZ1 := Aside0.mk (show w.heap.size + 2 ≤ w1.heap.size from Nat.le_trans HS.out (Nat.le_trans (by omega) HB1.out.size))
          have HO1' := Aside0.mk (Kd.R_lower HO1.out (show w.heap.size ≤ _ from HBW1.out.size))
          clear hS1 hx1 hf1 hs0 HO1
          go_loopg [8, 59] 10 (fun gg s8 s59 wx => ∃ (n : Nat) (outs : List (List Int)), s59 = .int .i64 n ∧ n ≤ 10 ∧ 10 - n ≤ gg ∧ Aside0 (Kd.S (Kd.slice 3 (Kd.int .i64)) 41 wx w.heap.size (fun b => b ≠ w.heap.size + 1 ∧ b ≠ gN) s8 outs) ∧ Aside0 (outs ++ groupsP l there (upI n (10 - n)) = groupsN l there) ∧ Aside0 (Kd.R (Kd.int .i64) 3 wx w.heap.size (fun _ => True) (.slice A1 there.length c1) there) ∧ Aside0 (rowI wx gN capN l) ∧ Aside0 (wx.heap[w.heap.size + 1]? = some (.cells #[.slice (some ⟨gN, 0, none⟩) 10 capN] 41 (0, 0))) ∧ Aside0 (Below w.heap.size w wx) ∧ Aside0 (w.heap.size + 2 ≤ wx.heap.size))
          case atStart => exact ⟨0, [], rfl, by omega, by omega, HS1, ⟨rfl⟩, HO1', HRW1, HBX1, HBB1, HSZ1⟩
          case round =>
            obtain ⟨n, outs, rfl, hn, hgg, HOS, HOG, HTH, HRX, HBXX, HBL, HSZ⟩ := hrel
            by_cases hlt : n < 10
            · have hltz : (n : Int) < 10 := by omega
              obtain ⟨own, hown⟩ : ∃ o, o = there.filter fun x => decide (rd l x = (n : Int)) := ⟨_, rfl⟩
              have hW1 : (wr.alloc (.cells #[.int .i64 (n : Int)] 3)).heap.size = wr.heap.size + 1 := by simp
              have hgl := rowI_lt HRX.out
              have hszx := HSZ.out
              have hcl : Calls Try.prog 61 #[.slice A1 there.length c1] (wr.alloc (.cells #[.int .i64 (n : Int)] 3)) fun e w' => ∃ v0_ : Value, e = .returned (v0_) ∧ Kd.R (Kd.int .i64) 3 w' (wr.alloc (.cells #[.int .i64 (n : Int)] 3)).heap.size (fun _ => True) v0_ there ∧ Below (wr.alloc (.cells #[.int .i64 (n : Int)] 3)).heap.size (wr.alloc (.cells #[.int .i64 (n : Int)] 3)) w' := by
                have hC := (Kd.R_reads' (Kd.R_alloc HTH.out (.cells #[.int .i64 (n : Int)] 3))).2.2
                exact slices_Clone_int.calls A1 c1 there there _ hC hl1 (by unfold slices_Clone_int.f; rw [if_pos (by have := HC2.out.2; omega)])
              have hdel : ∀ (W : World) (v : Value), Kd.R (Kd.int .i64) 3 W (wr.alloc (.cells #[.int .i64 (n : Int)] 3)).heap.size (fun _ => True) v there → Below (wr.alloc (.cells #[.int .i64 (n : Int)] 3)).heap.size (wr.alloc (.cells #[.int .i64 (n : Int)] 3)) W → Calls Try.prog 60 #[v, .func (.func 62) #[] #[.pointer (some ⟨w.heap.size + 1, 0, none⟩), .pointer (some ⟨wr.heap.size, 0, none⟩)]] W fun e w' => ∃ v', e = .returned v' ∧ Kd.R (Kd.int .i64) 3 w' (wr.alloc (.cells #[.int .i64 (n : Int)] 3)).heap.size (fun _ => True) v' own ∧ Below (wr.alloc (.cells #[.int .i64 (n : Int)] 3)).heap.size W w' := by
                intro W v ho hb
                have := slices_DeleteFunc_int.gcalls 62 #[.pointer (some ⟨w.heap.size + 1, 0, none⟩), .pointer (some ⟨wr.heap.size, 0, none⟩)] (fun x => !decide (rd l x = (n : Int))) (wr.alloc (.cells #[.int .i64 (n : Int)] 3)).heap.size (fun _ => True) v there W eg hb.size ho (fun x hx W' hb' => by
                  obtain ⟨m, rfl⟩ := Int.eq_ofNat_of_zero_le (HC2.out.1 x hx).1
                  have hm9 := (HC2.out.1 _ hx).2
                  have hbb := hb.trans hb'
                  have hr3 : rowI W' gN capN l := rowI_below (rowI_below HRX.out ((Below.refl _ _).alloc (Nat.le_refl _) (.cells #[.int .i64 (n : Int)] 3))) hbb
                  have hb3 := box_below (box_below HBXX.out ((Below.refl _ _).alloc (Nat.le_refl _) (.cells #[.int .i64 (n : Int)] 3))) hbb
                  have hnm : (wr.alloc (.cells #[.int .i64 (n : Int)] 3)).heap[wr.heap.size]? = some (.cells #[.int .i64 (n : Int)] 3 (0, 0)) := heap_alloc_new _ _
                  have hn3 := box_below hnm hbb
                  exact impl_groups_1.gcalls m gN capN l (w.heap.size + 1) wr.heap.size (n : Int) W' (by omega) hr3 (by rw [hl10]; exact (heap_cell1 hb3).1) (heap_cell1 hn3).1 (by omega))
                simpa [← hown] using this
              have HCL := Aside0.mk hcl
              have HDL := Aside0.mk hdel
              have hup : upI n (10 - n) = (n : Int) :: upI (n + 1) (10 - (n + 1)) := by rw [show 10 - n = (10 - (n + 1)) + 1 by omega, upI]
              have HUP := Aside0.mk hup
              clear hcl hdel hup
              by_cases hemp : own = []
              · have hnx : outs ++ groupsP l there (upI (n + 1) (10 - (n + 1))) = groupsN l there := by
                  have := HOG.out
                  rw [HUP.out] at this
                  unfold groupsP at this ⊢
                  rw [List.map_cons, List.filter_cons, ← hown, hemp, if_neg (by simp)] at this
                  exact this
                have HNX := Aside0.mk hnx
                have hol : own.length = 0 := by rw [hemp]; rfl
                clear hnx hown
                subst hemp
                go_wp2_with (first | (go_at_call 61; refine HCL.out.mono ?_; rintro e w2 ⟨v2, rfl, ho2, hb2⟩; have HO2 := Aside0.mk ho2; have HB2 := Aside0.mk hb2; clear ho2 hb2) | (go_at_call 60; refine (HDL.out _ _ HO2.out HB2.out).mono ?_; rintro e w3 ⟨v3, rfl, ho3, hb3⟩; obtain ⟨A3, c3, rfl, hl3, _⟩ := Kd.R_reads ho3; have HB3 := Aside0.mk (((Below.refl wr.heap.size wr).alloc (Nat.le_refl _) _).trans ((HB2.out.trans hb3).mono (by omega))); clear ho3 hb3))
                go_roundg (10 - (n + 1))
                case measure => omega
                case rel => exact ⟨n + 1, outs, by go_num, by omega, Nat.le_refl _, ⟨Kd.S_below HOS.out HB3.out⟩, HNX, ⟨Kd.R_below HTH.out HB3.out⟩, ⟨rowI_below HRX.out HB3.out⟩, ⟨box_below HBXX.out HB3.out⟩, ⟨below_then HBL.out HBL.out.size HB3.out⟩, ⟨Nat.le_trans HSZ.out HB3.out.size⟩⟩
              · have hnx : (outs ++ [own]) ++ groupsP l there (upI (n + 1) (10 - (n + 1))) = groupsN l there := by
                  have := HOG.out
                  rw [HUP.out] at this
                  unfold groupsP at this ⊢
                  rw [List.map_cons, List.filter_cons, ← hown, if_pos (by cases own with | nil => exact absurd rfl hemp | cons a b => rfl)] at this
                  rw [List.append_assoc]
                  exact this
                have HNX := Aside0.mk hnx
                have hol : 0 < own.length := List.length_pos_iff.2 hemp
                have holz : (0 : Int) < (own.length : Int) := by omega
                have hon : outs.length ≤ 1000 := by
                  have := congrArg List.length HOG.out
                  rw [List.length_append] at this
                  have h2 : (groupsN l there).length ≤ 10 := by
                    unfold groupsN groupsP
                    refine Nat.le_trans (List.length_filter_le _ _) ?_
                    rw [List.length_map, upI_length]; exact Nat.le_refl _
                  omega
                have HBDS := Aside0.mk (Kd.S_bound HOS.out)
                have HLT := Aside0.mk (Kd.S_lt HOS.out)
                have HTY := Aside0.mk (Kd.S_typed HOS.out)
                have HOKS := Aside0.mk (fun b hb => (Kd.S_R HOS.out).1 b hb)
                clear hnx hown
                go_wp2_with (first | (go_at_call 61; refine HCL.out.mono ?_; rintro e w2 ⟨v2, rfl, ho2, hb2⟩; have HO2 := Aside0.mk ho2; have HB2 := Aside0.mk hb2; clear ho2 hb2) | (go_at_call 60; refine (HDL.out _ _ HO2.out HB2.out).mono ?_; rintro e w3 ⟨v3, rfl, ho3, hb3⟩; obtain ⟨A3, c3, rfl, hl3, _⟩ := Kd.R_reads ho3; have HO3 := Aside0.mk ho3; have HBA := Aside0.mk (Kd.R_base ho3); have HB3 := Aside0.mk (((Below.refl wr.heap.size wr).alloc (Nat.le_refl _) _).trans ((HB2.out.trans hb3).mono (by omega))); clear ho3 hb3) | ((with_reducible refine gate_builtin (b := .append) (xs := #[.tmp 69, .tmp 71]) rfl ?_); at_builtin; refine Kd.S_append (Kd.slice 3 (Kd.int .i64)) (w0 := w) w.heap.size rfl (.tmp 69) (.tmp 71) 24 41 (.slice none 0 0) 24 rfl Try.underlying24 info41 rfl (by decide) (by omega) u8 outs own [.slice A3 own.length c3] (fun b => b ≠ w.heap.size + 1 ∧ b ≠ gN) (fun b => some b = (.slice A3 own.length c3 : Value).ownBlock) rfl ?aX ?aP ?aK ?aF ?aO ?aB ?aS (by omega) ?_; (case aX => rfl); (case aP => exact Kd.M_row (Kd.R_lower (Kd.R_tight rfl HO3.out) (by omega))); (case aK => intro b hb; have h1 := HBA.out b hb.symm; exact ⟨⟨by omega, by omega⟩, fun e => by have := HLT.out b e.symm; omega⟩); (case aF => intro b hb; have := HB3.out.size; exact ⟨by omega, by omega⟩); (case aO => exact Kd.S_mono (Kd.S_below HBDS.out HB3.out) (fun b hb => ⟨hb.1, fun e => by have h1 := HBA.out b e.symm; have h2 := hb.2.2.1; omega⟩)); (case aB => exact below_then HBL.out HBL.out.size HB3.out); (case aS => exact Nat.le_trans HBL.out.size HB3.out.size); intro v5 w5 ho5 hb5 hg5 hat5; have HO5 := Aside0.mk ho5; have HB5 := Aside0.mk hb5; have HG5 := Aside0.mk hg5; clear ho5 hb5 hg5 hat5))
                go_roundg (10 - (n + 1))
                case measure => omega
                case rel =>
                  have hs3 := HB3.out.size
                  have hty : ∀ b, (u8 : Value).ownBlock = some b → ∃ cells, _ := Kd.S_typed (Kd.S_below HOS.out HB3.out)
                  refine ⟨n + 1, outs ++ [own], by go_num, by omega, Nat.le_refl _, HO5, HNX, ⟨Kd.R_over' (Kd.R_below HTH.out HB3.out) hty (by decide) HG5.out⟩, ⟨?_⟩, ⟨?_⟩, HB5, ⟨Nat.le_trans HSZ.out (Nat.le_trans hs3 HG5.out.size)⟩⟩
                  · obtain ⟨cur, k1, k2⟩ := rowI_below HRX.out HB3.out
                    exact ⟨cur, (HG5.out.block gN (by omega) (fun e => (HOKS.out gN e.symm).2 rfl)).trans k1, k2⟩
                  · exact (HG5.out.block _ (by omega) (fun e => (HOKS.out _ e.symm).1 rfl)).trans (box_below HBXX.out HB3.out)
            · obtain rfl : n = 10 := by omega
              have hltz : ¬ (10 : Int) < 10 := by omega
              have hfin : outs = groupsN (roundsN l0 l0.length (upI 0 10)) there := by
                have := HOG.out
                rw [← HFL.out, ← this]
                unfold groupsP upI
                simp
              have HFIN := Aside0.mk hfin
              clear hfin
              go_wp2
              go_ret
              refine ⟨_, rfl, ?_, HBL.out⟩
              rw [← HFIN.out]
              exact Kd.S_mono HOS.out (fun _ _ => trivial)

end Go.Proofs.Ytfkohligcikfbaa.P
