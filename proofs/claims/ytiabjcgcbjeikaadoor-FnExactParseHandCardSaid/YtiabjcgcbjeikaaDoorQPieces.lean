/- Plain lists and numbers: what the program's functions and the reference's compute. -/
import Derived.Test.YtiabjcgcbjeikaaDoorPSg
import Derived.Test.YtiabjcgcbjeikaaDoorPstringsSplit
import Derived.Test.YtiabjcgcbjeikaaDoorQBaseP
import Derived.Lib.IndexLaws
namespace Go.Proofs.YtiabjcgcbjeikaaDoor.Q
open Go.RowKit Go.Proofs.YtiabjcgcbjeikaaDoor.P Go.Proofs.YtiabjcgcbjeikaaDoorW.PrintWords Go.Proofs.YtiabjcgcbjeikaaDoorW.PrintLast Go.Proofs.YtiabjcgcbjeikaaDoorW.PrintMore
set_option linter.unusedVariables false
set_option linter.unusedSimpArgs false

theorem bt_getP (s : ByteArray) (i : Nat) (h : i < s.size) : ∃ b : UInt8, s.data.toList[i]? = some b ∧ bt s (i : Int) = (b.toNat : Int) := by
  have hl : i < s.data.toList.length := by simpa using h
  refine ⟨s.data.toList[i], List.getElem?_eq_getElem hl, ?_⟩
  unfold bt
  rw [Int.toNat_natCast, dif_pos h]
  rfl
/-- What stands between the commas. -/
def piecesL : List UInt8 → List (List UInt8)
  | [] => [[]]
  | b :: l => if b = 44 then [] :: piecesL l else match piecesL l with
    | p :: ps => (b :: p) :: ps
    | [] => [[b]]
def preH (p : List UInt8) : List (List UInt8) → List (List UInt8)
  | q :: qs => (p ++ q) :: qs
  | [] => [p]
theorem piecesL_comma (l : List UInt8) : piecesL (44 :: l) = [] :: piecesL l := by rw [piecesL, if_pos rfl]
theorem piecesL_other (b : UInt8) (l : List UInt8) (h : b ≠ 44) : piecesL (b :: l) = preH [b] (piecesL l) := by
  rw [piecesL, if_neg h]
  cases piecesL l <;> rfl
theorem piecesL_ne (l : List UInt8) : piecesL l ≠ [] := by
  cases l with
  | nil => simp [piecesL]
  | cons b l =>
    by_cases h : b = 44
    · rw [h, piecesL_comma]; simp
    · rw [piecesL_other b l h]
      cases piecesL l <;> simp [preH]
theorem preH_pre (p : List UInt8) (b : UInt8) (R : List (List UInt8)) : preH (p ++ [b]) R = preH p (preH [b] R) := by
  cases R <;> simp [preH]
theorem preH_nil {R : List (List UInt8)} (h : R ≠ []) : preH [] R = R := by
  cases R with
  | nil => exact absurd rfl h
  | cons q qs => rfl
theorem split_pieces : ∀ l : List UInt8, Lib.splitK [44] 0 (l.count 44) l = piecesL l
  | [] => rfl
  | b :: l => by
    have ih := split_pieces l
    by_cases h : b = 44
    · subst h
      have hi : Lib.index (44 :: l) [44] = 0 := by rw [Lib.index_one]; simp [Lib.indexByte]
      rw [List.count_cons_self, piecesL_comma, Lib.splitK, hi, ← ih]
      simp
    · have hc : (b :: l).count 44 = l.count 44 := List.count_cons_of_ne h
      rw [hc, piecesL_other b l h, ← ih]
      cases hk : l.count 44 with
      | zero => rfl
      | succ k =>
        have hne : Lib.indexByte l 44 ≠ -1 := by
          intro e
          have hm : (44 : UInt8) ∈ l := List.count_pos_iff.1 (by omega)
          obtain ⟨j, hj⟩ := List.getElem?_of_mem hm
          exact Lib.indexByte_none e j hj
        have hge := Lib.indexByte_ge l 44
        obtain ⟨i, hi⟩ : ∃ i : Nat, Lib.indexByte l 44 = i := ⟨(Lib.indexByte l 44).toNat, by omega⟩
        have h1 : Lib.index l [44] = i := by rw [Lib.index_one, hi]
        have h2 : Lib.index (b :: l) [44] = ((i + 1 : Nat) : Int) := by
          rw [Lib.index_one, Lib.indexByte, hi]
          have hb : (b == 44) = false := beq_eq_false_iff_ne.2 h
          rw [hb]
          have : ((i : Int) == -1) = false := by rw [beq_eq_false_iff_ne]; omega
          rw [this]; simp
        rw [Lib.splitK, Lib.splitK, h1, h2]
        have e1 : (((i + 1 : Nat) : Int) == -1) = false := by rw [beq_eq_false_iff_ne]; omega
        have e2 : ((i : Int) == -1) = false := by rw [beq_eq_false_iff_ne]; omega
        rw [e1, e2]
        simp [preH]
def toBA (l : List UInt8) : ByteArray := ⟨l.toArray⟩
theorem toBA_data (s : ByteArray) : toBA s.data.toList = s := by cases s; rfl
theorem map_toBA : ∀ R : List ByteArray, (R.map (·.data.toList)).map toBA = R
  | [] => rfl
  | s :: R => by rw [List.map_cons, List.map_cons, map_toBA R, toBA_data]
/-- The pieces of a text. -/
def partsB (s : ByteArray) : List ByteArray := (piecesL s.data.toList).map toBA
theorem split_val (s : ByteArray) (h : s.size ≤ 1048576) : strings_Split.f s (⟨#[44]⟩ : ByteArray) = some (partsB s) := by
  unfold strings_Split.f
  rw [if_pos ⟨rfl, h⟩]
  congr 1
  rw [← map_toBA (Lib.splitB _ _ _ _), Lib.splitB_data]
  unfold partsB
  congr 1
  have hc : Lib.countB s ⟨#[44]⟩ = s.data.toList.count 44 := by
    show Lib.count s.data.toList [44] = _
    rw [Lib.count_one]
  rw [hc]
  exact split_pieces _
theorem pieces_sum : ∀ l : List UInt8, ((piecesL l).map List.length).sum + (piecesL l).length = l.length + 1
  | [] => rfl
  | b :: l => by
    have ih := pieces_sum l
    by_cases h : b = 44
    · rw [h, piecesL_comma]; simp; omega
    · rw [piecesL_other b l h]
      cases hp : piecesL l with
      | nil => exact absurd hp (piecesL_ne l)
      | cons q qs => rw [hp] at ih; simp [preH] at ih ⊢; omega
theorem pieces_le (l : List UInt8) : (piecesL l).length ≤ l.length + 1 := by have := pieces_sum l; omega
theorem ext_BA (s : ByteArray) (a b : Nat) : s.extract a b = toBA ((s.data.toList.drop a).take (b - a)) := by
  rw [← toBA_data (s.extract a b)]
  congr 1
  exact Lib.extract_data s a b
theorem l1Split_loop (s : ByteArray) (hs : s.size ≤ 1000000000) : ∀ (d a i : Nat) (acc : List ByteArray), i + d = s.size → a ≤ i → acc.length ≤ i → Ev (fun k => spec_l1Split.l0 k s 44 acc (a : Int) (i : Int)) (acc ++ (preH ((s.data.toList.drop a).take (i - a)) (piecesL (s.data.toList.drop i))).map toBA) := by
  have hsz : s.data.toList.length = s.size := rfl
  intro d
  induction d with
  | zero =>
    intro a i acc hi ha hacc
    refine Ev.step (f := fun _ => some (acc ++ [s.extract a s.size])) (fun k => ?_) (ev_const fun k => ?_)
    · simp only [spec_l1Split.l0]
      rw [if_neg (by omega), if_pos (by omega), if_pos (by omega), if_pos (by omega), Int.toNat_natCast]
    · rw [show s.data.toList.drop i = [] from List.drop_of_length_le (by omega), ext_BA, show s.size = i by omega]
      simp [piecesL, preH]
  | succ d ih =>
    intro a i acc hi ha hacc
    have hlt : i < s.size := by omega
    obtain ⟨b, hb, hbt⟩ := bt_getP s i hlt
    have hd : s.data.toList.drop i = b :: s.data.toList.drop (i + 1) := by
      have hl : i < s.data.toList.length := by omega
      rw [List.drop_eq_getElem_cons hl]
      rw [List.getElem?_eq_getElem hl] at hb
      cases hb; rfl
    rw [hd]
    by_cases c : b = 44
    · have h44 : bt s (i : Int) = 44 := by rw [hbt, c]; rfl
      have := ih (i + 1) (i + 1) (acc ++ [s.extract a i]) (by omega) (by omega) (by simp; omega)
      rw [List.append_assoc] at this
      rw [c, piecesL_comma]
      have e : ([s.extract a i] ++ (preH ((s.data.toList.drop (i + 1)).take (i + 1 - (i + 1))) (piecesL (s.data.toList.drop (i + 1)))).map toBA) = (preH ((s.data.toList.drop a).take (i - a)) ([] :: piecesL (s.data.toList.drop (i + 1)))).map toBA := by
        rw [Nat.sub_self, List.take_zero, preH_nil (piecesL_ne _), ext_BA]
        simp [preH]
      rw [e] at this
      refine Ev.step (fun k => ?_) this
      simp only [spec_l1Split.l0]
      rw [if_pos (by omega), if_pos (by omega), if_pos h44, if_pos (by omega), if_pos (by omega), if_pos (by omega), if_pos (by omega), wrap_succ (by omega), Int.toNat_natCast, Int.toNat_natCast]
    · have h44 : ¬ bt s (i : Int) = 44 := by
        rw [hbt]
        intro e
        have : b.toNat = 44 := by omega
        exact c (UInt8.toNat_inj.1 this)
      have := ih a (i + 1) acc (by omega) (by omega) (by omega)
      rw [piecesL_other b _ c]
      have e : (s.data.toList.drop a).take (i + 1 - a) = (s.data.toList.drop a).take (i - a) ++ [b] := by
        rw [show i + 1 - a = (i - a) + 1 by omega, List.take_add_one, List.getElem?_drop, show a + (i - a) = i by omega, hb]; rfl
      rw [e, preH_pre] at this
      refine Ev.step (fun k => ?_) this
      simp only [spec_l1Split.l0]
      rw [if_pos (by omega), if_pos (by omega), if_neg h44, wrap_succ (by omega)]
theorem l1Split_ev (s : ByteArray) (hs : s.size ≤ 1000000000) : Ev (fun k => spec_l1Split.f k s 44) (partsB s) := by
  have := l1Split_loop s hs s.size 0 0 [] (by omega) (by omega) (by simp)
  rw [List.nil_append, List.drop_zero, Nat.sub_self, List.take_zero, preH_nil (piecesL_ne _)] at this
  exact this

end Go.Proofs.YtiabjcgcbjeikaaDoor.Q
