/- Plain lists and numbers: what the program's functions and the reference's compute. -/
import Derived.Test.YtepccigcdbimaaaP0
import Derived.Test.YtepccigcdbimaaaPFHandText
import Derived.Test.YtepccigcdbimaaaPIb
import Derived.Test.YtepccigcdbimaaaPIe
import Derived.Test.YtepccigcdbimaaaPSe
import Derived.Test.YtepccigcdbimaaaPspectiText
import Derived.Test.YtepccigcdbimaaaPstringsJoin
import Derived.Test.YtepccigcdbimaaaQHand
import Derived.Test.YtepccigcdbimaaaQScaf
import Derived.Test.YtepccigcdbimaaaQScaf2
namespace Go.Proofs.Ytepccigcdbimaaa.Q
open Go.RowKit Go.Proofs.Ytepccigcdbimaaa.P Go.Proofs.YtepccigcdbimaaaW.PrintWords Go.Proofs.YtepccigcdbimaaaW.PrintLast Go.Proofs.YtepccigcdbimaaaW.PrintMore
set_option linter.unusedVariables false
set_option linter.unusedSimpArgs false

/-- The two digits of a tile. -/
def digT (t : S59) : List Int := [48 + t.f0, 48 + t.f1]
/-- The text of tiles, commas between. -/
def txtT : List S59 → List Int
  | [] => []
  | [t] => digT t
  | t :: u :: r => digT t ++ 44 :: txtT (u :: r)
theorem txtT_snoc : ∀ (l : List S59) (t : S59), l ≠ [] → txtT (l ++ [t]) = txtT l ++ (44 :: digT t)
  | [x], t, _ => by simp [txtT]
  | x :: y :: r, t, _ => by
    have := txtT_snoc (y :: r) t (by simp)
    simp only [List.cons_append, txtT] at this ⊢
    rw [this]
    simp
theorem txtT_length (l : List S59) : (txtT l).length ≤ 3 * l.length := by
  induction l with
  | nil => simp [txtT]
  | cons t l ih =>
    cases l with
    | nil => simp [txtT, digT]
    | cons u r =>
      rw [txtT, List.length_append, List.length_cons]
      rw [List.length_cons] at ih ⊢
      simp only [digT, List.length_cons, List.length_nil] at ih ⊢
      omega
theorem strT_append (a b : List Int) : strOfNums (a ++ b) = strOfNums a ++ strOfNums b := by
  unfold strOfNums
  apply ByteArray.ext
  rw [ByteArray.data_append]
  simp
theorem strT_size (a : List Int) : (strOfNums a).size = a.length := by
  unfold strOfNums
  show (Array.size _) = _
  simp
theorem num_digit (x : Int) (h0 : 0 ≤ x) (h9 : x ≤ 9) : Ev (fun k => spec_l1Num.f k x) (strOfNums [48 + x]) := ⟨1, fun k hk => by
  obtain ⟨k, rfl⟩ : ∃ m, k = m + 1 := ⟨k - 1, by omega⟩
  simp only [spec_l1Num.f]
  rw [if_pos (by omega), wrap_eq (by omega) (by omega), show (48 + x) % 256 = 48 + x by omega]⟩
theorem comma_str : (⟨#[44]⟩ : ByteArray) = strOfNums [44] := by rfl
theorem tiText_loop (l : List S59) (hg : ∀ x ∈ l, goodT x = true) (hl : l.length ≤ 55) : ∀ d i (acc : ByteArray), i + d = l.length → acc = strOfNums (txtT (l.take i)) → Ev (fun k => spec_tiText.l0 k acc l (l.length : Int) (i : Int)) (strOfNums (txtT l)) := by
  intro d
  induction d with
  | zero =>
    intro i acc h ha
    refine ⟨1, fun k hk => ?_⟩
    obtain ⟨k, rfl⟩ : ∃ m, k = m + 1 := ⟨k - 1, by omega⟩
    simp only [spec_tiText.l0]
    rw [if_neg (by omega), ha, List.take_of_length_le (by omega)]
  | succ d ih =>
    intro i acc h ha
    have hi : i < l.length := by omega
    obtain ⟨x, hx⟩ : ∃ x, l[i]? = some x := ⟨_, List.getElem?_eq_getElem hi⟩
    have hgx := hg x (List.mem_of_getElem? hx)
    rw [goodT_iff] at hgx
    have n0 := num_digit x.f0 (by omega) (by omega)
    have n1 := num_digit x.f1 (by omega) (by omega)
    have hts := take_snoc l i x hx
    have hsz : acc.size ≤ 165 := by
      rw [ha, strT_size]
      have := txtT_length (l.take i)
      rw [List.length_take] at this
      omega
    have hd : strOfNums [48 + x.f0] ++ strOfNums [48 + x.f1] = strOfNums (digT x) := by rw [← strT_append]; rfl
    have hds : (strOfNums (digT x)).size = 2 := by rw [strT_size]; rfl
    have s0 : (strOfNums [48 + x.f0]).size = 1 := by rw [strT_size]; rfl
    have s1 : (strOfNums [48 + x.f1]).size = 1 := by rw [strT_size]; rfl
    by_cases h0 : i = 0
    · subst h0
      have := ih 1 (acc ++ strOfNums (digT x)) (by omega) (by
        rw [ha, ← strT_append, hts]
        simp [txtT])
      refine Ev.step (f := fun k => (spec_l1Num.f k x.f0).bind fun a => (spec_l1Num.f k x.f1).bind fun b => if a.size + b.size ≤ 9223372036854775807 then (if acc.size + (a ++ b).size ≤ 9223372036854775807 then spec_tiText.l0 k (acc ++ (a ++ b)) l (l.length : Int) ((0 + 1 : Nat) : Int) else none) else none) (fun k => ?_) (Ev.bind n0 (Ev.bind n1 (Ev.congr (fun k => by rw [s0, s1, if_pos (by omega), hd, hds, if_pos (by omega)]) this)))
      simp only [spec_tiText.l0]
      rw [if_pos (by omega), if_pos (by omega), if_pos (by omega), if_neg (by omega), rdT_nat l 0 x hx, wrap_succ (by omega)]
    · have hne : l.take i ≠ [] := by
        intro e
        have := congrArg List.length e
        rw [List.length_take, List.length_nil] at this
        omega
      have := ih (i + 1) (acc ++ (⟨#[44]⟩ : ByteArray) ++ strOfNums (digT x)) (by omega) (by
        rw [ha, comma_str, ← strT_append, ← strT_append, hts, txtT_snoc _ _ hne]
        simp)
      have hcs : (acc ++ (⟨#[44]⟩ : ByteArray)).size = acc.size + 1 := by rw [ByteArray.size_append]; rfl
      refine Ev.step (f := fun k => (spec_l1Num.f k x.f0).bind fun a => (spec_l1Num.f k x.f1).bind fun b => if a.size + b.size ≤ 9223372036854775807 then (if (acc ++ (⟨#[44]⟩ : ByteArray)).size + (a ++ b).size ≤ 9223372036854775807 then spec_tiText.l0 k (acc ++ (⟨#[44]⟩ : ByteArray) ++ (a ++ b)) l (l.length : Int) ((i + 1 : Nat) : Int) else none) else none) (fun k => ?_) (Ev.bind n0 (Ev.bind n1 (Ev.congr (fun k => by rw [s0, s1, if_pos (by omega), hd, hds, hcs, if_pos (by omega)]) this)))
      simp only [spec_tiText.l0]
      rw [if_pos (by omega), if_pos (by omega), if_pos (by omega), if_pos (by omega), if_pos (by omega), rdT_nat l i x hx, wrap_succ (by omega)]
def strT (t : S59) : ByteArray := strOfNums (digT t)
theorem byteL_str (a : List Int) : (strOfNums a).data.toList = a.map fun x => UInt8.ofNat x.toNat := by
  unfold strOfNums
  simp
theorem join_txt : ∀ l : List S59, joinB (l.map strT) ⟨#[44]⟩ = (txtT l).map fun x => UInt8.ofNat x.toNat
  | [] => rfl
  | [t] => by
    unfold joinB
    rw [List.map_cons, List.map_cons, List.map_nil, List.map_nil, Lib.join_one]
    exact byteL_str _
  | t :: u :: r => by
    have ih := join_txt (u :: r)
    unfold joinB at ih ⊢
    have e : ∀ f : Int → UInt8, List.map f (44 :: txtT (u :: r)) = f 44 :: List.map f (txtT (u :: r)) := fun _ => rfl
    rw [txtT, List.map_append, e, ← ih]
    simp only [List.map_cons]
    rw [Lib.join_cons, show (strT t).data.toList = (digT t).map fun x => UInt8.ofNat x.toNat from byteL_str _, Lib.join_cons]
    simp [Lib.joinTail]
theorem digits_some (x : S59) (h : goodT x = true) : impl_Tile_digits.f x.f0 x.f1 = some (strT x) := by
  rw [goodT_iff] at h
  unfold impl_Tile_digits.f strT digT
  rw [wrap_eq (by omega) (by omega), wrap_eq (by omega) (by omega), show (48 + x.f0) % 256 = 48 + x.f0 by omega, show (48 + x.f1) % 256 = 48 + x.f1 by omega]
theorem handText_loop (l : List S59) (hg : ∀ x ∈ l, goodT x = true) (hl : l.length ≤ 55) : ∀ d i (acc : List ByteArray), i + d = l.length → acc = (l.take i).map strT → Ev (fun k => impl_handText.l0 k acc l (l.length : Int) (i : Int)) (strOfNums (txtT l)) := by
  intro d
  induction d with
  | zero =>
    intro i acc h ha
    rw [List.take_of_length_le (by omega)] at ha
    subst ha
    refine ⟨1, fun k hk => ?_⟩
    obtain ⟨k, rfl⟩ : ∃ m, k = m + 1 := ⟨k - 1, by omega⟩
    simp only [impl_handText.l0]
    have hj := join_txt l
    have hlen := txtT_length l
    rw [if_neg (by omega)]
    unfold strings_Join.f
    rw [hj, if_pos ⟨by simp; omega, by simp; omega⟩, Option.bind_some]
    unfold strOfNums
    congr 1
  | succ d ih =>
    intro i acc h ha
    have hi : i < l.length := by omega
    obtain ⟨x, hx⟩ : ∃ x, l[i]? = some x := ⟨_, List.getElem?_eq_getElem hi⟩
    have hgx := hg x (List.mem_of_getElem? hx)
    have hts := take_snoc l i x hx
    have hal : acc.length = i := by rw [ha]; simp; omega
    have := ih (i + 1) (acc ++ [strT x]) (by omega) (by rw [ha, hts, List.map_append]; rfl)
    refine Ev.step (fun k => ?_) this
    simp only [impl_handText.l0]
    rw [if_pos (by omega), if_pos (by omega), if_pos (by omega), rdT_nat l i x hx, digits_some x hgx, Option.bind_some, if_pos (by omega), wrap_succ (by omega)]
theorem HandText_same (l : List S59) : ∃ r, Ev (fun k => spec_HandText.f k l) r ∧ Ev (fun k => impl_HandText.f k l) r := by
  have h1 := tiHand_ev l
  have h2 := IsHand_ev l
  cases hc : handB l with
  | false =>
    rw [hc] at h1 h2
    exact ⟨_, bind_false h1 (Ev.now _), bind_false h2 (Ev.now _)⟩
  | true =>
    rw [hc] at h1 h2
    have na := handB_len hc
    by_cases h0 : l.length = 0
    · refine ⟨(⟨#[45]⟩, true), bind_true h1 (ev_const fun k => ?_), bind_true h2 (ev_const fun k => ?_)⟩
      · unfold spec_tiText.f
        rw [if_pos (by omega)]; rfl
      · unfold impl_handText.f
        rw [if_pos (by omega)]; rfl
    · have t1 := tiText_loop l (handB_good hc) na l.length 0 (⟨#[]⟩ : ByteArray) (by omega) rfl
      have t2 := handText_loop l (handB_good hc) na l.length 0 [] (by omega) rfl
      refine ⟨(strOfNums (txtT l), true), bind_true h1 (Ev.bind (g := fun k => spec_tiText.f k l) ?_ (Ev.now _)), bind_true h2 (Ev.bind (g := fun k => impl_handText.f k l) ?_ (Ev.now _))⟩
      · exact Ev.congr (fun k => by unfold spec_tiText.f; rw [if_neg (by omega)]; rfl) t1
      · exact Ev.congr (fun k => by unfold impl_handText.f; rw [if_neg (by omega)]; rfl) t2

end Go.Proofs.Ytepccigcdbimaaa.Q
