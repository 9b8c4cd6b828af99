/- What the rows of this seat share: the program's head is read word by word. -/
import Derived.Test.YtiabjcgcbjeikaaDoorRows
import Derived.JoinedOf
namespace Go.Proofs.YtiabjcgcbjeikaaDoor
theorem wordsSigns_ne : ∀ a : List Char, wordsSigns a ≠ []
  | [] => by simp [wordsSigns]
  | c :: a => by
    by_cases h : c = (Char.ofNat 32)
    · subst h; simp [wordsSigns]
    · rw [wordsSigns.eq_3 _ _ (fun e => h e)]; split <;> simp
theorem wordsSigns_append (b : List Char) : ∀ a : List Char, wordsSigns (a ++ (Char.ofNat 32) :: b) = wordsSigns a ++ wordsSigns b
  | [] => rfl
  | c :: a => by
    have ih := wordsSigns_append b a
    by_cases h : c = (Char.ofNat 32)
    · subst h
      show [] :: wordsSigns (a ++ (Char.ofNat 32) :: b) = [] :: wordsSigns a ++ wordsSigns b
      rw [ih]; rfl
    · rw [List.cons_append, wordsSigns.eq_3 _ _ (fun e => h e), wordsSigns.eq_3 _ _ (fun e => h e), ih]
      cases hw : wordsSigns a with
      | nil => exact absurd hw (wordsSigns_ne a)
      | cons w ws => rfl
/-- A head's first words, whatever follows. -/
theorem head_words {s : List Char} (n : Nat) (w1 w2 : List Char) (h : s[n]? = some (Char.ofNat 32)) (h0 : wordsSigns (s.take n) = [w1, w2, "cut".toList]) (h1 : ((w1 == "harness".toList || w1 == "ownmain".toList) && isSumSigns w2) = true) :
    ∃ X, behindMainWord (wordsSigns s) = "cut".toList :: X := by
  have e : s = s.take n ++ (Char.ofNat 32) :: s.drop (n + 1) := by
    obtain ⟨hn, he⟩ := List.getElem?_eq_some_iff.1 h
    rw [← he, ← List.drop_eq_getElem_cons hn, List.take_append_drop]
  rw [e, wordsSigns_append, h0]
  refine ⟨wordsSigns (s.drop (n + 1)), ?_⟩
  unfold behindMainWord
  simp only [List.cons_append, List.nil_append]
  rw [if_pos h1]
theorem liftsFinal_of (P : Program) (X : List (List Char)) (h : behindMainWord (wordsSigns P.initOrder.toList) = "cut".toList :: X) : (false == P.liftsFinal) = true := by
  have e : stripLifts liftWords ("cut".toList :: X) = ([], "cut".toList :: X) := by kernel_rfl
  unfold Program.liftsFinal Program.headLifts
  simp only [h, e, List.head?_cons, ite_self]
  rfl
theorem make_of (P : Program) (X : List (List Char)) (h : behindMainWord (wordsSigns P.initOrder.toList) = "cut".toList :: X) : P.make = some Make.cut := by
  unfold Program.make
  rw [h]
  show (if ("cut".toList == "gc".toList || "cut".toList == "spec".toList) = true then _ else _) = _
  rw [if_neg (by decide)]
  show (if ("cut".toList == "cut".toList || _) = true then _ else _) = _
  rw [show ("cut".toList == "cut".toList) = true from by decide, Bool.true_or, if_pos rfl]
theorem may_of (P : Program) (X : List (List Char)) (h : behindMainWord (wordsSigns P.initOrder.toList) = "cut".toList :: X) (h1 : P.laysLater = false) (h2 : P.bearsReflect = false) (h3 : P.doorFits [] = true) : P.mayEnter = true := by
  unfold Program.mayEnter
  rw [h]
  have e : stripLifts liftWords ("cut".toList :: X) = ([], "cut".toList :: X) := by kernel_rfl
  simp only [e, h1, h2, h3]
  simp
def headNums : List Nat := [104, 97, 114, 110, 101, 115, 115, 32, 98, 54, 56, 48, 98, 97, 52, 51, 97, 56, 102, 53, 55, 49, 49, 100, 54, 54, 99, 48, 100, 102, 99, 101, 97, 98, 101, 101, 50, 48, 101, 56, 97, 52, 99, 56, 51, 97, 98, 101, 99, 57, 55, 97, 102, 49, 55, 98, 55, 97, 98, 98, 101, 53, 52, 100, 55, 55, 48, 57, 54, 55, 53, 48, 32, 99, 117, 116, 32, 97, 116, 32, 108, 111, 111, 112, 46, 101, 120, 97, 109, 112, 108, 101, 47, 103, 48, 49, 50, 49, 54, 47, 108, 97, 119, 115, 46, 70, 110, 69, 120, 97, 99, 116, 80, 97, 114, 115, 101, 72, 97, 110, 100]
theorem rowIni : Tryd.pinned.checked.prog.initOrder = String.ofList (headNums.map Char.ofNat) := by kernel_rfl
theorem rowWords : ∃ X, behindMainWord (wordsSigns Tryd.pinned.checked.prog.initOrder.toList) = "cut".toList :: X := by
  rw [rowIni, String.toList_ofList]
  exact head_words 76 "harness".toList "b680ba43a8f5711d66c0dfceabee20e8a4c83abec97af17b7abbe54d77096750".toList (by kernel_rfl) (by kernel_rfl) (by kernel_rfl)
theorem rowLays : Tryd.pinned.checked.prog.laysLater = false := by kernel_rfl
theorem rowReflect : Tryd.pinned.checked.prog.bearsReflect = false := by kernel_rfl
theorem rowDoor : Tryd.pinned.checked.prog.doorFits [] = true := by kernel_rfl
theorem rowMay : Tryd.pinned.checked.prog.mayEnter = true := by
  obtain ⟨X, h⟩ := rowWords
  exact may_of _ X h rowLays rowReflect rowDoor
theorem rowLifts : (false == Tryd.pinned.checked.prog.liftsFinal) = true := by
  obtain ⟨X, h⟩ := rowWords
  exact liftsFinal_of _ X h
theorem rowMake : (Tryd.pinned.checked.prog.make == some Make.cut) = true := by
  obtain ⟨X, h⟩ := rowWords
  rw [make_of _ X h]
  rfl
end Go.Proofs.YtiabjcgcbjeikaaDoor
