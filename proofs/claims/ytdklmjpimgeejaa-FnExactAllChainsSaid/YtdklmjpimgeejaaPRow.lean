/- What the rows of this seat share: the program's head is read word by word. -/
import Derived.Test.YtdklmjpimgeejaaRows
import Derived.JoinedOf
namespace Go.Proofs.Ytdklmjpimgeejaa
theorem wordsSigns_ne : ∀ a : List Char, wordsSigns a ≠ []
  | [] => by simp [wordsSigns]
  | c :: a => by
    by_cases h : c = (Char.ofNat 32)
    · subst h; simp [wordsSigns]
    · rw [wordsSigns.eq_3 _ _ (fun e => h e)]; split <;> simp
theorem wordsSigns_append (b : List Char) : ∀ a : List Char, wordsSigns (a ++ (Char.ofNat 32) :: b) = wordsSigns a ++ wordsSigns b
  | [] => rfl
  | c :: a => by
    have ih := wordsSigns_append b a
    by_cases h : c = (Char.ofNat 32)
    · subst h
      show [] :: wordsSigns (a ++ (Char.ofNat 32) :: b) = [] :: wordsSigns a ++ wordsSigns b
      rw [ih]; rfl
    · rw [List.cons_append, wordsSigns.eq_3 _ _ (fun e => h e), wordsSigns.eq_3 _ _ (fun e => h e), ih]
      cases hw : wordsSigns a with
      | nil => exact absurd hw (wordsSigns_ne a)
      | cons w ws => rfl
/-- A head's first words, whatever follows. -/
theorem head_words {s : List Char} (n : Nat) (w1 w2 : List Char) (h : s[n]? = some (Char.ofNat 32)) (h0 : wordsSigns (s.take n) = [w1, w2, "cut".toList]) (h1 : ((w1 == "harness".toList || w1 == "ownmain".toList) && isSumSigns w2) = true) :
    ∃ X, behindMainWord (wordsSigns s) = "cut".toList :: X := by
  have e : s = s.take n ++ (Char.ofNat 32) :: s.drop (n + 1) := by
    obtain ⟨hn, he⟩ := List.getElem?_eq_some_iff.1 h
    rw [← he, ← List.drop_eq_getElem_cons hn, List.take_append_drop]
  rw [e, wordsSigns_append, h0]
  refine ⟨wordsSigns (s.drop (n + 1)), ?_⟩
  unfold behindMainWord
  simp only [List.cons_append, List.nil_append]
  rw [if_pos h1]
theorem liftsFinal_of (P : Program) (X : List (List Char)) (h : behindMainWord (wordsSigns P.initOrder.toList) = "cut".toList :: X) : (false == P.liftsFinal) = true := by
  have e : stripLifts liftWords ("cut".toList :: X) = ([], "cut".toList :: X) := by kernel_rfl
  unfold Program.liftsFinal Program.headLifts
  simp only [h, e, List.head?_cons, ite_self]
  rfl
theorem make_of (P : Program) (X : List (List Char)) (h : behindMainWord (wordsSigns P.initOrder.toList) = "cut".toList :: X) : P.make = some Make.cut := by
  unfold Program.make
  rw [h]
  show (if ("cut".toList == "gc".toList || "cut".toList == "spec".toList) = true then _ else _) = _
  rw [if_neg (by decide)]
  show (if ("cut".toList == "cut".toList || _) = true then _ else _) = _
  rw [show ("cut".toList == "cut".toList) = true from by decide, Bool.true_or, if_pos rfl]
theorem may_of (P : Program) (X : List (List Char)) (h : behindMainWord (wordsSigns P.initOrder.toList) = "cut".toList :: X) (h1 : P.laysLater = false) (h2 : P.bearsReflect = false) (h3 : P.doorFits [] = true) : P.mayEnter = true := by
  unfold Program.mayEnter
  rw [h]
  have e : stripLifts liftWords ("cut".toList :: X) = ([], "cut".toList :: X) := by kernel_rfl
  simp only [e, h1, h2, h3]
  simp
def headNums : List Nat := [104, 97, 114, 110, 101, 115, 115, 32, 51, 50, 48, 57, 52, 50, 101, 97, 54, 50, 57, 102, 54, 101, 53, 53, 97, 102, 52, 99, 101, 49, 102, 56, 48, 99, 54, 100, 101, 97, 51, 100, 102, 97, 49, 51, 48, 48, 102, 97, 98, 48, 98, 56, 50, 102, 52, 102, 98, 99, 51, 49, 49, 97, 100, 53, 50, 51, 50, 51, 100, 49, 52, 102, 32, 99, 117, 116, 32, 97, 116, 32, 108, 111, 111, 112, 46, 101, 120, 97, 109, 112, 108, 101, 47, 103, 48, 49, 50, 49, 54, 47, 108, 97, 119, 115, 46, 70, 110, 69, 120, 97, 99, 116, 65, 108, 108, 67, 104, 97, 105, 110, 115, 32, 108, 111, 111, 112, 46, 101, 120, 97, 109, 112, 108, 101, 47, 103, 48, 49, 50, 49, 54, 47, 108, 97, 119, 115, 46, 70, 110, 69, 120, 97, 99, 116, 67, 111, 117, 110, 116, 66, 121, 84, 105, 108, 101, 115, 32, 108, 111, 111, 112, 46, 101, 120, 97, 109, 112, 108, 101, 47, 103, 48, 49, 50, 49, 54, 47, 108, 97, 119, 115, 46, 70, 110, 69, 120, 97, 99, 116, 76, 111, 110, 103, 101, 115, 116, 67, 104, 97, 105, 110]
theorem rowIni : Try.pinned.checked.prog.initOrder = String.ofList (headNums.map Char.ofNat) := by kernel_rfl
theorem rowWords : ∃ X, behindMainWord (wordsSigns Try.pinned.checked.prog.initOrder.toList) = "cut".toList :: X := by
  rw [rowIni, String.toList_ofList]
  exact head_words 76 "harness".toList "320942ea629f6e55af4ce1f80c6dea3dfa1300fab0b82f4fbc311ad52323d14f".toList (by kernel_rfl) (by kernel_rfl) (by kernel_rfl)
theorem rowLays : Try.pinned.checked.prog.laysLater = false := by kernel_rfl
theorem rowReflect : Try.pinned.checked.prog.bearsReflect = false := by kernel_rfl
theorem rowDoor : Try.pinned.checked.prog.doorFits [] = true := by kernel_rfl
theorem rowMay : Try.pinned.checked.prog.mayEnter = true := by
  obtain ⟨X, h⟩ := rowWords
  exact may_of _ X h rowLays rowReflect rowDoor
theorem rowLifts : (false == Try.pinned.checked.prog.liftsFinal) = true := by
  obtain ⟨X, h⟩ := rowWords
  exact liftsFinal_of _ X h
theorem rowMake : (Try.pinned.checked.prog.make == some Make.cut) = true := by
  obtain ⟨X, h⟩ := rowWords
  rw [make_of _ X h]
  rfl
end Go.Proofs.Ytdklmjpimgeejaa
