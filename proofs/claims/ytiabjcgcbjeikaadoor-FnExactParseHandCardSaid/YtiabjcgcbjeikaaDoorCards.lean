/-
  DERIVED. GIVEN WITH THE SEED: THE CARDS: each row of YtiabjcgcbjeikaaDoorRows.lean that lists a variable, with what it lists TIED to the program's text (the seventh form; the later family's looks); each row that meets fmt, with fmt's text TOLD by the authors' own Lean function (tested against real Go, not proved from fmt's source: count such statements apart). THE CARD IS WHAT COUNTS. Prove the row's statement (the work); the ties are given (YtiabjcgcbjeikaaDoorTie.lean); close each card by the builder's one call (the guide's Derived/Test/ToyasCard.lean, 'card_holds'). Laid BY PROGRAM, IN A SANDBOX (cutbox-door.mjs). By AI agents, Wed Nov 11 2026. No macro, syntax, notation, axiom, sorry.
-/
import Derived.Test.YtiabjcgcbjeikaaDoorRows
import GoSem.ClaimSeven
namespace Go.Proofs.YtiabjcgcbjeikaaDoor
namespace Rows

/-- THE TIED CARD OF 'laws.FnExactParseHand'. -/
def fnExactParseHandCard : Claim7 := { stood := { row := fnExactParseHandRow, standIns := [], harness := (true, "b680ba43a8f5711d66c0dfceabee20e8a4c83abec97af17b7abbe54d77096750"), looks := false }, kinds := [], alts := [], laidByText := true, laidKinds := [.data, .pinned], laidTests := true, laidLooks := .later }
def FnExactParseHandCardSaid : Prop := Claim7.holds Tryd.pinned (.plain (OpenSpec.ofChange fnExactParseHandSpec)) fnExactParseHandCard

/-- THE SECOND FORM's CARD OF 'laws.FnExactParseHand'. -/
def fnExactParseHandUptoCard : Claim7 := { stood := { row := fnExactParseHandUptoRow, standIns := [], harness := (true, "b680ba43a8f5711d66c0dfceabee20e8a4c83abec97af17b7abbe54d77096750"), looks := false }, kinds := [], alts := [], laidByText := true, laidKinds := [.data, .pinned], laidTests := true, laidLooks := .later }
def FnExactParseHandUptoCardSaid : Prop := Claim7.holds Tryd.pinned (.plain (OpenSpec.upto fnExactParseHandSpec)) fnExactParseHandUptoCard
end Rows
end Go.Proofs.YtiabjcgcbjeikaaDoor
