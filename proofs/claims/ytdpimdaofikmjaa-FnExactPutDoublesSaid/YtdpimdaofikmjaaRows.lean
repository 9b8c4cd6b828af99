/-
  No cell of these rows narrows 'for every input' (looked for: loops, veiled, ifaces, maps, wideKeys, modest, calm, conditions, laid).
  DERIVED. THE GIVEN ROWS OF THIS SEAT. 17 by the template 'for every input the law returns true; each argument reads behind the call as it read before'; 0 by the template 'total and deterministic' (their statements: YtdpimdaofikmjaaTotals.lean).
  GIVEN WITH THE SEED: the statements are not yours to turn. If you find one false, say at which input.
  Laid BY PROGRAM, IN A SANDBOX (cutbox-rows.mjs): the forced cells as the released guide's own fill.sh prints them over the translation 44a7b48f1db2af38… (all of the seat's roots in one cut). By AI agents, Wed Nov 11 2026. No macro, syntax, notation, axiom, sorry.
-/
import Derived.Test.YtdpimdaofikmjaaChecked
import GoSem.Claim
import GoSem.ClaimJoined
import GoSem.ClaimMapViews
import Derived.JoinedTies
import Derived.KernelRfl
namespace Go.Proofs.Ytdpimdaofikmjaa
/- THE CELL 'sum', in the pinned program and in every row, IS THE sha256 OF THE DUMP (.gsa) THAT YtdpimdaofikmjaaProg.lean LOADS. Nothing in Lean hashes anything: it is a label: what it is worth is what the hold of that sum in a sandbox is worth. -/
noncomputable def Try.pinned : Pinned := { name := "ytdpimdaofikmjaa", sum := "44a7b48f1db2af38da9f6b96acb92013f1305808817076e611a9a133885a0279", checked := Try.checked }
namespace Rows
def none {H : Type} : Left H := { results := [], args := [] }

/-- 'laws.FnExactCountWithoutDoubles': WHATEVER THE INPUT: true; the input reads as it did. -/
def fnExactCountWithoutDoublesSpec : ChangeSpec := { name := "fnExactCountWithoutDoubles", fn := fun _ => fun
  | [d] => { results := [.lit (.bool true)], args := [d] }
  | _ => none }
def fnExactCountWithoutDoublesRow : OpenClaim := { program := "ytdpimdaofikmjaa", sum := "44a7b48f1db2af38da9f6b96acb92013f1305808817076e611a9a133885a0279", func := "loop.example/g01216/laws.FnExactCountWithoutDoubles", spec := "fnExactCountWithoutDoubles", unfollowed := true, recurses := true, apart := false }
def FnExactCountWithoutDoublesSaid : Prop := fnExactCountWithoutDoublesRow.holds Try.pinned (OpenSpec.ofChange fnExactCountWithoutDoublesSpec)

/-- ITS FALSE NEIGHBOUR: 'it returns false'. Refute it at one input. -/
def fnExactCountWithoutDoublesWrong : ChangeSpec := { name := "fnExactCountWithoutDoubles", fn := fun _ => fun
  | [d] => { results := [.lit (.bool false)], args := [d] }
  | _ => none }
def FnExactCountWithoutDoublesWrongFalsely : Prop := fnExactCountWithoutDoublesRow.holds Try.pinned (OpenSpec.ofChange fnExactCountWithoutDoublesWrong)

/-- 'laws.FnExactCountWhole': WHATEVER THE INPUT: true; the input reads as it did. -/
def fnExactCountWholeSpec : ChangeSpec := { name := "fnExactCountWhole", fn := fun _ => fun
  | [d] => { results := [.lit (.bool true)], args := [d] }
  | _ => none }
def fnExactCountWholeRow : OpenClaim := { program := "ytdpimdaofikmjaa", sum := "44a7b48f1db2af38da9f6b96acb92013f1305808817076e611a9a133885a0279", func := "loop.example/g01216/laws.FnExactCountWhole", spec := "fnExactCountWhole", unfollowed := true, recurses := true, apart := false }
def FnExactCountWholeSaid : Prop := fnExactCountWholeRow.holds Try.pinned (OpenSpec.ofChange fnExactCountWholeSpec)

/-- ITS FALSE NEIGHBOUR: 'it returns false'. Refute it at one input. -/
def fnExactCountWholeWrong : ChangeSpec := { name := "fnExactCountWhole", fn := fun _ => fun
  | [d] => { results := [.lit (.bool false)], args := [d] }
  | _ => none }
def FnExactCountWholeWrongFalsely : Prop := fnExactCountWholeRow.holds Try.pinned (OpenSpec.ofChange fnExactCountWholeWrong)

/-- 'laws.FnExactChainsOfHand': WHATEVER THE INPUT: true; the input reads as it did. -/
def fnExactChainsOfHandSpec : ChangeSpec := { name := "fnExactChainsOfHand", fn := fun _ => fun
  | [d] => { results := [.lit (.bool true)], args := [d] }
  | _ => none }
def fnExactChainsOfHandRow : OpenClaim := { program := "ytdpimdaofikmjaa", sum := "44a7b48f1db2af38da9f6b96acb92013f1305808817076e611a9a133885a0279", func := "loop.example/g01216/laws.FnExactChainsOfHand", spec := "fnExactChainsOfHand", unfollowed := true, recurses := true, apart := false }
def FnExactChainsOfHandSaid : Prop := fnExactChainsOfHandRow.holds Try.pinned (OpenSpec.ofChange fnExactChainsOfHandSpec)

/-- ITS FALSE NEIGHBOUR: 'it returns false'. Refute it at one input. -/
def fnExactChainsOfHandWrong : ChangeSpec := { name := "fnExactChainsOfHand", fn := fun _ => fun
  | [d] => { results := [.lit (.bool false)], args := [d] }
  | _ => none }
def FnExactChainsOfHandWrongFalsely : Prop := fnExactChainsOfHandRow.holds Try.pinned (OpenSpec.ofChange fnExactChainsOfHandWrong)

/-- 'laws.FnExactSortHand': WHATEVER THE INPUT: true; the input reads as it did. -/
def fnExactSortHandSpec : ChangeSpec := { name := "fnExactSortHand", fn := fun _ => fun
  | [d] => { results := [.lit (.bool true)], args := [d] }
  | _ => none }
def fnExactSortHandRow : OpenClaim := { program := "ytdpimdaofikmjaa", sum := "44a7b48f1db2af38da9f6b96acb92013f1305808817076e611a9a133885a0279", func := "loop.example/g01216/laws.FnExactSortHand", spec := "fnExactSortHand", unfollowed := true, recurses := true, apart := false }
def FnExactSortHandSaid : Prop := fnExactSortHandRow.holds Try.pinned (OpenSpec.ofChange fnExactSortHandSpec)

/-- ITS FALSE NEIGHBOUR: 'it returns false'. Refute it at one input. -/
def fnExactSortHandWrong : ChangeSpec := { name := "fnExactSortHand", fn := fun _ => fun
  | [d] => { results := [.lit (.bool false)], args := [d] }
  | _ => none }
def FnExactSortHandWrongFalsely : Prop := fnExactSortHandRow.holds Try.pinned (OpenSpec.ofChange fnExactSortHandWrong)

/-- 'laws.FnExactBothHands': WHATEVER THE INPUT: true; the input reads as it did. -/
def fnExactBothHandsSpec : ChangeSpec := { name := "fnExactBothHands", fn := fun _ => fun
  | [d1, d2] => { results := [.lit (.bool true)], args := [d1, d2] }
  | _ => none }
def fnExactBothHandsRow : OpenClaim := { program := "ytdpimdaofikmjaa", sum := "44a7b48f1db2af38da9f6b96acb92013f1305808817076e611a9a133885a0279", func := "loop.example/g01216/laws.FnExactBothHands", spec := "fnExactBothHands", unfollowed := true, recurses := true, apart := false }
def FnExactBothHandsSaid : Prop := fnExactBothHandsRow.holds Try.pinned (OpenSpec.ofChange fnExactBothHandsSpec)

/-- ITS FALSE NEIGHBOUR: 'it returns false'. Refute it at one input. -/
def fnExactBothHandsWrong : ChangeSpec := { name := "fnExactBothHands", fn := fun _ => fun
  | [d1, d2] => { results := [.lit (.bool false)], args := [d1, d2] }
  | _ => none }
def FnExactBothHandsWrongFalsely : Prop := fnExactBothHandsRow.holds Try.pinned (OpenSpec.ofChange fnExactBothHandsWrong)

/-- 'laws.FnExactWithNumber': WHATEVER THE INPUT: true; the input reads as it did. -/
def fnExactWithNumberSpec : ChangeSpec := { name := "fnExactWithNumber", fn := fun _ => fun
  | [d1, d2] => { results := [.lit (.bool true)], args := [d1, d2] }
  | _ => none }
def fnExactWithNumberRow : OpenClaim := { program := "ytdpimdaofikmjaa", sum := "44a7b48f1db2af38da9f6b96acb92013f1305808817076e611a9a133885a0279", func := "loop.example/g01216/laws.FnExactWithNumber", spec := "fnExactWithNumber", unfollowed := true, recurses := true, apart := false }
def FnExactWithNumberSaid : Prop := fnExactWithNumberRow.holds Try.pinned (OpenSpec.ofChange fnExactWithNumberSpec)

/-- ITS FALSE NEIGHBOUR: 'it returns false'. Refute it at one input. -/
def fnExactWithNumberWrong : ChangeSpec := { name := "fnExactWithNumber", fn := fun _ => fun
  | [d1, d2] => { results := [.lit (.bool false)], args := [d1, d2] }
  | _ => none }
def FnExactWithNumberWrongFalsely : Prop := fnExactWithNumberRow.holds Try.pinned (OpenSpec.ofChange fnExactWithNumberWrong)

/-- 'laws.FnExactDoublesOf': WHATEVER THE INPUT: true; the input reads as it did. -/
def fnExactDoublesOfSpec : ChangeSpec := { name := "fnExactDoublesOf", fn := fun _ => fun
  | [d] => { results := [.lit (.bool true)], args := [d] }
  | _ => none }
def fnExactDoublesOfRow : OpenClaim := { program := "ytdpimdaofikmjaa", sum := "44a7b48f1db2af38da9f6b96acb92013f1305808817076e611a9a133885a0279", func := "loop.example/g01216/laws.FnExactDoublesOf", spec := "fnExactDoublesOf", unfollowed := true, recurses := true, apart := false }
def FnExactDoublesOfSaid : Prop := fnExactDoublesOfRow.holds Try.pinned (OpenSpec.ofChange fnExactDoublesOfSpec)

/-- ITS FALSE NEIGHBOUR: 'it returns false'. Refute it at one input. -/
def fnExactDoublesOfWrong : ChangeSpec := { name := "fnExactDoublesOf", fn := fun _ => fun
  | [d] => { results := [.lit (.bool false)], args := [d] }
  | _ => none }
def FnExactDoublesOfWrongFalsely : Prop := fnExactDoublesOfRow.holds Try.pinned (OpenSpec.ofChange fnExactDoublesOfWrong)

/-- 'laws.FnExactLessHand': WHATEVER THE INPUT: true; the input reads as it did. -/
def fnExactLessHandSpec : ChangeSpec := { name := "fnExactLessHand", fn := fun _ => fun
  | [d1, d2] => { results := [.lit (.bool true)], args := [d1, d2] }
  | _ => none }
def fnExactLessHandRow : OpenClaim := { program := "ytdpimdaofikmjaa", sum := "44a7b48f1db2af38da9f6b96acb92013f1305808817076e611a9a133885a0279", func := "loop.example/g01216/laws.FnExactLessHand", spec := "fnExactLessHand", unfollowed := true, recurses := true, apart := false }
def FnExactLessHandSaid : Prop := fnExactLessHandRow.holds Try.pinned (OpenSpec.ofChange fnExactLessHandSpec)

/-- ITS FALSE NEIGHBOUR: 'it returns false'. Refute it at one input. -/
def fnExactLessHandWrong : ChangeSpec := { name := "fnExactLessHand", fn := fun _ => fun
  | [d1, d2] => { results := [.lit (.bool false)], args := [d1, d2] }
  | _ => none }
def FnExactLessHandWrongFalsely : Prop := fnExactLessHandRow.holds Try.pinned (OpenSpec.ofChange fnExactLessHandWrong)

/-- 'laws.FnExactMissingFrom': WHATEVER THE INPUT: true; the input reads as it did. -/
def fnExactMissingFromSpec : ChangeSpec := { name := "fnExactMissingFrom", fn := fun _ => fun
  | [d1, d2] => { results := [.lit (.bool true)], args := [d1, d2] }
  | _ => none }
def fnExactMissingFromRow : OpenClaim := { program := "ytdpimdaofikmjaa", sum := "44a7b48f1db2af38da9f6b96acb92013f1305808817076e611a9a133885a0279", func := "loop.example/g01216/laws.FnExactMissingFrom", spec := "fnExactMissingFrom", unfollowed := true, recurses := true, apart := false }
def FnExactMissingFromSaid : Prop := fnExactMissingFromRow.holds Try.pinned (OpenSpec.ofChange fnExactMissingFromSpec)

/-- ITS FALSE NEIGHBOUR: 'it returns false'. Refute it at one input. -/
def fnExactMissingFromWrong : ChangeSpec := { name := "fnExactMissingFrom", fn := fun _ => fun
  | [d1, d2] => { results := [.lit (.bool false)], args := [d1, d2] }
  | _ => none }
def FnExactMissingFromWrongFalsely : Prop := fnExactMissingFromRow.holds Try.pinned (OpenSpec.ofChange fnExactMissingFromWrong)

/-- 'laws.FnExactJoinHands': WHATEVER THE INPUT: true; the input reads as it did. -/
def fnExactJoinHandsSpec : ChangeSpec := { name := "fnExactJoinHands", fn := fun _ => fun
  | [d1, d2] => { results := [.lit (.bool true)], args := [d1, d2] }
  | _ => none }
def fnExactJoinHandsRow : OpenClaim := { program := "ytdpimdaofikmjaa", sum := "44a7b48f1db2af38da9f6b96acb92013f1305808817076e611a9a133885a0279", func := "loop.example/g01216/laws.FnExactJoinHands", spec := "fnExactJoinHands", unfollowed := true, recurses := true, apart := false }
def FnExactJoinHandsSaid : Prop := fnExactJoinHandsRow.holds Try.pinned (OpenSpec.ofChange fnExactJoinHandsSpec)

/-- ITS FALSE NEIGHBOUR: 'it returns false'. Refute it at one input. -/
def fnExactJoinHandsWrong : ChangeSpec := { name := "fnExactJoinHands", fn := fun _ => fun
  | [d1, d2] => { results := [.lit (.bool false)], args := [d1, d2] }
  | _ => none }
def FnExactJoinHandsWrongFalsely : Prop := fnExactJoinHandsRow.holds Try.pinned (OpenSpec.ofChange fnExactJoinHandsWrong)

/-- 'laws.FnExactIsWhole': WHATEVER THE INPUT: true; the input reads as it did. -/
def fnExactIsWholeSpec : ChangeSpec := { name := "fnExactIsWhole", fn := fun _ => fun
  | [d1, d2] => { results := [.lit (.bool true)], args := [d1, d2] }
  | _ => none }
def fnExactIsWholeRow : OpenClaim := { program := "ytdpimdaofikmjaa", sum := "44a7b48f1db2af38da9f6b96acb92013f1305808817076e611a9a133885a0279", func := "loop.example/g01216/laws.FnExactIsWhole", spec := "fnExactIsWhole", unfollowed := true, recurses := true, apart := false }
def FnExactIsWholeSaid : Prop := fnExactIsWholeRow.holds Try.pinned (OpenSpec.ofChange fnExactIsWholeSpec)

/-- ITS FALSE NEIGHBOUR: 'it returns false'. Refute it at one input. -/
def fnExactIsWholeWrong : ChangeSpec := { name := "fnExactIsWhole", fn := fun _ => fun
  | [d1, d2] => { results := [.lit (.bool false)], args := [d1, d2] }
  | _ => none }
def FnExactIsWholeWrongFalsely : Prop := fnExactIsWholeRow.holds Try.pinned (OpenSpec.ofChange fnExactIsWholeWrong)

/-- 'laws.FnExactRenameHand': WHATEVER THE INPUT: true; the input reads as it did. -/
def fnExactRenameHandSpec : ChangeSpec := { name := "fnExactRenameHand", fn := fun _ => fun
  | [d1, d2] => { results := [.lit (.bool true)], args := [d1, d2] }
  | _ => none }
def fnExactRenameHandRow : OpenClaim := { program := "ytdpimdaofikmjaa", sum := "44a7b48f1db2af38da9f6b96acb92013f1305808817076e611a9a133885a0279", func := "loop.example/g01216/laws.FnExactRenameHand", spec := "fnExactRenameHand", unfollowed := true, recurses := true, apart := false }
def FnExactRenameHandSaid : Prop := fnExactRenameHandRow.holds Try.pinned (OpenSpec.ofChange fnExactRenameHandSpec)

/-- ITS FALSE NEIGHBOUR: 'it returns false'. Refute it at one input. -/
def fnExactRenameHandWrong : ChangeSpec := { name := "fnExactRenameHand", fn := fun _ => fun
  | [d1, d2] => { results := [.lit (.bool false)], args := [d1, d2] }
  | _ => none }
def FnExactRenameHandWrongFalsely : Prop := fnExactRenameHandRow.holds Try.pinned (OpenSpec.ofChange fnExactRenameHandWrong)

/-- 'laws.FnExactFittingTiles': WHATEVER THE INPUT: true; the input reads as it did. -/
def fnExactFittingTilesSpec : ChangeSpec := { name := "fnExactFittingTiles", fn := fun _ => fun
  | [d1, d2] => { results := [.lit (.bool true)], args := [d1, d2] }
  | _ => none }
def fnExactFittingTilesRow : OpenClaim := { program := "ytdpimdaofikmjaa", sum := "44a7b48f1db2af38da9f6b96acb92013f1305808817076e611a9a133885a0279", func := "loop.example/g01216/laws.FnExactFittingTiles", spec := "fnExactFittingTiles", unfollowed := true, recurses := true, apart := false }
def FnExactFittingTilesSaid : Prop := fnExactFittingTilesRow.holds Try.pinned (OpenSpec.ofChange fnExactFittingTilesSpec)

/-- ITS FALSE NEIGHBOUR: 'it returns false'. Refute it at one input. -/
def fnExactFittingTilesWrong : ChangeSpec := { name := "fnExactFittingTiles", fn := fun _ => fun
  | [d1, d2] => { results := [.lit (.bool false)], args := [d1, d2] }
  | _ => none }
def FnExactFittingTilesWrongFalsely : Prop := fnExactFittingTilesRow.holds Try.pinned (OpenSpec.ofChange fnExactFittingTilesWrong)

/-- 'laws.FnExactLeastChains': WHATEVER THE INPUT: true; the input reads as it did. -/
def fnExactLeastChainsSpec : ChangeSpec := { name := "fnExactLeastChains", fn := fun _ => fun
  | [d] => { results := [.lit (.bool true)], args := [d] }
  | _ => none }
def fnExactLeastChainsRow : OpenClaim := { program := "ytdpimdaofikmjaa", sum := "44a7b48f1db2af38da9f6b96acb92013f1305808817076e611a9a133885a0279", func := "loop.example/g01216/laws.FnExactLeastChains", spec := "fnExactLeastChains", unfollowed := true, recurses := true, apart := false }
def FnExactLeastChainsSaid : Prop := fnExactLeastChainsRow.holds Try.pinned (OpenSpec.ofChange fnExactLeastChainsSpec)

/-- ITS FALSE NEIGHBOUR: 'it returns false'. Refute it at one input. -/
def fnExactLeastChainsWrong : ChangeSpec := { name := "fnExactLeastChains", fn := fun _ => fun
  | [d] => { results := [.lit (.bool false)], args := [d] }
  | _ => none }
def FnExactLeastChainsWrongFalsely : Prop := fnExactLeastChainsRow.holds Try.pinned (OpenSpec.ofChange fnExactLeastChainsWrong)

/-- 'laws.FnExactPartsOfHand': WHATEVER THE INPUT: true; the input reads as it did. -/
def fnExactPartsOfHandSpec : ChangeSpec := { name := "fnExactPartsOfHand", fn := fun _ => fun
  | [d] => { results := [.lit (.bool true)], args := [d] }
  | _ => none }
def fnExactPartsOfHandRow : OpenClaim := { program := "ytdpimdaofikmjaa", sum := "44a7b48f1db2af38da9f6b96acb92013f1305808817076e611a9a133885a0279", func := "loop.example/g01216/laws.FnExactPartsOfHand", spec := "fnExactPartsOfHand", unfollowed := true, recurses := true, apart := false }
def FnExactPartsOfHandSaid : Prop := fnExactPartsOfHandRow.holds Try.pinned (OpenSpec.ofChange fnExactPartsOfHandSpec)

/-- ITS FALSE NEIGHBOUR: 'it returns false'. Refute it at one input. -/
def fnExactPartsOfHandWrong : ChangeSpec := { name := "fnExactPartsOfHand", fn := fun _ => fun
  | [d] => { results := [.lit (.bool false)], args := [d] }
  | _ => none }
def FnExactPartsOfHandWrongFalsely : Prop := fnExactPartsOfHandRow.holds Try.pinned (OpenSpec.ofChange fnExactPartsOfHandWrong)

/-- 'laws.FnExactCountSetChains': WHATEVER THE INPUT: true; the input reads as it did. -/
def fnExactCountSetChainsSpec : ChangeSpec := { name := "fnExactCountSetChains", fn := fun _ => fun
  | [d] => { results := [.lit (.bool true)], args := [d] }
  | _ => none }
def fnExactCountSetChainsRow : OpenClaim := { program := "ytdpimdaofikmjaa", sum := "44a7b48f1db2af38da9f6b96acb92013f1305808817076e611a9a133885a0279", func := "loop.example/g01216/laws.FnExactCountSetChains", spec := "fnExactCountSetChains", unfollowed := true, recurses := true, apart := false }
def FnExactCountSetChainsSaid : Prop := fnExactCountSetChainsRow.holds Try.pinned (OpenSpec.ofChange fnExactCountSetChainsSpec)

/-- ITS FALSE NEIGHBOUR: 'it returns false'. Refute it at one input. -/
def fnExactCountSetChainsWrong : ChangeSpec := { name := "fnExactCountSetChains", fn := fun _ => fun
  | [d] => { results := [.lit (.bool false)], args := [d] }
  | _ => none }
def FnExactCountSetChainsWrongFalsely : Prop := fnExactCountSetChainsRow.holds Try.pinned (OpenSpec.ofChange fnExactCountSetChainsWrong)

/-- 'laws.FnExactPutDoubles': WHATEVER THE INPUT: true; the input reads as it did. -/
def fnExactPutDoublesSpec : ChangeSpec := { name := "fnExactPutDoubles", fn := fun _ => fun
  | [d1, d2] => { results := [.lit (.bool true)], args := [d1, d2] }
  | _ => none }
def fnExactPutDoublesRow : OpenClaim := { program := "ytdpimdaofikmjaa", sum := "44a7b48f1db2af38da9f6b96acb92013f1305808817076e611a9a133885a0279", func := "loop.example/g01216/laws.FnExactPutDoubles", spec := "fnExactPutDoubles", inPlace := ["slices.overlaps[int]"], unfollowed := true, recurses := true, apart := false }
def FnExactPutDoublesSaid : Prop := fnExactPutDoublesRow.holds Try.pinned (OpenSpec.ofChange fnExactPutDoublesSpec)

/-- ITS FALSE NEIGHBOUR: 'it returns false'. Refute it at one input. -/
def fnExactPutDoublesWrong : ChangeSpec := { name := "fnExactPutDoubles", fn := fun _ => fun
  | [d1, d2] => { results := [.lit (.bool false)], args := [d1, d2] }
  | _ => none }
def FnExactPutDoublesWrongFalsely : Prop := fnExactPutDoublesRow.holds Try.pinned (OpenSpec.ofChange fnExactPutDoublesWrong)

/- THE SECOND FORM. 'bulk': how many values and letters a reading holds, each counted each time it is reached (what is shared counts as often as it is met; a slice's spare places count too). A statement '..UptoSaid' is the law's where the arguments, and the package variables that the reading takes, are together of bulk at most 1048576: NARROWER than '..Said'. Prove '..Said' where nothing that the law and all that it calls make is longer than what came in: it says more and counts as full. Else prove '..UptoSaid'. A law counts once. -/
mutual
def uptoBulk {H : Type} : DataW H → Nat
  | .lit (.string bytes) => bytes.length + 1
  | .lit _ => 1
  | .nil => 1
  | .ptr d => uptoBulk d + 1
  | .slice elems spare => uptoBulkAll elems + uptoBulkAll spare + 1
  | .agg parts => uptoBulkAll parts + 1
  | .iface _ d => uptoBulk d + 1
  | .map entries => uptoBulkEntries entries + 1
  | .held _ => 1
def uptoBulkAll {H : Type} : List (DataW H) → Nat
  | [] => 0
  | d :: r => uptoBulk d + uptoBulkAll r
def uptoBulkEntries {H : Type} : List (Lit × DataW H) → Nat
  | [] => 0
  | x :: r => uptoBulkEntry x + uptoBulkEntries r
def uptoBulkEntry {H : Type} : Lit × DataW H → Nat
  | (.string bytes, d) => bytes.length + uptoBulk d + 1
  | (_, d) => uptoBulk d + 1
 end
def uptoSmall : (H : Type) → List (DataW H) → Bool := fun _ ds => decide (uptoBulkAll ds ≤ 1048576)
def OpenSpec.upto (s : _root_.Go.ChangeSpec) : _root_.Go.OpenSpec := { _root_.Go.OpenSpec.ofChange s with cond := some uptoSmall }

/-- 'laws.FnExactCountWithoutDoubles', WHERE WHAT IT READS IS OF BULK AT MOST 1048576: true; the input reads as it did. -/
def fnExactCountWithoutDoublesUptoRow : OpenClaim := { program := "ytdpimdaofikmjaa", sum := "44a7b48f1db2af38da9f6b96acb92013f1305808817076e611a9a133885a0279", func := "loop.example/g01216/laws.FnExactCountWithoutDoubles", spec := "fnExactCountWithoutDoubles", unfollowed := true, recurses := true, apart := false, narrowed := true }
def FnExactCountWithoutDoublesUptoSaid : Prop := fnExactCountWithoutDoublesUptoRow.holds Try.pinned (OpenSpec.upto fnExactCountWithoutDoublesSpec)

/-- 'laws.FnExactCountWhole', WHERE WHAT IT READS IS OF BULK AT MOST 1048576: true; the input reads as it did. -/
def fnExactCountWholeUptoRow : OpenClaim := { program := "ytdpimdaofikmjaa", sum := "44a7b48f1db2af38da9f6b96acb92013f1305808817076e611a9a133885a0279", func := "loop.example/g01216/laws.FnExactCountWhole", spec := "fnExactCountWhole", unfollowed := true, recurses := true, apart := false, narrowed := true }
def FnExactCountWholeUptoSaid : Prop := fnExactCountWholeUptoRow.holds Try.pinned (OpenSpec.upto fnExactCountWholeSpec)

/-- 'laws.FnExactChainsOfHand', WHERE WHAT IT READS IS OF BULK AT MOST 1048576: true; the input reads as it did. -/
def fnExactChainsOfHandUptoRow : OpenClaim := { program := "ytdpimdaofikmjaa", sum := "44a7b48f1db2af38da9f6b96acb92013f1305808817076e611a9a133885a0279", func := "loop.example/g01216/laws.FnExactChainsOfHand", spec := "fnExactChainsOfHand", unfollowed := true, recurses := true, apart := false, narrowed := true }
def FnExactChainsOfHandUptoSaid : Prop := fnExactChainsOfHandUptoRow.holds Try.pinned (OpenSpec.upto fnExactChainsOfHandSpec)

/-- 'laws.FnExactSortHand', WHERE WHAT IT READS IS OF BULK AT MOST 1048576: true; the input reads as it did. -/
def fnExactSortHandUptoRow : OpenClaim := { program := "ytdpimdaofikmjaa", sum := "44a7b48f1db2af38da9f6b96acb92013f1305808817076e611a9a133885a0279", func := "loop.example/g01216/laws.FnExactSortHand", spec := "fnExactSortHand", unfollowed := true, recurses := true, apart := false, narrowed := true }
def FnExactSortHandUptoSaid : Prop := fnExactSortHandUptoRow.holds Try.pinned (OpenSpec.upto fnExactSortHandSpec)

/-- 'laws.FnExactBothHands', WHERE WHAT IT READS IS OF BULK AT MOST 1048576: true; the input reads as it did. -/
def fnExactBothHandsUptoRow : OpenClaim := { program := "ytdpimdaofikmjaa", sum := "44a7b48f1db2af38da9f6b96acb92013f1305808817076e611a9a133885a0279", func := "loop.example/g01216/laws.FnExactBothHands", spec := "fnExactBothHands", unfollowed := true, recurses := true, apart := false, narrowed := true }
def FnExactBothHandsUptoSaid : Prop := fnExactBothHandsUptoRow.holds Try.pinned (OpenSpec.upto fnExactBothHandsSpec)

/-- 'laws.FnExactWithNumber', WHERE WHAT IT READS IS OF BULK AT MOST 1048576: true; the input reads as it did. -/
def fnExactWithNumberUptoRow : OpenClaim := { program := "ytdpimdaofikmjaa", sum := "44a7b48f1db2af38da9f6b96acb92013f1305808817076e611a9a133885a0279", func := "loop.example/g01216/laws.FnExactWithNumber", spec := "fnExactWithNumber", unfollowed := true, recurses := true, apart := false, narrowed := true }
def FnExactWithNumberUptoSaid : Prop := fnExactWithNumberUptoRow.holds Try.pinned (OpenSpec.upto fnExactWithNumberSpec)

/-- 'laws.FnExactDoublesOf', WHERE WHAT IT READS IS OF BULK AT MOST 1048576: true; the input reads as it did. -/
def fnExactDoublesOfUptoRow : OpenClaim := { program := "ytdpimdaofikmjaa", sum := "44a7b48f1db2af38da9f6b96acb92013f1305808817076e611a9a133885a0279", func := "loop.example/g01216/laws.FnExactDoublesOf", spec := "fnExactDoublesOf", unfollowed := true, recurses := true, apart := false, narrowed := true }
def FnExactDoublesOfUptoSaid : Prop := fnExactDoublesOfUptoRow.holds Try.pinned (OpenSpec.upto fnExactDoublesOfSpec)

/-- 'laws.FnExactLessHand', WHERE WHAT IT READS IS OF BULK AT MOST 1048576: true; the input reads as it did. -/
def fnExactLessHandUptoRow : OpenClaim := { program := "ytdpimdaofikmjaa", sum := "44a7b48f1db2af38da9f6b96acb92013f1305808817076e611a9a133885a0279", func := "loop.example/g01216/laws.FnExactLessHand", spec := "fnExactLessHand", unfollowed := true, recurses := true, apart := false, narrowed := true }
def FnExactLessHandUptoSaid : Prop := fnExactLessHandUptoRow.holds Try.pinned (OpenSpec.upto fnExactLessHandSpec)

/-- 'laws.FnExactMissingFrom', WHERE WHAT IT READS IS OF BULK AT MOST 1048576: true; the input reads as it did. -/
def fnExactMissingFromUptoRow : OpenClaim := { program := "ytdpimdaofikmjaa", sum := "44a7b48f1db2af38da9f6b96acb92013f1305808817076e611a9a133885a0279", func := "loop.example/g01216/laws.FnExactMissingFrom", spec := "fnExactMissingFrom", unfollowed := true, recurses := true, apart := false, narrowed := true }
def FnExactMissingFromUptoSaid : Prop := fnExactMissingFromUptoRow.holds Try.pinned (OpenSpec.upto fnExactMissingFromSpec)

/-- 'laws.FnExactJoinHands', WHERE WHAT IT READS IS OF BULK AT MOST 1048576: true; the input reads as it did. -/
def fnExactJoinHandsUptoRow : OpenClaim := { program := "ytdpimdaofikmjaa", sum := "44a7b48f1db2af38da9f6b96acb92013f1305808817076e611a9a133885a0279", func := "loop.example/g01216/laws.FnExactJoinHands", spec := "fnExactJoinHands", unfollowed := true, recurses := true, apart := false, narrowed := true }
def FnExactJoinHandsUptoSaid : Prop := fnExactJoinHandsUptoRow.holds Try.pinned (OpenSpec.upto fnExactJoinHandsSpec)

/-- 'laws.FnExactIsWhole', WHERE WHAT IT READS IS OF BULK AT MOST 1048576: true; the input reads as it did. -/
def fnExactIsWholeUptoRow : OpenClaim := { program := "ytdpimdaofikmjaa", sum := "44a7b48f1db2af38da9f6b96acb92013f1305808817076e611a9a133885a0279", func := "loop.example/g01216/laws.FnExactIsWhole", spec := "fnExactIsWhole", unfollowed := true, recurses := true, apart := false, narrowed := true }
def FnExactIsWholeUptoSaid : Prop := fnExactIsWholeUptoRow.holds Try.pinned (OpenSpec.upto fnExactIsWholeSpec)

/-- 'laws.FnExactRenameHand', WHERE WHAT IT READS IS OF BULK AT MOST 1048576: true; the input reads as it did. -/
def fnExactRenameHandUptoRow : OpenClaim := { program := "ytdpimdaofikmjaa", sum := "44a7b48f1db2af38da9f6b96acb92013f1305808817076e611a9a133885a0279", func := "loop.example/g01216/laws.FnExactRenameHand", spec := "fnExactRenameHand", unfollowed := true, recurses := true, apart := false, narrowed := true }
def FnExactRenameHandUptoSaid : Prop := fnExactRenameHandUptoRow.holds Try.pinned (OpenSpec.upto fnExactRenameHandSpec)

/-- 'laws.FnExactFittingTiles', WHERE WHAT IT READS IS OF BULK AT MOST 1048576: true; the input reads as it did. -/
def fnExactFittingTilesUptoRow : OpenClaim := { program := "ytdpimdaofikmjaa", sum := "44a7b48f1db2af38da9f6b96acb92013f1305808817076e611a9a133885a0279", func := "loop.example/g01216/laws.FnExactFittingTiles", spec := "fnExactFittingTiles", unfollowed := true, recurses := true, apart := false, narrowed := true }
def FnExactFittingTilesUptoSaid : Prop := fnExactFittingTilesUptoRow.holds Try.pinned (OpenSpec.upto fnExactFittingTilesSpec)

/-- 'laws.FnExactLeastChains', WHERE WHAT IT READS IS OF BULK AT MOST 1048576: true; the input reads as it did. -/
def fnExactLeastChainsUptoRow : OpenClaim := { program := "ytdpimdaofikmjaa", sum := "44a7b48f1db2af38da9f6b96acb92013f1305808817076e611a9a133885a0279", func := "loop.example/g01216/laws.FnExactLeastChains", spec := "fnExactLeastChains", unfollowed := true, recurses := true, apart := false, narrowed := true }
def FnExactLeastChainsUptoSaid : Prop := fnExactLeastChainsUptoRow.holds Try.pinned (OpenSpec.upto fnExactLeastChainsSpec)

/-- 'laws.FnExactPartsOfHand', WHERE WHAT IT READS IS OF BULK AT MOST 1048576: true; the input reads as it did. -/
def fnExactPartsOfHandUptoRow : OpenClaim := { program := "ytdpimdaofikmjaa", sum := "44a7b48f1db2af38da9f6b96acb92013f1305808817076e611a9a133885a0279", func := "loop.example/g01216/laws.FnExactPartsOfHand", spec := "fnExactPartsOfHand", unfollowed := true, recurses := true, apart := false, narrowed := true }
def FnExactPartsOfHandUptoSaid : Prop := fnExactPartsOfHandUptoRow.holds Try.pinned (OpenSpec.upto fnExactPartsOfHandSpec)

/-- 'laws.FnExactCountSetChains', WHERE WHAT IT READS IS OF BULK AT MOST 1048576: true; the input reads as it did. -/
def fnExactCountSetChainsUptoRow : OpenClaim := { program := "ytdpimdaofikmjaa", sum := "44a7b48f1db2af38da9f6b96acb92013f1305808817076e611a9a133885a0279", func := "loop.example/g01216/laws.FnExactCountSetChains", spec := "fnExactCountSetChains", unfollowed := true, recurses := true, apart := false, narrowed := true }
def FnExactCountSetChainsUptoSaid : Prop := fnExactCountSetChainsUptoRow.holds Try.pinned (OpenSpec.upto fnExactCountSetChainsSpec)

/-- 'laws.FnExactPutDoubles', WHERE WHAT IT READS IS OF BULK AT MOST 1048576: true; the input reads as it did. -/
def fnExactPutDoublesUptoRow : OpenClaim := { program := "ytdpimdaofikmjaa", sum := "44a7b48f1db2af38da9f6b96acb92013f1305808817076e611a9a133885a0279", func := "loop.example/g01216/laws.FnExactPutDoubles", spec := "fnExactPutDoubles", inPlace := ["slices.overlaps[int]"], unfollowed := true, recurses := true, apart := false, narrowed := true }
def FnExactPutDoublesUptoSaid : Prop := fnExactPutDoublesUptoRow.holds Try.pinned (OpenSpec.upto fnExactPutDoublesSpec)

end Rows
end Go.Proofs.Ytdpimdaofikmjaa
