/-
  No cell of these rows narrows 'for every input' (looked for: loops, veiled, ifaces, maps, wideKeys, modest, calm, conditions, laid).
  DERIVED. THE GIVEN ROWS OF THIS SEAT. 19 by the template 'for every input the law returns true; each argument reads behind the call as it read before'; 0 by the template 'total and deterministic' (their statements: YtgcfddomnohajaaTotals.lean).
  GIVEN WITH THE SEED: the statements are not yours to turn. If you find one false, say at which input.
  Laid BY PROGRAM, IN A SANDBOX (cutbox-rows.mjs): the forced cells as the released guide's own fill.sh prints them over the translation 6fa2df431bf272f3… (all of the seat's roots in one cut). By AI agents, Wed Nov 11 2026. No macro, syntax, notation, axiom, sorry.
-/
import Derived.Test.YtgcfddomnohajaaChecked
import GoSem.Claim
import GoSem.ClaimJoined
import GoSem.ClaimMapViews
import Derived.JoinedTies
import Derived.KernelRfl
namespace Go.Proofs.Ytgcfddomnohajaa
/- THE CELL 'sum', in the pinned program and in every row, IS THE sha256 OF THE DUMP (.gsa) THAT YtgcfddomnohajaaProg.lean LOADS. Nothing in Lean hashes anything: it is a label: what it is worth is what the hold of that sum in a sandbox is worth. -/
noncomputable def Try.pinned : Pinned := { name := "ytgcfddomnohajaa", sum := "6fa2df431bf272f3907f63c16cd025f856779a479ac1414c41a2a44ce7c7c4d0", checked := Try.checked }
namespace Rows
def none {H : Type} : Left H := { results := [], args := [] }

/-- 'laws.FnExactSetOf': WHATEVER THE INPUT: true; the input reads as it did. -/
def fnExactSetOfSpec : ChangeSpec := { name := "fnExactSetOf", fn := fun _ => fun
  | [d] => { results := [.lit (.bool true)], args := [d] }
  | _ => none }
def fnExactSetOfRow : OpenClaim := { program := "ytgcfddomnohajaa", sum := "6fa2df431bf272f3907f63c16cd025f856779a479ac1414c41a2a44ce7c7c4d0", func := "loop.example/g01216/laws.FnExactSetOf", spec := "fnExactSetOf", apart := false }
def FnExactSetOfSaid : Prop := fnExactSetOfRow.holds Try.pinned (OpenSpec.ofChange fnExactSetOfSpec)

/-- ITS FALSE NEIGHBOUR: 'it returns false'. Refute it at one input. -/
def fnExactSetOfWrong : ChangeSpec := { name := "fnExactSetOf", fn := fun _ => fun
  | [d] => { results := [.lit (.bool false)], args := [d] }
  | _ => none }
def FnExactSetOfWrongFalsely : Prop := fnExactSetOfRow.holds Try.pinned (OpenSpec.ofChange fnExactSetOfWrong)

/-- 'laws.FnExactIsHand': WHATEVER THE INPUT: true; the input reads as it did. -/
def fnExactIsHandSpec : ChangeSpec := { name := "fnExactIsHand", fn := fun _ => fun
  | [d] => { results := [.lit (.bool true)], args := [d] }
  | _ => none }
def fnExactIsHandRow : OpenClaim := { program := "ytgcfddomnohajaa", sum := "6fa2df431bf272f3907f63c16cd025f856779a479ac1414c41a2a44ce7c7c4d0", func := "loop.example/g01216/laws.FnExactIsHand", spec := "fnExactIsHand", unfollowed := true, recurses := true, apart := false }
def FnExactIsHandSaid : Prop := fnExactIsHandRow.holds Try.pinned (OpenSpec.ofChange fnExactIsHandSpec)

/-- ITS FALSE NEIGHBOUR: 'it returns false'. Refute it at one input. -/
def fnExactIsHandWrong : ChangeSpec := { name := "fnExactIsHand", fn := fun _ => fun
  | [d] => { results := [.lit (.bool false)], args := [d] }
  | _ => none }
def FnExactIsHandWrongFalsely : Prop := fnExactIsHandRow.holds Try.pinned (OpenSpec.ofChange fnExactIsHandWrong)

/-- 'laws.FnExactIsChain': WHATEVER THE INPUT: true; the input reads as it did. -/
def fnExactIsChainSpec : ChangeSpec := { name := "fnExactIsChain", fn := fun _ => fun
  | [d] => { results := [.lit (.bool true)], args := [d] }
  | _ => none }
def fnExactIsChainRow : OpenClaim := { program := "ytgcfddomnohajaa", sum := "6fa2df431bf272f3907f63c16cd025f856779a479ac1414c41a2a44ce7c7c4d0", func := "loop.example/g01216/laws.FnExactIsChain", spec := "fnExactIsChain", unfollowed := true, recurses := true, apart := false }
def FnExactIsChainSaid : Prop := fnExactIsChainRow.holds Try.pinned (OpenSpec.ofChange fnExactIsChainSpec)

/-- ITS FALSE NEIGHBOUR: 'it returns false'. Refute it at one input. -/
def fnExactIsChainWrong : ChangeSpec := { name := "fnExactIsChain", fn := fun _ => fun
  | [d] => { results := [.lit (.bool false)], args := [d] }
  | _ => none }
def FnExactIsChainWrongFalsely : Prop := fnExactIsChainRow.holds Try.pinned (OpenSpec.ofChange fnExactIsChainWrong)

/-- 'laws.FnExactPipsOf': WHATEVER THE INPUT: true; the input reads as it did. -/
def fnExactPipsOfSpec : ChangeSpec := { name := "fnExactPipsOf", fn := fun _ => fun
  | [d] => { results := [.lit (.bool true)], args := [d] }
  | _ => none }
def fnExactPipsOfRow : OpenClaim := { program := "ytgcfddomnohajaa", sum := "6fa2df431bf272f3907f63c16cd025f856779a479ac1414c41a2a44ce7c7c4d0", func := "loop.example/g01216/laws.FnExactPipsOf", spec := "fnExactPipsOf", unfollowed := true, recurses := true, apart := false }
def FnExactPipsOfSaid : Prop := fnExactPipsOfRow.holds Try.pinned (OpenSpec.ofChange fnExactPipsOfSpec)

/-- ITS FALSE NEIGHBOUR: 'it returns false'. Refute it at one input. -/
def fnExactPipsOfWrong : ChangeSpec := { name := "fnExactPipsOf", fn := fun _ => fun
  | [d] => { results := [.lit (.bool false)], args := [d] }
  | _ => none }
def FnExactPipsOfWrongFalsely : Prop := fnExactPipsOfRow.holds Try.pinned (OpenSpec.ofChange fnExactPipsOfWrong)

/-- 'laws.FnExactEndsOfChain': WHATEVER THE INPUT: true; the input reads as it did. -/
def fnExactEndsOfChainSpec : ChangeSpec := { name := "fnExactEndsOfChain", fn := fun _ => fun
  | [d] => { results := [.lit (.bool true)], args := [d] }
  | _ => none }
def fnExactEndsOfChainRow : OpenClaim := { program := "ytgcfddomnohajaa", sum := "6fa2df431bf272f3907f63c16cd025f856779a479ac1414c41a2a44ce7c7c4d0", func := "loop.example/g01216/laws.FnExactEndsOfChain", spec := "fnExactEndsOfChain", unfollowed := true, recurses := true, apart := false }
def FnExactEndsOfChainSaid : Prop := fnExactEndsOfChainRow.holds Try.pinned (OpenSpec.ofChange fnExactEndsOfChainSpec)

/-- ITS FALSE NEIGHBOUR: 'it returns false'. Refute it at one input. -/
def fnExactEndsOfChainWrong : ChangeSpec := { name := "fnExactEndsOfChain", fn := fun _ => fun
  | [d] => { results := [.lit (.bool false)], args := [d] }
  | _ => none }
def FnExactEndsOfChainWrongFalsely : Prop := fnExactEndsOfChainRow.holds Try.pinned (OpenSpec.ofChange fnExactEndsOfChainWrong)

/-- 'laws.FnExactIsRing': WHATEVER THE INPUT: true; the input reads as it did. -/
def fnExactIsRingSpec : ChangeSpec := { name := "fnExactIsRing", fn := fun _ => fun
  | [d] => { results := [.lit (.bool true)], args := [d] }
  | _ => none }
def fnExactIsRingRow : OpenClaim := { program := "ytgcfddomnohajaa", sum := "6fa2df431bf272f3907f63c16cd025f856779a479ac1414c41a2a44ce7c7c4d0", func := "loop.example/g01216/laws.FnExactIsRing", spec := "fnExactIsRing", unfollowed := true, recurses := true, apart := false }
def FnExactIsRingSaid : Prop := fnExactIsRingRow.holds Try.pinned (OpenSpec.ofChange fnExactIsRingSpec)

/-- ITS FALSE NEIGHBOUR: 'it returns false'. Refute it at one input. -/
def fnExactIsRingWrong : ChangeSpec := { name := "fnExactIsRing", fn := fun _ => fun
  | [d] => { results := [.lit (.bool false)], args := [d] }
  | _ => none }
def FnExactIsRingWrongFalsely : Prop := fnExactIsRingRow.holds Try.pinned (OpenSpec.ofChange fnExactIsRingWrong)

/-- 'laws.FnExactTimesOf': WHATEVER THE INPUT: true; the input reads as it did. -/
def fnExactTimesOfSpec : ChangeSpec := { name := "fnExactTimesOf", fn := fun _ => fun
  | [d1, d2] => { results := [.lit (.bool true)], args := [d1, d2] }
  | _ => none }
def fnExactTimesOfRow : OpenClaim := { program := "ytgcfddomnohajaa", sum := "6fa2df431bf272f3907f63c16cd025f856779a479ac1414c41a2a44ce7c7c4d0", func := "loop.example/g01216/laws.FnExactTimesOf", spec := "fnExactTimesOf", unfollowed := true, recurses := true, apart := false }
def FnExactTimesOfSaid : Prop := fnExactTimesOfRow.holds Try.pinned (OpenSpec.ofChange fnExactTimesOfSpec)

/-- ITS FALSE NEIGHBOUR: 'it returns false'. Refute it at one input. -/
def fnExactTimesOfWrong : ChangeSpec := { name := "fnExactTimesOf", fn := fun _ => fun
  | [d1, d2] => { results := [.lit (.bool false)], args := [d1, d2] }
  | _ => none }
def FnExactTimesOfWrongFalsely : Prop := fnExactTimesOfRow.holds Try.pinned (OpenSpec.ofChange fnExactTimesOfWrong)

/-- 'laws.FnExactChainText': WHATEVER THE INPUT: true; the input reads as it did. -/
def fnExactChainTextSpec : ChangeSpec := { name := "fnExactChainText", fn := fun _ => fun
  | [d] => { results := [.lit (.bool true)], args := [d] }
  | _ => none }
def fnExactChainTextRow : OpenClaim := { program := "ytgcfddomnohajaa", sum := "6fa2df431bf272f3907f63c16cd025f856779a479ac1414c41a2a44ce7c7c4d0", func := "loop.example/g01216/laws.FnExactChainText", spec := "fnExactChainText", unfollowed := true, recurses := true, apart := false }
def FnExactChainTextSaid : Prop := fnExactChainTextRow.holds Try.pinned (OpenSpec.ofChange fnExactChainTextSpec)

/-- ITS FALSE NEIGHBOUR: 'it returns false'. Refute it at one input. -/
def fnExactChainTextWrong : ChangeSpec := { name := "fnExactChainText", fn := fun _ => fun
  | [d] => { results := [.lit (.bool false)], args := [d] }
  | _ => none }
def FnExactChainTextWrongFalsely : Prop := fnExactChainTextRow.holds Try.pinned (OpenSpec.ofChange fnExactChainTextWrong)

/-- 'laws.FnExactParseChain': WHATEVER THE INPUT: true; the input reads as it did. -/
def fnExactParseChainSpec : ChangeSpec := { name := "fnExactParseChain", fn := fun _ => fun
  | [d] => { results := [.lit (.bool true)], args := [d] }
  | _ => none }
def fnExactParseChainRow : OpenClaim := { program := "ytgcfddomnohajaa", sum := "6fa2df431bf272f3907f63c16cd025f856779a479ac1414c41a2a44ce7c7c4d0", func := "loop.example/g01216/laws.FnExactParseChain", spec := "fnExactParseChain", unfollowed := true, recurses := true, apart := false }
def FnExactParseChainSaid : Prop := fnExactParseChainRow.holds Try.pinned (OpenSpec.ofChange fnExactParseChainSpec)

/-- ITS FALSE NEIGHBOUR: 'it returns false'. Refute it at one input. -/
def fnExactParseChainWrong : ChangeSpec := { name := "fnExactParseChain", fn := fun _ => fun
  | [d] => { results := [.lit (.bool false)], args := [d] }
  | _ => none }
def FnExactParseChainWrongFalsely : Prop := fnExactParseChainRow.holds Try.pinned (OpenSpec.ofChange fnExactParseChainWrong)

/-- 'laws.FnExactTurnChain': WHATEVER THE INPUT: true; the input reads as it did. -/
def fnExactTurnChainSpec : ChangeSpec := { name := "fnExactTurnChain", fn := fun _ => fun
  | [d] => { results := [.lit (.bool true)], args := [d] }
  | _ => none }
def fnExactTurnChainRow : OpenClaim := { program := "ytgcfddomnohajaa", sum := "6fa2df431bf272f3907f63c16cd025f856779a479ac1414c41a2a44ce7c7c4d0", func := "loop.example/g01216/laws.FnExactTurnChain", spec := "fnExactTurnChain", unfollowed := true, recurses := true, apart := false }
def FnExactTurnChainSaid : Prop := fnExactTurnChainRow.holds Try.pinned (OpenSpec.ofChange fnExactTurnChainSpec)

/-- ITS FALSE NEIGHBOUR: 'it returns false'. Refute it at one input. -/
def fnExactTurnChainWrong : ChangeSpec := { name := "fnExactTurnChain", fn := fun _ => fun
  | [d] => { results := [.lit (.bool false)], args := [d] }
  | _ => none }
def FnExactTurnChainWrongFalsely : Prop := fnExactTurnChainRow.holds Try.pinned (OpenSpec.ofChange fnExactTurnChainWrong)

/-- 'laws.FnExactTilesOfChain': WHATEVER THE INPUT: true; the input reads as it did. -/
def fnExactTilesOfChainSpec : ChangeSpec := { name := "fnExactTilesOfChain", fn := fun _ => fun
  | [d] => { results := [.lit (.bool true)], args := [d] }
  | _ => none }
def fnExactTilesOfChainRow : OpenClaim := { program := "ytgcfddomnohajaa", sum := "6fa2df431bf272f3907f63c16cd025f856779a479ac1414c41a2a44ce7c7c4d0", func := "loop.example/g01216/laws.FnExactTilesOfChain", spec := "fnExactTilesOfChain", unfollowed := true, recurses := true, apart := false }
def FnExactTilesOfChainSaid : Prop := fnExactTilesOfChainRow.holds Try.pinned (OpenSpec.ofChange fnExactTilesOfChainSpec)

/-- ITS FALSE NEIGHBOUR: 'it returns false'. Refute it at one input. -/
def fnExactTilesOfChainWrong : ChangeSpec := { name := "fnExactTilesOfChain", fn := fun _ => fun
  | [d] => { results := [.lit (.bool false)], args := [d] }
  | _ => none }
def FnExactTilesOfChainWrongFalsely : Prop := fnExactTilesOfChainRow.holds Try.pinned (OpenSpec.ofChange fnExactTilesOfChainWrong)

/-- 'laws.FnExactDropDoubles': WHATEVER THE INPUT: true; the input reads as it did. -/
def fnExactDropDoublesSpec : ChangeSpec := { name := "fnExactDropDoubles", fn := fun _ => fun
  | [d] => { results := [.lit (.bool true)], args := [d] }
  | _ => none }
def fnExactDropDoublesRow : OpenClaim := { program := "ytgcfddomnohajaa", sum := "6fa2df431bf272f3907f63c16cd025f856779a479ac1414c41a2a44ce7c7c4d0", func := "loop.example/g01216/laws.FnExactDropDoubles", spec := "fnExactDropDoubles", unfollowed := true, recurses := true, apart := false }
def FnExactDropDoublesSaid : Prop := fnExactDropDoublesRow.holds Try.pinned (OpenSpec.ofChange fnExactDropDoublesSpec)

/-- ITS FALSE NEIGHBOUR: 'it returns false'. Refute it at one input. -/
def fnExactDropDoublesWrong : ChangeSpec := { name := "fnExactDropDoubles", fn := fun _ => fun
  | [d] => { results := [.lit (.bool false)], args := [d] }
  | _ => none }
def FnExactDropDoublesWrongFalsely : Prop := fnExactDropDoublesRow.holds Try.pinned (OpenSpec.ofChange fnExactDropDoublesWrong)

/-- 'laws.FnExactJoinChains': WHATEVER THE INPUT: true; the input reads as it did. -/
def fnExactJoinChainsSpec : ChangeSpec := { name := "fnExactJoinChains", fn := fun _ => fun
  | [d1, d2] => { results := [.lit (.bool true)], args := [d1, d2] }
  | _ => none }
def fnExactJoinChainsRow : OpenClaim := { program := "ytgcfddomnohajaa", sum := "6fa2df431bf272f3907f63c16cd025f856779a479ac1414c41a2a44ce7c7c4d0", func := "loop.example/g01216/laws.FnExactJoinChains", spec := "fnExactJoinChains", unfollowed := true, recurses := true, apart := false }
def FnExactJoinChainsSaid : Prop := fnExactJoinChainsRow.holds Try.pinned (OpenSpec.ofChange fnExactJoinChainsSpec)

/-- ITS FALSE NEIGHBOUR: 'it returns false'. Refute it at one input. -/
def fnExactJoinChainsWrong : ChangeSpec := { name := "fnExactJoinChains", fn := fun _ => fun
  | [d1, d2] => { results := [.lit (.bool false)], args := [d1, d2] }
  | _ => none }
def FnExactJoinChainsWrongFalsely : Prop := fnExactJoinChainsRow.holds Try.pinned (OpenSpec.ofChange fnExactJoinChainsWrong)

/-- 'laws.FnExactSpinRing': WHATEVER THE INPUT: true; the input reads as it did. -/
def fnExactSpinRingSpec : ChangeSpec := { name := "fnExactSpinRing", fn := fun _ => fun
  | [d1, d2] => { results := [.lit (.bool true)], args := [d1, d2] }
  | _ => none }
def fnExactSpinRingRow : OpenClaim := { program := "ytgcfddomnohajaa", sum := "6fa2df431bf272f3907f63c16cd025f856779a479ac1414c41a2a44ce7c7c4d0", func := "loop.example/g01216/laws.FnExactSpinRing", spec := "fnExactSpinRing", unfollowed := true, recurses := true, apart := false }
def FnExactSpinRingSaid : Prop := fnExactSpinRingRow.holds Try.pinned (OpenSpec.ofChange fnExactSpinRingSpec)

/-- ITS FALSE NEIGHBOUR: 'it returns false'. Refute it at one input. -/
def fnExactSpinRingWrong : ChangeSpec := { name := "fnExactSpinRing", fn := fun _ => fun
  | [d1, d2] => { results := [.lit (.bool false)], args := [d1, d2] }
  | _ => none }
def FnExactSpinRingWrongFalsely : Prop := fnExactSpinRingRow.holds Try.pinned (OpenSpec.ofChange fnExactSpinRingWrong)

/-- 'laws.FnExactNumbersOf': WHATEVER THE INPUT: true; the input reads as it did. -/
def fnExactNumbersOfSpec : ChangeSpec := { name := "fnExactNumbersOf", fn := fun _ => fun
  | [d] => { results := [.lit (.bool true)], args := [d] }
  | _ => none }
def fnExactNumbersOfRow : OpenClaim := { program := "ytgcfddomnohajaa", sum := "6fa2df431bf272f3907f63c16cd025f856779a479ac1414c41a2a44ce7c7c4d0", func := "loop.example/g01216/laws.FnExactNumbersOf", spec := "fnExactNumbersOf", unfollowed := true, recurses := true, apart := false }
def FnExactNumbersOfSaid : Prop := fnExactNumbersOfRow.holds Try.pinned (OpenSpec.ofChange fnExactNumbersOfSpec)

/-- ITS FALSE NEIGHBOUR: 'it returns false'. Refute it at one input. -/
def fnExactNumbersOfWrong : ChangeSpec := { name := "fnExactNumbersOf", fn := fun _ => fun
  | [d] => { results := [.lit (.bool false)], args := [d] }
  | _ => none }
def FnExactNumbersOfWrongFalsely : Prop := fnExactNumbersOfRow.holds Try.pinned (OpenSpec.ofChange fnExactNumbersOfWrong)

/-- 'laws.FnExactFirstLeftOut': WHATEVER THE INPUT: true; the input reads as it did. -/
def fnExactFirstLeftOutSpec : ChangeSpec := { name := "fnExactFirstLeftOut", fn := fun _ => fun
  | [d] => { results := [.lit (.bool true)], args := [d] }
  | _ => none }
def fnExactFirstLeftOutRow : OpenClaim := { program := "ytgcfddomnohajaa", sum := "6fa2df431bf272f3907f63c16cd025f856779a479ac1414c41a2a44ce7c7c4d0", func := "loop.example/g01216/laws.FnExactFirstLeftOut", spec := "fnExactFirstLeftOut", recurses := true, apart := false }
def FnExactFirstLeftOutSaid : Prop := fnExactFirstLeftOutRow.holds Try.pinned (OpenSpec.ofChange fnExactFirstLeftOutSpec)

/-- ITS FALSE NEIGHBOUR: 'it returns false'. Refute it at one input. -/
def fnExactFirstLeftOutWrong : ChangeSpec := { name := "fnExactFirstLeftOut", fn := fun _ => fun
  | [d] => { results := [.lit (.bool false)], args := [d] }
  | _ => none }
def FnExactFirstLeftOutWrongFalsely : Prop := fnExactFirstLeftOutRow.holds Try.pinned (OpenSpec.ofChange fnExactFirstLeftOutWrong)

/-- 'laws.FnExactLayTile': WHATEVER THE INPUT: true; the input reads as it did. -/
def fnExactLayTileSpec : ChangeSpec := { name := "fnExactLayTile", fn := fun _ => fun
  | [d1, d2, d3] => { results := [.lit (.bool true)], args := [d1, d2, d3] }
  | _ => none }
def fnExactLayTileRow : OpenClaim := { program := "ytgcfddomnohajaa", sum := "6fa2df431bf272f3907f63c16cd025f856779a479ac1414c41a2a44ce7c7c4d0", func := "loop.example/g01216/laws.FnExactLayTile", spec := "fnExactLayTile", unfollowed := true, recurses := true, apart := false }
def FnExactLayTileSaid : Prop := fnExactLayTileRow.holds Try.pinned (OpenSpec.ofChange fnExactLayTileSpec)

/-- ITS FALSE NEIGHBOUR: 'it returns false'. Refute it at one input. -/
def fnExactLayTileWrong : ChangeSpec := { name := "fnExactLayTile", fn := fun _ => fun
  | [d1, d2, d3] => { results := [.lit (.bool false)], args := [d1, d2, d3] }
  | _ => none }
def FnExactLayTileWrongFalsely : Prop := fnExactLayTileRow.holds Try.pinned (OpenSpec.ofChange fnExactLayTileWrong)

/-- 'laws.FnExactHandText': WHATEVER THE INPUT: true; the input reads as it did. -/
def fnExactHandTextSpec : ChangeSpec := { name := "fnExactHandText", fn := fun _ => fun
  | [d] => { results := [.lit (.bool true)], args := [d] }
  | _ => none }
def fnExactHandTextRow : OpenClaim := { program := "ytgcfddomnohajaa", sum := "6fa2df431bf272f3907f63c16cd025f856779a479ac1414c41a2a44ce7c7c4d0", func := "loop.example/g01216/laws.FnExactHandText", spec := "fnExactHandText", inPlace := ["internal/abi.NoEscape", "internal/bytealg.MakeNoZero"], unfollowed := true, recurses := true, apart := false }
def FnExactHandTextSaid : Prop := fnExactHandTextRow.holds Try.pinned (OpenSpec.ofChange fnExactHandTextSpec)

/-- ITS FALSE NEIGHBOUR: 'it returns false'. Refute it at one input. -/
def fnExactHandTextWrong : ChangeSpec := { name := "fnExactHandText", fn := fun _ => fun
  | [d] => { results := [.lit (.bool false)], args := [d] }
  | _ => none }
def FnExactHandTextWrongFalsely : Prop := fnExactHandTextRow.holds Try.pinned (OpenSpec.ofChange fnExactHandTextWrong)

/-- 'laws.FnExactLineOf': WHATEVER THE INPUT: true; the input reads as it did. -/
def fnExactLineOfSpec : ChangeSpec := { name := "fnExactLineOf", fn := fun _ => fun
  | [d] => { results := [.lit (.bool true)], args := [d] }
  | _ => none }
def fnExactLineOfRow : OpenClaim := { program := "ytgcfddomnohajaa", sum := "6fa2df431bf272f3907f63c16cd025f856779a479ac1414c41a2a44ce7c7c4d0", func := "loop.example/g01216/laws.FnExactLineOf", spec := "fnExactLineOf", unfollowed := true, recurses := true, apart := false }
def FnExactLineOfSaid : Prop := fnExactLineOfRow.holds Try.pinned (OpenSpec.ofChange fnExactLineOfSpec)

/-- ITS FALSE NEIGHBOUR: 'it returns false'. Refute it at one input. -/
def fnExactLineOfWrong : ChangeSpec := { name := "fnExactLineOf", fn := fun _ => fun
  | [d] => { results := [.lit (.bool false)], args := [d] }
  | _ => none }
def FnExactLineOfWrongFalsely : Prop := fnExactLineOfRow.holds Try.pinned (OpenSpec.ofChange fnExactLineOfWrong)

/- THE SECOND FORM. 'bulk': how many values and letters a reading holds, each counted each time it is reached (what is shared counts as often as it is met; a slice's spare places count too). A statement '..UptoSaid' is the law's where the arguments, and the package variables that the reading takes, are together of bulk at most 1048576: NARROWER than '..Said'. Prove '..Said' where nothing that the law and all that it calls make is longer than what came in: it says more and counts as full. Else prove '..UptoSaid'. A law counts once. -/
mutual
def uptoBulk {H : Type} : DataW H → Nat
  | .lit (.string bytes) => bytes.length + 1
  | .lit _ => 1
  | .nil => 1
  | .ptr d => uptoBulk d + 1
  | .slice elems spare => uptoBulkAll elems + uptoBulkAll spare + 1
  | .agg parts => uptoBulkAll parts + 1
  | .iface _ d => uptoBulk d + 1
  | .map entries => uptoBulkEntries entries + 1
  | .held _ => 1
def uptoBulkAll {H : Type} : List (DataW H) → Nat
  | [] => 0
  | d :: r => uptoBulk d + uptoBulkAll r
def uptoBulkEntries {H : Type} : List (Lit × DataW H) → Nat
  | [] => 0
  | x :: r => uptoBulkEntry x + uptoBulkEntries r
def uptoBulkEntry {H : Type} : Lit × DataW H → Nat
  | (.string bytes, d) => bytes.length + uptoBulk d + 1
  | (_, d) => uptoBulk d + 1
 end
def uptoSmall : (H : Type) → List (DataW H) → Bool := fun _ ds => decide (uptoBulkAll ds ≤ 1048576)
def OpenSpec.upto (s : _root_.Go.ChangeSpec) : _root_.Go.OpenSpec := { _root_.Go.OpenSpec.ofChange s with cond := some uptoSmall }

/-- 'laws.FnExactSetOf', WHERE WHAT IT READS IS OF BULK AT MOST 1048576: true; the input reads as it did. -/
def fnExactSetOfUptoRow : OpenClaim := { program := "ytgcfddomnohajaa", sum := "6fa2df431bf272f3907f63c16cd025f856779a479ac1414c41a2a44ce7c7c4d0", func := "loop.example/g01216/laws.FnExactSetOf", spec := "fnExactSetOf", apart := false, narrowed := true }
def FnExactSetOfUptoSaid : Prop := fnExactSetOfUptoRow.holds Try.pinned (OpenSpec.upto fnExactSetOfSpec)

/-- 'laws.FnExactIsHand', WHERE WHAT IT READS IS OF BULK AT MOST 1048576: true; the input reads as it did. -/
def fnExactIsHandUptoRow : OpenClaim := { program := "ytgcfddomnohajaa", sum := "6fa2df431bf272f3907f63c16cd025f856779a479ac1414c41a2a44ce7c7c4d0", func := "loop.example/g01216/laws.FnExactIsHand", spec := "fnExactIsHand", unfollowed := true, recurses := true, apart := false, narrowed := true }
def FnExactIsHandUptoSaid : Prop := fnExactIsHandUptoRow.holds Try.pinned (OpenSpec.upto fnExactIsHandSpec)

/-- 'laws.FnExactIsChain', WHERE WHAT IT READS IS OF BULK AT MOST 1048576: true; the input reads as it did. -/
def fnExactIsChainUptoRow : OpenClaim := { program := "ytgcfddomnohajaa", sum := "6fa2df431bf272f3907f63c16cd025f856779a479ac1414c41a2a44ce7c7c4d0", func := "loop.example/g01216/laws.FnExactIsChain", spec := "fnExactIsChain", unfollowed := true, recurses := true, apart := false, narrowed := true }
def FnExactIsChainUptoSaid : Prop := fnExactIsChainUptoRow.holds Try.pinned (OpenSpec.upto fnExactIsChainSpec)

/-- 'laws.FnExactPipsOf', WHERE WHAT IT READS IS OF BULK AT MOST 1048576: true; the input reads as it did. -/
def fnExactPipsOfUptoRow : OpenClaim := { program := "ytgcfddomnohajaa", sum := "6fa2df431bf272f3907f63c16cd025f856779a479ac1414c41a2a44ce7c7c4d0", func := "loop.example/g01216/laws.FnExactPipsOf", spec := "fnExactPipsOf", unfollowed := true, recurses := true, apart := false, narrowed := true }
def FnExactPipsOfUptoSaid : Prop := fnExactPipsOfUptoRow.holds Try.pinned (OpenSpec.upto fnExactPipsOfSpec)

/-- 'laws.FnExactEndsOfChain', WHERE WHAT IT READS IS OF BULK AT MOST 1048576: true; the input reads as it did. -/
def fnExactEndsOfChainUptoRow : OpenClaim := { program := "ytgcfddomnohajaa", sum := "6fa2df431bf272f3907f63c16cd025f856779a479ac1414c41a2a44ce7c7c4d0", func := "loop.example/g01216/laws.FnExactEndsOfChain", spec := "fnExactEndsOfChain", unfollowed := true, recurses := true, apart := false, narrowed := true }
def FnExactEndsOfChainUptoSaid : Prop := fnExactEndsOfChainUptoRow.holds Try.pinned (OpenSpec.upto fnExactEndsOfChainSpec)

/-- 'laws.FnExactIsRing', WHERE WHAT IT READS IS OF BULK AT MOST 1048576: true; the input reads as it did. -/
def fnExactIsRingUptoRow : OpenClaim := { program := "ytgcfddomnohajaa", sum := "6fa2df431bf272f3907f63c16cd025f856779a479ac1414c41a2a44ce7c7c4d0", func := "loop.example/g01216/laws.FnExactIsRing", spec := "fnExactIsRing", unfollowed := true, recurses := true, apart := false, narrowed := true }
def FnExactIsRingUptoSaid : Prop := fnExactIsRingUptoRow.holds Try.pinned (OpenSpec.upto fnExactIsRingSpec)

/-- 'laws.FnExactTimesOf', WHERE WHAT IT READS IS OF BULK AT MOST 1048576: true; the input reads as it did. -/
def fnExactTimesOfUptoRow : OpenClaim := { program := "ytgcfddomnohajaa", sum := "6fa2df431bf272f3907f63c16cd025f856779a479ac1414c41a2a44ce7c7c4d0", func := "loop.example/g01216/laws.FnExactTimesOf", spec := "fnExactTimesOf", unfollowed := true, recurses := true, apart := false, narrowed := true }
def FnExactTimesOfUptoSaid : Prop := fnExactTimesOfUptoRow.holds Try.pinned (OpenSpec.upto fnExactTimesOfSpec)

/-- 'laws.FnExactChainText', WHERE WHAT IT READS IS OF BULK AT MOST 1048576: true; the input reads as it did. -/
def fnExactChainTextUptoRow : OpenClaim := { program := "ytgcfddomnohajaa", sum := "6fa2df431bf272f3907f63c16cd025f856779a479ac1414c41a2a44ce7c7c4d0", func := "loop.example/g01216/laws.FnExactChainText", spec := "fnExactChainText", unfollowed := true, recurses := true, apart := false, narrowed := true }
def FnExactChainTextUptoSaid : Prop := fnExactChainTextUptoRow.holds Try.pinned (OpenSpec.upto fnExactChainTextSpec)

/-- 'laws.FnExactParseChain', WHERE WHAT IT READS IS OF BULK AT MOST 1048576: true; the input reads as it did. -/
def fnExactParseChainUptoRow : OpenClaim := { program := "ytgcfddomnohajaa", sum := "6fa2df431bf272f3907f63c16cd025f856779a479ac1414c41a2a44ce7c7c4d0", func := "loop.example/g01216/laws.FnExactParseChain", spec := "fnExactParseChain", unfollowed := true, recurses := true, apart := false, narrowed := true }
def FnExactParseChainUptoSaid : Prop := fnExactParseChainUptoRow.holds Try.pinned (OpenSpec.upto fnExactParseChainSpec)

/-- 'laws.FnExactTurnChain', WHERE WHAT IT READS IS OF BULK AT MOST 1048576: true; the input reads as it did. -/
def fnExactTurnChainUptoRow : OpenClaim := { program := "ytgcfddomnohajaa", sum := "6fa2df431bf272f3907f63c16cd025f856779a479ac1414c41a2a44ce7c7c4d0", func := "loop.example/g01216/laws.FnExactTurnChain", spec := "fnExactTurnChain", unfollowed := true, recurses := true, apart := false, narrowed := true }
def FnExactTurnChainUptoSaid : Prop := fnExactTurnChainUptoRow.holds Try.pinned (OpenSpec.upto fnExactTurnChainSpec)

/-- 'laws.FnExactTilesOfChain', WHERE WHAT IT READS IS OF BULK AT MOST 1048576: true; the input reads as it did. -/
def fnExactTilesOfChainUptoRow : OpenClaim := { program := "ytgcfddomnohajaa", sum := "6fa2df431bf272f3907f63c16cd025f856779a479ac1414c41a2a44ce7c7c4d0", func := "loop.example/g01216/laws.FnExactTilesOfChain", spec := "fnExactTilesOfChain", unfollowed := true, recurses := true, apart := false, narrowed := true }
def FnExactTilesOfChainUptoSaid : Prop := fnExactTilesOfChainUptoRow.holds Try.pinned (OpenSpec.upto fnExactTilesOfChainSpec)

/-- 'laws.FnExactDropDoubles', WHERE WHAT IT READS IS OF BULK AT MOST 1048576: true; the input reads as it did. -/
def fnExactDropDoublesUptoRow : OpenClaim := { program := "ytgcfddomnohajaa", sum := "6fa2df431bf272f3907f63c16cd025f856779a479ac1414c41a2a44ce7c7c4d0", func := "loop.example/g01216/laws.FnExactDropDoubles", spec := "fnExactDropDoubles", unfollowed := true, recurses := true, apart := false, narrowed := true }
def FnExactDropDoublesUptoSaid : Prop := fnExactDropDoublesUptoRow.holds Try.pinned (OpenSpec.upto fnExactDropDoublesSpec)

/-- 'laws.FnExactJoinChains', WHERE WHAT IT READS IS OF BULK AT MOST 1048576: true; the input reads as it did. -/
def fnExactJoinChainsUptoRow : OpenClaim := { program := "ytgcfddomnohajaa", sum := "6fa2df431bf272f3907f63c16cd025f856779a479ac1414c41a2a44ce7c7c4d0", func := "loop.example/g01216/laws.FnExactJoinChains", spec := "fnExactJoinChains", unfollowed := true, recurses := true, apart := false, narrowed := true }
def FnExactJoinChainsUptoSaid : Prop := fnExactJoinChainsUptoRow.holds Try.pinned (OpenSpec.upto fnExactJoinChainsSpec)

/-- 'laws.FnExactSpinRing', WHERE WHAT IT READS IS OF BULK AT MOST 1048576: true; the input reads as it did. -/
def fnExactSpinRingUptoRow : OpenClaim := { program := "ytgcfddomnohajaa", sum := "6fa2df431bf272f3907f63c16cd025f856779a479ac1414c41a2a44ce7c7c4d0", func := "loop.example/g01216/laws.FnExactSpinRing", spec := "fnExactSpinRing", unfollowed := true, recurses := true, apart := false, narrowed := true }
def FnExactSpinRingUptoSaid : Prop := fnExactSpinRingUptoRow.holds Try.pinned (OpenSpec.upto fnExactSpinRingSpec)

/-- 'laws.FnExactNumbersOf', WHERE WHAT IT READS IS OF BULK AT MOST 1048576: true; the input reads as it did. -/
def fnExactNumbersOfUptoRow : OpenClaim := { program := "ytgcfddomnohajaa", sum := "6fa2df431bf272f3907f63c16cd025f856779a479ac1414c41a2a44ce7c7c4d0", func := "loop.example/g01216/laws.FnExactNumbersOf", spec := "fnExactNumbersOf", unfollowed := true, recurses := true, apart := false, narrowed := true }
def FnExactNumbersOfUptoSaid : Prop := fnExactNumbersOfUptoRow.holds Try.pinned (OpenSpec.upto fnExactNumbersOfSpec)

/-- 'laws.FnExactFirstLeftOut', WHERE WHAT IT READS IS OF BULK AT MOST 1048576: true; the input reads as it did. -/
def fnExactFirstLeftOutUptoRow : OpenClaim := { program := "ytgcfddomnohajaa", sum := "6fa2df431bf272f3907f63c16cd025f856779a479ac1414c41a2a44ce7c7c4d0", func := "loop.example/g01216/laws.FnExactFirstLeftOut", spec := "fnExactFirstLeftOut", recurses := true, apart := false, narrowed := true }
def FnExactFirstLeftOutUptoSaid : Prop := fnExactFirstLeftOutUptoRow.holds Try.pinned (OpenSpec.upto fnExactFirstLeftOutSpec)

/-- 'laws.FnExactLayTile', WHERE WHAT IT READS IS OF BULK AT MOST 1048576: true; the input reads as it did. -/
def fnExactLayTileUptoRow : OpenClaim := { program := "ytgcfddomnohajaa", sum := "6fa2df431bf272f3907f63c16cd025f856779a479ac1414c41a2a44ce7c7c4d0", func := "loop.example/g01216/laws.FnExactLayTile", spec := "fnExactLayTile", unfollowed := true, recurses := true, apart := false, narrowed := true }
def FnExactLayTileUptoSaid : Prop := fnExactLayTileUptoRow.holds Try.pinned (OpenSpec.upto fnExactLayTileSpec)

/-- 'laws.FnExactHandText', WHERE WHAT IT READS IS OF BULK AT MOST 1048576: true; the input reads as it did. -/
def fnExactHandTextUptoRow : OpenClaim := { program := "ytgcfddomnohajaa", sum := "6fa2df431bf272f3907f63c16cd025f856779a479ac1414c41a2a44ce7c7c4d0", func := "loop.example/g01216/laws.FnExactHandText", spec := "fnExactHandText", inPlace := ["internal/abi.NoEscape", "internal/bytealg.MakeNoZero"], unfollowed := true, recurses := true, apart := false, narrowed := true }
def FnExactHandTextUptoSaid : Prop := fnExactHandTextUptoRow.holds Try.pinned (OpenSpec.upto fnExactHandTextSpec)

/-- 'laws.FnExactLineOf', WHERE WHAT IT READS IS OF BULK AT MOST 1048576: true; the input reads as it did. -/
def fnExactLineOfUptoRow : OpenClaim := { program := "ytgcfddomnohajaa", sum := "6fa2df431bf272f3907f63c16cd025f856779a479ac1414c41a2a44ce7c7c4d0", func := "loop.example/g01216/laws.FnExactLineOf", spec := "fnExactLineOf", unfollowed := true, recurses := true, apart := false, narrowed := true }
def FnExactLineOfUptoSaid : Prop := fnExactLineOfUptoRow.holds Try.pinned (OpenSpec.upto fnExactLineOfSpec)

end Rows
end Go.Proofs.Ytgcfddomnohajaa
