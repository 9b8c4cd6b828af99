/-
  No cell of these rows narrows 'for every input' (looked for: loops, veiled, ifaces, maps, wideKeys, modest, calm, conditions, laid).
  DERIVED. THE GIVEN ROWS OF THIS SEAT. 8 by the template 'for every input the law returns true; each argument reads behind the call as it read before'; 0 by the template 'total and deterministic' (their statements: YtafehlajangbfaaTotals.lean).
  GIVEN WITH THE SEED: the statements are not yours to turn. If you find one false, say at which input.
  Laid BY PROGRAM, IN A SANDBOX (cutbox-rows.mjs): the forced cells as the released guide's own fill.sh prints them over the translation 9a142b0366a1c98a… (all of the seat's roots in one cut). By AI agents, Wed Nov 11 2026. No macro, syntax, notation, axiom, sorry.
-/
import Derived.Test.YtafehlajangbfaaChecked
import GoSem.Claim
import GoSem.ClaimJoined
import GoSem.ClaimMapViews
import Derived.JoinedTies
import Derived.KernelRfl
namespace Go.Proofs.Ytafehlajangbfaa
/- THE CELL 'sum', in the pinned program and in every row, IS THE sha256 OF THE DUMP (.gsa) THAT YtafehlajangbfaaProg.lean LOADS. Nothing in Lean hashes anything: it is a label: what it is worth is what the hold of that sum in a sandbox is worth. -/
noncomputable def Try.pinned : Pinned := { name := "ytafehlajangbfaa", sum := "9a142b0366a1c98aca12fddbbc45f8fe00c751230e1e21d86f97a3d87500dfe7", checked := Try.checked }
namespace Rows
def none {H : Type} : Left H := { results := [], args := [] }

/-- 'laws.FnExactConstants': WHATEVER THE INPUT: true; the input reads as it did. -/
def fnExactConstantsSpec : ChangeSpec := { name := "fnExactConstants", fn := fun _ => fun
  | [] => { results := [.lit (.bool true)], args := [] }
  | _ => none }
def fnExactConstantsRow : OpenClaim := { program := "ytafehlajangbfaa", sum := "9a142b0366a1c98aca12fddbbc45f8fe00c751230e1e21d86f97a3d87500dfe7", func := "loop.example/g01216/laws.FnExactConstants", spec := "fnExactConstants", apart := false }
def FnExactConstantsSaid : Prop := fnExactConstantsRow.holds Try.pinned (OpenSpec.ofChange fnExactConstantsSpec)

/-- ITS FALSE NEIGHBOUR: 'it returns false'. Refute it at one input. -/
def fnExactConstantsWrong : ChangeSpec := { name := "fnExactConstants", fn := fun _ => fun
  | [] => { results := [.lit (.bool false)], args := [] }
  | _ => none }
def FnExactConstantsWrongFalsely : Prop := fnExactConstantsRow.holds Try.pinned (OpenSpec.ofChange fnExactConstantsWrong)

/-- 'laws.FnExactIsTile': WHATEVER THE INPUT: true; the input reads as it did. -/
def fnExactIsTileSpec : ChangeSpec := { name := "fnExactIsTile", fn := fun _ => fun
  | [d] => { results := [.lit (.bool true)], args := [d] }
  | _ => none }
def fnExactIsTileRow : OpenClaim := { program := "ytafehlajangbfaa", sum := "9a142b0366a1c98aca12fddbbc45f8fe00c751230e1e21d86f97a3d87500dfe7", func := "loop.example/g01216/laws.FnExactIsTile", spec := "fnExactIsTile", apart := false }
def FnExactIsTileSaid : Prop := fnExactIsTileRow.holds Try.pinned (OpenSpec.ofChange fnExactIsTileSpec)

/-- ITS FALSE NEIGHBOUR: 'it returns false'. Refute it at one input. -/
def fnExactIsTileWrong : ChangeSpec := { name := "fnExactIsTile", fn := fun _ => fun
  | [d] => { results := [.lit (.bool false)], args := [d] }
  | _ => none }
def FnExactIsTileWrongFalsely : Prop := fnExactIsTileRow.holds Try.pinned (OpenSpec.ofChange fnExactIsTileWrong)

/-- 'laws.FnExactCountSet': WHATEVER THE INPUT: true; the input reads as it did. -/
def fnExactCountSetSpec : ChangeSpec := { name := "fnExactCountSet", fn := fun _ => fun
  | [d] => { results := [.lit (.bool true)], args := [d] }
  | _ => none }
def fnExactCountSetRow : OpenClaim := { program := "ytafehlajangbfaa", sum := "9a142b0366a1c98aca12fddbbc45f8fe00c751230e1e21d86f97a3d87500dfe7", func := "loop.example/g01216/laws.FnExactCountSet", spec := "fnExactCountSet", apart := false }
def FnExactCountSetSaid : Prop := fnExactCountSetRow.holds Try.pinned (OpenSpec.ofChange fnExactCountSetSpec)

/-- ITS FALSE NEIGHBOUR: 'it returns false'. Refute it at one input. -/
def fnExactCountSetWrong : ChangeSpec := { name := "fnExactCountSet", fn := fun _ => fun
  | [d] => { results := [.lit (.bool false)], args := [d] }
  | _ => none }
def FnExactCountSetWrongFalsely : Prop := fnExactCountSetRow.holds Try.pinned (OpenSpec.ofChange fnExactCountSetWrong)

/-- 'laws.FnExactLeastLeftOut': WHATEVER THE INPUT: true; the input reads as it did. -/
def fnExactLeastLeftOutSpec : ChangeSpec := { name := "fnExactLeastLeftOut", fn := fun _ => fun
  | [d] => { results := [.lit (.bool true)], args := [d] }
  | _ => none }
def fnExactLeastLeftOutRow : OpenClaim := { program := "ytafehlajangbfaa", sum := "9a142b0366a1c98aca12fddbbc45f8fe00c751230e1e21d86f97a3d87500dfe7", func := "loop.example/g01216/laws.FnExactLeastLeftOut", spec := "fnExactLeastLeftOut", apart := false }
def FnExactLeastLeftOutSaid : Prop := fnExactLeastLeftOutRow.holds Try.pinned (OpenSpec.ofChange fnExactLeastLeftOutSpec)

/-- ITS FALSE NEIGHBOUR: 'it returns false'. Refute it at one input. -/
def fnExactLeastLeftOutWrong : ChangeSpec := { name := "fnExactLeastLeftOut", fn := fun _ => fun
  | [d] => { results := [.lit (.bool false)], args := [d] }
  | _ => none }
def FnExactLeastLeftOutWrongFalsely : Prop := fnExactLeastLeftOutRow.holds Try.pinned (OpenSpec.ofChange fnExactLeastLeftOutWrong)

/-- 'laws.FnExactTileOf': WHATEVER THE INPUT: true; the input reads as it did. -/
def fnExactTileOfSpec : ChangeSpec := { name := "fnExactTileOf", fn := fun _ => fun
  | [d1, d2] => { results := [.lit (.bool true)], args := [d1, d2] }
  | _ => none }
def fnExactTileOfRow : OpenClaim := { program := "ytafehlajangbfaa", sum := "9a142b0366a1c98aca12fddbbc45f8fe00c751230e1e21d86f97a3d87500dfe7", func := "loop.example/g01216/laws.FnExactTileOf", spec := "fnExactTileOf", apart := false }
def FnExactTileOfSaid : Prop := fnExactTileOfRow.holds Try.pinned (OpenSpec.ofChange fnExactTileOfSpec)

/-- ITS FALSE NEIGHBOUR: 'it returns false'. Refute it at one input. -/
def fnExactTileOfWrong : ChangeSpec := { name := "fnExactTileOf", fn := fun _ => fun
  | [d1, d2] => { results := [.lit (.bool false)], args := [d1, d2] }
  | _ => none }
def FnExactTileOfWrongFalsely : Prop := fnExactTileOfRow.holds Try.pinned (OpenSpec.ofChange fnExactTileOfWrong)

/-- 'laws.FnExactTileOfRank': WHATEVER THE INPUT: true; the input reads as it did. -/
def fnExactTileOfRankSpec : ChangeSpec := { name := "fnExactTileOfRank", fn := fun _ => fun
  | [d] => { results := [.lit (.bool true)], args := [d] }
  | _ => none }
def fnExactTileOfRankRow : OpenClaim := { program := "ytafehlajangbfaa", sum := "9a142b0366a1c98aca12fddbbc45f8fe00c751230e1e21d86f97a3d87500dfe7", func := "loop.example/g01216/laws.FnExactTileOfRank", spec := "fnExactTileOfRank", apart := false }
def FnExactTileOfRankSaid : Prop := fnExactTileOfRankRow.holds Try.pinned (OpenSpec.ofChange fnExactTileOfRankSpec)

/-- ITS FALSE NEIGHBOUR: 'it returns false'. Refute it at one input. -/
def fnExactTileOfRankWrong : ChangeSpec := { name := "fnExactTileOfRank", fn := fun _ => fun
  | [d] => { results := [.lit (.bool false)], args := [d] }
  | _ => none }
def FnExactTileOfRankWrongFalsely : Prop := fnExactTileOfRankRow.holds Try.pinned (OpenSpec.ofChange fnExactTileOfRankWrong)

/-- 'laws.FnExactRankOf': WHATEVER THE INPUT: true; the input reads as it did. -/
def fnExactRankOfSpec : ChangeSpec := { name := "fnExactRankOf", fn := fun _ => fun
  | [d] => { results := [.lit (.bool true)], args := [d] }
  | _ => none }
def fnExactRankOfRow : OpenClaim := { program := "ytafehlajangbfaa", sum := "9a142b0366a1c98aca12fddbbc45f8fe00c751230e1e21d86f97a3d87500dfe7", func := "loop.example/g01216/laws.FnExactRankOf", spec := "fnExactRankOf", apart := false }
def FnExactRankOfSaid : Prop := fnExactRankOfRow.holds Try.pinned (OpenSpec.ofChange fnExactRankOfSpec)

/-- ITS FALSE NEIGHBOUR: 'it returns false'. Refute it at one input. -/
def fnExactRankOfWrong : ChangeSpec := { name := "fnExactRankOf", fn := fun _ => fun
  | [d] => { results := [.lit (.bool false)], args := [d] }
  | _ => none }
def FnExactRankOfWrongFalsely : Prop := fnExactRankOfRow.holds Try.pinned (OpenSpec.ofChange fnExactRankOfWrong)

/-- 'laws.FnExactCountWithoutDoubles': WHATEVER THE INPUT: true; the input reads as it did. -/
def fnExactCountWithoutDoublesSpec : ChangeSpec := { name := "fnExactCountWithoutDoubles", fn := fun _ => fun
  | [d] => { results := [.lit (.bool true)], args := [d] }
  | _ => none }
def fnExactCountWithoutDoublesRow : OpenClaim := { program := "ytafehlajangbfaa", sum := "9a142b0366a1c98aca12fddbbc45f8fe00c751230e1e21d86f97a3d87500dfe7", func := "loop.example/g01216/laws.FnExactCountWithoutDoubles", spec := "fnExactCountWithoutDoubles", unfollowed := true, recurses := true, apart := false }
def FnExactCountWithoutDoublesSaid : Prop := fnExactCountWithoutDoublesRow.holds Try.pinned (OpenSpec.ofChange fnExactCountWithoutDoublesSpec)

/-- ITS FALSE NEIGHBOUR: 'it returns false'. Refute it at one input. -/
def fnExactCountWithoutDoublesWrong : ChangeSpec := { name := "fnExactCountWithoutDoubles", fn := fun _ => fun
  | [d] => { results := [.lit (.bool false)], args := [d] }
  | _ => none }
def FnExactCountWithoutDoublesWrongFalsely : Prop := fnExactCountWithoutDoublesRow.holds Try.pinned (OpenSpec.ofChange fnExactCountWithoutDoublesWrong)

/- THE SECOND FORM. 'bulk': how many values and letters a reading holds, each counted each time it is reached (what is shared counts as often as it is met; a slice's spare places count too). A statement '..UptoSaid' is the law's where the arguments, and the package variables that the reading takes, are together of bulk at most 1048576: NARROWER than '..Said'. Prove '..Said' where nothing that the law and all that it calls make is longer than what came in: it says more and counts as full. Else prove '..UptoSaid'. A law counts once. -/
mutual
def uptoBulk {H : Type} : DataW H → Nat
  | .lit (.string bytes) => bytes.length + 1
  | .lit _ => 1
  | .nil => 1
  | .ptr d => uptoBulk d + 1
  | .slice elems spare => uptoBulkAll elems + uptoBulkAll spare + 1
  | .agg parts => uptoBulkAll parts + 1
  | .iface _ d => uptoBulk d + 1
  | .map entries => uptoBulkEntries entries + 1
  | .held _ => 1
def uptoBulkAll {H : Type} : List (DataW H) → Nat
  | [] => 0
  | d :: r => uptoBulk d + uptoBulkAll r
def uptoBulkEntries {H : Type} : List (Lit × DataW H) → Nat
  | [] => 0
  | x :: r => uptoBulkEntry x + uptoBulkEntries r
def uptoBulkEntry {H : Type} : Lit × DataW H → Nat
  | (.string bytes, d) => bytes.length + uptoBulk d + 1
  | (_, d) => uptoBulk d + 1
 end
def uptoSmall : (H : Type) → List (DataW H) → Bool := fun _ ds => decide (uptoBulkAll ds ≤ 1048576)
def OpenSpec.upto (s : _root_.Go.ChangeSpec) : _root_.Go.OpenSpec := { _root_.Go.OpenSpec.ofChange s with cond := some uptoSmall }

/-- 'laws.FnExactConstants', WHERE WHAT IT READS IS OF BULK AT MOST 1048576: true; the input reads as it did. -/
def fnExactConstantsUptoRow : OpenClaim := { program := "ytafehlajangbfaa", sum := "9a142b0366a1c98aca12fddbbc45f8fe00c751230e1e21d86f97a3d87500dfe7", func := "loop.example/g01216/laws.FnExactConstants", spec := "fnExactConstants", apart := false, narrowed := true }
def FnExactConstantsUptoSaid : Prop := fnExactConstantsUptoRow.holds Try.pinned (OpenSpec.upto fnExactConstantsSpec)

/-- 'laws.FnExactIsTile', WHERE WHAT IT READS IS OF BULK AT MOST 1048576: true; the input reads as it did. -/
def fnExactIsTileUptoRow : OpenClaim := { program := "ytafehlajangbfaa", sum := "9a142b0366a1c98aca12fddbbc45f8fe00c751230e1e21d86f97a3d87500dfe7", func := "loop.example/g01216/laws.FnExactIsTile", spec := "fnExactIsTile", apart := false, narrowed := true }
def FnExactIsTileUptoSaid : Prop := fnExactIsTileUptoRow.holds Try.pinned (OpenSpec.upto fnExactIsTileSpec)

/-- 'laws.FnExactCountSet', WHERE WHAT IT READS IS OF BULK AT MOST 1048576: true; the input reads as it did. -/
def fnExactCountSetUptoRow : OpenClaim := { program := "ytafehlajangbfaa", sum := "9a142b0366a1c98aca12fddbbc45f8fe00c751230e1e21d86f97a3d87500dfe7", func := "loop.example/g01216/laws.FnExactCountSet", spec := "fnExactCountSet", apart := false, narrowed := true }
def FnExactCountSetUptoSaid : Prop := fnExactCountSetUptoRow.holds Try.pinned (OpenSpec.upto fnExactCountSetSpec)

/-- 'laws.FnExactLeastLeftOut', WHERE WHAT IT READS IS OF BULK AT MOST 1048576: true; the input reads as it did. -/
def fnExactLeastLeftOutUptoRow : OpenClaim := { program := "ytafehlajangbfaa", sum := "9a142b0366a1c98aca12fddbbc45f8fe00c751230e1e21d86f97a3d87500dfe7", func := "loop.example/g01216/laws.FnExactLeastLeftOut", spec := "fnExactLeastLeftOut", apart := false, narrowed := true }
def FnExactLeastLeftOutUptoSaid : Prop := fnExactLeastLeftOutUptoRow.holds Try.pinned (OpenSpec.upto fnExactLeastLeftOutSpec)

/-- 'laws.FnExactTileOf', WHERE WHAT IT READS IS OF BULK AT MOST 1048576: true; the input reads as it did. -/
def fnExactTileOfUptoRow : OpenClaim := { program := "ytafehlajangbfaa", sum := "9a142b0366a1c98aca12fddbbc45f8fe00c751230e1e21d86f97a3d87500dfe7", func := "loop.example/g01216/laws.FnExactTileOf", spec := "fnExactTileOf", apart := false, narrowed := true }
def FnExactTileOfUptoSaid : Prop := fnExactTileOfUptoRow.holds Try.pinned (OpenSpec.upto fnExactTileOfSpec)

/-- 'laws.FnExactTileOfRank', WHERE WHAT IT READS IS OF BULK AT MOST 1048576: true; the input reads as it did. -/
def fnExactTileOfRankUptoRow : OpenClaim := { program := "ytafehlajangbfaa", sum := "9a142b0366a1c98aca12fddbbc45f8fe00c751230e1e21d86f97a3d87500dfe7", func := "loop.example/g01216/laws.FnExactTileOfRank", spec := "fnExactTileOfRank", apart := false, narrowed := true }
def FnExactTileOfRankUptoSaid : Prop := fnExactTileOfRankUptoRow.holds Try.pinned (OpenSpec.upto fnExactTileOfRankSpec)

/-- 'laws.FnExactRankOf', WHERE WHAT IT READS IS OF BULK AT MOST 1048576: true; the input reads as it did. -/
def fnExactRankOfUptoRow : OpenClaim := { program := "ytafehlajangbfaa", sum := "9a142b0366a1c98aca12fddbbc45f8fe00c751230e1e21d86f97a3d87500dfe7", func := "loop.example/g01216/laws.FnExactRankOf", spec := "fnExactRankOf", apart := false, narrowed := true }
def FnExactRankOfUptoSaid : Prop := fnExactRankOfUptoRow.holds Try.pinned (OpenSpec.upto fnExactRankOfSpec)

/-- 'laws.FnExactCountWithoutDoubles', WHERE WHAT IT READS IS OF BULK AT MOST 1048576: true; the input reads as it did. -/
def fnExactCountWithoutDoublesUptoRow : OpenClaim := { program := "ytafehlajangbfaa", sum := "9a142b0366a1c98aca12fddbbc45f8fe00c751230e1e21d86f97a3d87500dfe7", func := "loop.example/g01216/laws.FnExactCountWithoutDoubles", spec := "fnExactCountWithoutDoubles", unfollowed := true, recurses := true, apart := false, narrowed := true }
def FnExactCountWithoutDoublesUptoSaid : Prop := fnExactCountWithoutDoublesUptoRow.holds Try.pinned (OpenSpec.upto fnExactCountWithoutDoublesSpec)

end Rows
end Go.Proofs.Ytafehlajangbfaa
