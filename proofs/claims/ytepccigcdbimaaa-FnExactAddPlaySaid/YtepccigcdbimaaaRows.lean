/-
  No cell of these rows narrows 'for every input' (looked for: loops, veiled, ifaces, maps, wideKeys, modest, calm, conditions, laid).
  DERIVED. THE GIVEN ROWS OF THIS SEAT. 10 by the template 'for every input the law returns true; each argument reads behind the call as it read before'; 0 by the template 'total and deterministic' (their statements: YtepccigcdbimaaaTotals.lean).
  GIVEN WITH THE SEED: the statements are not yours to turn. If you find one false, say at which input.
  Laid BY PROGRAM, IN A SANDBOX (cutbox-rows.mjs): the forced cells as the released guide's own fill.sh prints them over the translation 2d27dd8cb561c7bb… (all of the seat's roots in one cut). By AI agents, Wed Nov 11 2026. No macro, syntax, notation, axiom, sorry.
-/
import Derived.Test.YtepccigcdbimaaaChecked
import GoSem.Claim
import GoSem.ClaimJoined
import GoSem.ClaimMapViews
import Derived.JoinedTies
import Derived.KernelRfl
namespace Go.Proofs.Ytepccigcdbimaaa
/- THE CELL 'sum', in the pinned program and in every row, IS THE sha256 OF THE DUMP (.gsa) THAT YtepccigcdbimaaaProg.lean LOADS. Nothing in Lean hashes anything: it is a label: what it is worth is what the hold of that sum in a sandbox is worth. -/
noncomputable def Try.pinned : Pinned := { name := "ytepccigcdbimaaa", sum := "2d27dd8cb561c7bbca6dfc37ac9196f450a201f0c4c7258135ce80a19700c96e", checked := Try.checked }
namespace Rows
def none {H : Type} : Left H := { results := [], args := [] }

/-- 'laws.FnExactDropDoubles': WHATEVER THE INPUT: true; the input reads as it did. -/
def fnExactDropDoublesSpec : ChangeSpec := { name := "fnExactDropDoubles", fn := fun _ => fun
  | [d] => { results := [.lit (.bool true)], args := [d] }
  | _ => none }
def fnExactDropDoublesRow : OpenClaim := { program := "ytepccigcdbimaaa", sum := "2d27dd8cb561c7bbca6dfc37ac9196f450a201f0c4c7258135ce80a19700c96e", func := "loop.example/g01216/laws.FnExactDropDoubles", spec := "fnExactDropDoubles", unfollowed := true, recurses := true, apart := false }
def FnExactDropDoublesSaid : Prop := fnExactDropDoublesRow.holds Try.pinned (OpenSpec.ofChange fnExactDropDoublesSpec)

/-- ITS FALSE NEIGHBOUR: 'it returns false'. Refute it at one input. -/
def fnExactDropDoublesWrong : ChangeSpec := { name := "fnExactDropDoubles", fn := fun _ => fun
  | [d] => { results := [.lit (.bool false)], args := [d] }
  | _ => none }
def FnExactDropDoublesWrongFalsely : Prop := fnExactDropDoublesRow.holds Try.pinned (OpenSpec.ofChange fnExactDropDoublesWrong)

/-- 'laws.FnExactHandText': WHATEVER THE INPUT: true; the input reads as it did. -/
def fnExactHandTextSpec : ChangeSpec := { name := "fnExactHandText", fn := fun _ => fun
  | [d] => { results := [.lit (.bool true)], args := [d] }
  | _ => none }
def fnExactHandTextRow : OpenClaim := { program := "ytepccigcdbimaaa", sum := "2d27dd8cb561c7bbca6dfc37ac9196f450a201f0c4c7258135ce80a19700c96e", func := "loop.example/g01216/laws.FnExactHandText", spec := "fnExactHandText", inPlace := ["internal/abi.NoEscape", "internal/bytealg.MakeNoZero"], unfollowed := true, recurses := true, apart := false }
def FnExactHandTextSaid : Prop := fnExactHandTextRow.holds Try.pinned (OpenSpec.ofChange fnExactHandTextSpec)

/-- ITS FALSE NEIGHBOUR: 'it returns false'. Refute it at one input. -/
def fnExactHandTextWrong : ChangeSpec := { name := "fnExactHandText", fn := fun _ => fun
  | [d] => { results := [.lit (.bool false)], args := [d] }
  | _ => none }
def FnExactHandTextWrongFalsely : Prop := fnExactHandTextRow.holds Try.pinned (OpenSpec.ofChange fnExactHandTextWrong)

/-- 'laws.FnExactParseChain': WHATEVER THE INPUT: true; the input reads as it did. -/
def fnExactParseChainSpec : ChangeSpec := { name := "fnExactParseChain", fn := fun _ => fun
  | [d] => { results := [.lit (.bool true)], args := [d] }
  | _ => none }
def fnExactParseChainRow : OpenClaim := { program := "ytepccigcdbimaaa", sum := "2d27dd8cb561c7bbca6dfc37ac9196f450a201f0c4c7258135ce80a19700c96e", func := "loop.example/g01216/laws.FnExactParseChain", spec := "fnExactParseChain", unfollowed := true, recurses := true, apart := false }
def FnExactParseChainSaid : Prop := fnExactParseChainRow.holds Try.pinned (OpenSpec.ofChange fnExactParseChainSpec)

/-- ITS FALSE NEIGHBOUR: 'it returns false'. Refute it at one input. -/
def fnExactParseChainWrong : ChangeSpec := { name := "fnExactParseChain", fn := fun _ => fun
  | [d] => { results := [.lit (.bool false)], args := [d] }
  | _ => none }
def FnExactParseChainWrongFalsely : Prop := fnExactParseChainRow.holds Try.pinned (OpenSpec.ofChange fnExactParseChainWrong)

/-- 'laws.FnExactOddNumbers': WHATEVER THE INPUT: true; the input reads as it did. -/
def fnExactOddNumbersSpec : ChangeSpec := { name := "fnExactOddNumbers", fn := fun _ => fun
  | [d] => { results := [.lit (.bool true)], args := [d] }
  | _ => none }
def fnExactOddNumbersRow : OpenClaim := { program := "ytepccigcdbimaaa", sum := "2d27dd8cb561c7bbca6dfc37ac9196f450a201f0c4c7258135ce80a19700c96e", func := "loop.example/g01216/laws.FnExactOddNumbers", spec := "fnExactOddNumbers", unfollowed := true, recurses := true, apart := false }
def FnExactOddNumbersSaid : Prop := fnExactOddNumbersRow.holds Try.pinned (OpenSpec.ofChange fnExactOddNumbersSpec)

/-- ITS FALSE NEIGHBOUR: 'it returns false'. Refute it at one input. -/
def fnExactOddNumbersWrong : ChangeSpec := { name := "fnExactOddNumbers", fn := fun _ => fun
  | [d] => { results := [.lit (.bool false)], args := [d] }
  | _ => none }
def FnExactOddNumbersWrongFalsely : Prop := fnExactOddNumbersRow.holds Try.pinned (OpenSpec.ofChange fnExactOddNumbersWrong)

/-- 'laws.FnExactIsSpread': WHATEVER THE INPUT: true; the input reads as it did. -/
def fnExactIsSpreadSpec : ChangeSpec := { name := "fnExactIsSpread", fn := fun _ => fun
  | [d] => { results := [.lit (.bool true)], args := [d] }
  | _ => none }
def fnExactIsSpreadRow : OpenClaim := { program := "ytepccigcdbimaaa", sum := "2d27dd8cb561c7bbca6dfc37ac9196f450a201f0c4c7258135ce80a19700c96e", func := "loop.example/g01216/laws.FnExactIsSpread", spec := "fnExactIsSpread", apart := false }
def FnExactIsSpreadSaid : Prop := fnExactIsSpreadRow.holds Try.pinned (OpenSpec.ofChange fnExactIsSpreadSpec)

/-- ITS FALSE NEIGHBOUR: 'it returns false'. Refute it at one input. -/
def fnExactIsSpreadWrong : ChangeSpec := { name := "fnExactIsSpread", fn := fun _ => fun
  | [d] => { results := [.lit (.bool false)], args := [d] }
  | _ => none }
def FnExactIsSpreadWrongFalsely : Prop := fnExactIsSpreadRow.holds Try.pinned (OpenSpec.ofChange fnExactIsSpreadWrong)

/-- 'laws.FnExactSpinnerOf': WHATEVER THE INPUT: true; the input reads as it did. -/
def fnExactSpinnerOfSpec : ChangeSpec := { name := "fnExactSpinnerOf", fn := fun _ => fun
  | [d] => { results := [.lit (.bool true)], args := [d] }
  | _ => none }
def fnExactSpinnerOfRow : OpenClaim := { program := "ytepccigcdbimaaa", sum := "2d27dd8cb561c7bbca6dfc37ac9196f450a201f0c4c7258135ce80a19700c96e", func := "loop.example/g01216/laws.FnExactSpinnerOf", spec := "fnExactSpinnerOf", apart := false }
def FnExactSpinnerOfSaid : Prop := fnExactSpinnerOfRow.holds Try.pinned (OpenSpec.ofChange fnExactSpinnerOfSpec)

/-- ITS FALSE NEIGHBOUR: 'it returns false'. Refute it at one input. -/
def fnExactSpinnerOfWrong : ChangeSpec := { name := "fnExactSpinnerOf", fn := fun _ => fun
  | [d] => { results := [.lit (.bool false)], args := [d] }
  | _ => none }
def FnExactSpinnerOfWrongFalsely : Prop := fnExactSpinnerOfRow.holds Try.pinned (OpenSpec.ofChange fnExactSpinnerOfWrong)

/-- 'laws.FnExactTakeBack': WHATEVER THE INPUT: true; the input reads as it did. -/
def fnExactTakeBackSpec : ChangeSpec := { name := "fnExactTakeBack", fn := fun _ => fun
  | [d1, d2] => { results := [.lit (.bool true)], args := [d1, d2] }
  | _ => none }
def fnExactTakeBackRow : OpenClaim := { program := "ytepccigcdbimaaa", sum := "2d27dd8cb561c7bbca6dfc37ac9196f450a201f0c4c7258135ce80a19700c96e", func := "loop.example/g01216/laws.FnExactTakeBack", spec := "fnExactTakeBack", apart := false }
def FnExactTakeBackSaid : Prop := fnExactTakeBackRow.holds Try.pinned (OpenSpec.ofChange fnExactTakeBackSpec)

/-- ITS FALSE NEIGHBOUR: 'it returns false'. Refute it at one input. -/
def fnExactTakeBackWrong : ChangeSpec := { name := "fnExactTakeBack", fn := fun _ => fun
  | [d1, d2] => { results := [.lit (.bool false)], args := [d1, d2] }
  | _ => none }
def FnExactTakeBackWrongFalsely : Prop := fnExactTakeBackRow.holds Try.pinned (OpenSpec.ofChange fnExactTakeBackWrong)

/-- 'laws.FnExactAddPlay': WHATEVER THE INPUT: true; the input reads as it did. -/
def fnExactAddPlaySpec : ChangeSpec := { name := "fnExactAddPlay", fn := fun _ => fun
  | [d1, d2] => { results := [.lit (.bool true)], args := [d1, d2] }
  | _ => none }
def fnExactAddPlayRow : OpenClaim := { program := "ytepccigcdbimaaa", sum := "2d27dd8cb561c7bbca6dfc37ac9196f450a201f0c4c7258135ce80a19700c96e", func := "loop.example/g01216/laws.FnExactAddPlay", spec := "fnExactAddPlay", apart := false }
def FnExactAddPlaySaid : Prop := fnExactAddPlayRow.holds Try.pinned (OpenSpec.ofChange fnExactAddPlaySpec)

/-- ITS FALSE NEIGHBOUR: 'it returns false'. Refute it at one input. -/
def fnExactAddPlayWrong : ChangeSpec := { name := "fnExactAddPlay", fn := fun _ => fun
  | [d1, d2] => { results := [.lit (.bool false)], args := [d1, d2] }
  | _ => none }
def FnExactAddPlayWrongFalsely : Prop := fnExactAddPlayRow.holds Try.pinned (OpenSpec.ofChange fnExactAddPlayWrong)

/-- 'laws.FnExactLaidTiles': WHATEVER THE INPUT: true; the input reads as it did. -/
def fnExactLaidTilesSpec : ChangeSpec := { name := "fnExactLaidTiles", fn := fun _ => fun
  | [d] => { results := [.lit (.bool true)], args := [d] }
  | _ => none }
def fnExactLaidTilesRow : OpenClaim := { program := "ytepccigcdbimaaa", sum := "2d27dd8cb561c7bbca6dfc37ac9196f450a201f0c4c7258135ce80a19700c96e", func := "loop.example/g01216/laws.FnExactLaidTiles", spec := "fnExactLaidTiles", apart := false }
def FnExactLaidTilesSaid : Prop := fnExactLaidTilesRow.holds Try.pinned (OpenSpec.ofChange fnExactLaidTilesSpec)

/-- ITS FALSE NEIGHBOUR: 'it returns false'. Refute it at one input. -/
def fnExactLaidTilesWrong : ChangeSpec := { name := "fnExactLaidTiles", fn := fun _ => fun
  | [d] => { results := [.lit (.bool false)], args := [d] }
  | _ => none }
def FnExactLaidTilesWrongFalsely : Prop := fnExactLaidTilesRow.holds Try.pinned (OpenSpec.ofChange fnExactLaidTilesWrong)

/-- 'laws.FnExactArmsOf': WHATEVER THE INPUT: true; the input reads as it did. -/
def fnExactArmsOfSpec : ChangeSpec := { name := "fnExactArmsOf", fn := fun _ => fun
  | [d] => { results := [.lit (.bool true)], args := [d] }
  | _ => none }
def fnExactArmsOfRow : OpenClaim := { program := "ytepccigcdbimaaa", sum := "2d27dd8cb561c7bbca6dfc37ac9196f450a201f0c4c7258135ce80a19700c96e", func := "loop.example/g01216/laws.FnExactArmsOf", spec := "fnExactArmsOf", apart := false }
def FnExactArmsOfSaid : Prop := fnExactArmsOfRow.holds Try.pinned (OpenSpec.ofChange fnExactArmsOfSpec)

/-- ITS FALSE NEIGHBOUR: 'it returns false'. Refute it at one input. -/
def fnExactArmsOfWrong : ChangeSpec := { name := "fnExactArmsOf", fn := fun _ => fun
  | [d] => { results := [.lit (.bool false)], args := [d] }
  | _ => none }
def FnExactArmsOfWrongFalsely : Prop := fnExactArmsOfRow.holds Try.pinned (OpenSpec.ofChange fnExactArmsOfWrong)

/- THE SECOND FORM. 'bulk': how many values and letters a reading holds, each counted each time it is reached (what is shared counts as often as it is met; a slice's spare places count too). A statement '..UptoSaid' is the law's where the arguments, and the package variables that the reading takes, are together of bulk at most 1048576: NARROWER than '..Said'. Prove '..Said' where nothing that the law and all that it calls make is longer than what came in: it says more and counts as full. Else prove '..UptoSaid'. A law counts once. -/
mutual
def uptoBulk {H : Type} : DataW H → Nat
  | .lit (.string bytes) => bytes.length + 1
  | .lit _ => 1
  | .nil => 1
  | .ptr d => uptoBulk d + 1
  | .slice elems spare => uptoBulkAll elems + uptoBulkAll spare + 1
  | .agg parts => uptoBulkAll parts + 1
  | .iface _ d => uptoBulk d + 1
  | .map entries => uptoBulkEntries entries + 1
  | .held _ => 1
def uptoBulkAll {H : Type} : List (DataW H) → Nat
  | [] => 0
  | d :: r => uptoBulk d + uptoBulkAll r
def uptoBulkEntries {H : Type} : List (Lit × DataW H) → Nat
  | [] => 0
  | x :: r => uptoBulkEntry x + uptoBulkEntries r
def uptoBulkEntry {H : Type} : Lit × DataW H → Nat
  | (.string bytes, d) => bytes.length + uptoBulk d + 1
  | (_, d) => uptoBulk d + 1
 end
def uptoSmall : (H : Type) → List (DataW H) → Bool := fun _ ds => decide (uptoBulkAll ds ≤ 1048576)
def OpenSpec.upto (s : _root_.Go.ChangeSpec) : _root_.Go.OpenSpec := { _root_.Go.OpenSpec.ofChange s with cond := some uptoSmall }

/-- 'laws.FnExactDropDoubles', WHERE WHAT IT READS IS OF BULK AT MOST 1048576: true; the input reads as it did. -/
def fnExactDropDoublesUptoRow : OpenClaim := { program := "ytepccigcdbimaaa", sum := "2d27dd8cb561c7bbca6dfc37ac9196f450a201f0c4c7258135ce80a19700c96e", func := "loop.example/g01216/laws.FnExactDropDoubles", spec := "fnExactDropDoubles", unfollowed := true, recurses := true, apart := false, narrowed := true }
def FnExactDropDoublesUptoSaid : Prop := fnExactDropDoublesUptoRow.holds Try.pinned (OpenSpec.upto fnExactDropDoublesSpec)

/-- 'laws.FnExactHandText', WHERE WHAT IT READS IS OF BULK AT MOST 1048576: true; the input reads as it did. -/
def fnExactHandTextUptoRow : OpenClaim := { program := "ytepccigcdbimaaa", sum := "2d27dd8cb561c7bbca6dfc37ac9196f450a201f0c4c7258135ce80a19700c96e", func := "loop.example/g01216/laws.FnExactHandText", spec := "fnExactHandText", inPlace := ["internal/abi.NoEscape", "internal/bytealg.MakeNoZero"], unfollowed := true, recurses := true, apart := false, narrowed := true }
def FnExactHandTextUptoSaid : Prop := fnExactHandTextUptoRow.holds Try.pinned (OpenSpec.upto fnExactHandTextSpec)

/-- 'laws.FnExactParseChain', WHERE WHAT IT READS IS OF BULK AT MOST 1048576: true; the input reads as it did. -/
def fnExactParseChainUptoRow : OpenClaim := { program := "ytepccigcdbimaaa", sum := "2d27dd8cb561c7bbca6dfc37ac9196f450a201f0c4c7258135ce80a19700c96e", func := "loop.example/g01216/laws.FnExactParseChain", spec := "fnExactParseChain", unfollowed := true, recurses := true, apart := false, narrowed := true }
def FnExactParseChainUptoSaid : Prop := fnExactParseChainUptoRow.holds Try.pinned (OpenSpec.upto fnExactParseChainSpec)

/-- 'laws.FnExactOddNumbers', WHERE WHAT IT READS IS OF BULK AT MOST 1048576: true; the input reads as it did. -/
def fnExactOddNumbersUptoRow : OpenClaim := { program := "ytepccigcdbimaaa", sum := "2d27dd8cb561c7bbca6dfc37ac9196f450a201f0c4c7258135ce80a19700c96e", func := "loop.example/g01216/laws.FnExactOddNumbers", spec := "fnExactOddNumbers", unfollowed := true, recurses := true, apart := false, narrowed := true }
def FnExactOddNumbersUptoSaid : Prop := fnExactOddNumbersUptoRow.holds Try.pinned (OpenSpec.upto fnExactOddNumbersSpec)

/-- 'laws.FnExactIsSpread', WHERE WHAT IT READS IS OF BULK AT MOST 1048576: true; the input reads as it did. -/
def fnExactIsSpreadUptoRow : OpenClaim := { program := "ytepccigcdbimaaa", sum := "2d27dd8cb561c7bbca6dfc37ac9196f450a201f0c4c7258135ce80a19700c96e", func := "loop.example/g01216/laws.FnExactIsSpread", spec := "fnExactIsSpread", apart := false, narrowed := true }
def FnExactIsSpreadUptoSaid : Prop := fnExactIsSpreadUptoRow.holds Try.pinned (OpenSpec.upto fnExactIsSpreadSpec)

/-- 'laws.FnExactSpinnerOf', WHERE WHAT IT READS IS OF BULK AT MOST 1048576: true; the input reads as it did. -/
def fnExactSpinnerOfUptoRow : OpenClaim := { program := "ytepccigcdbimaaa", sum := "2d27dd8cb561c7bbca6dfc37ac9196f450a201f0c4c7258135ce80a19700c96e", func := "loop.example/g01216/laws.FnExactSpinnerOf", spec := "fnExactSpinnerOf", apart := false, narrowed := true }
def FnExactSpinnerOfUptoSaid : Prop := fnExactSpinnerOfUptoRow.holds Try.pinned (OpenSpec.upto fnExactSpinnerOfSpec)

/-- 'laws.FnExactTakeBack', WHERE WHAT IT READS IS OF BULK AT MOST 1048576: true; the input reads as it did. -/
def fnExactTakeBackUptoRow : OpenClaim := { program := "ytepccigcdbimaaa", sum := "2d27dd8cb561c7bbca6dfc37ac9196f450a201f0c4c7258135ce80a19700c96e", func := "loop.example/g01216/laws.FnExactTakeBack", spec := "fnExactTakeBack", apart := false, narrowed := true }
def FnExactTakeBackUptoSaid : Prop := fnExactTakeBackUptoRow.holds Try.pinned (OpenSpec.upto fnExactTakeBackSpec)

/-- 'laws.FnExactAddPlay', WHERE WHAT IT READS IS OF BULK AT MOST 1048576: true; the input reads as it did. -/
def fnExactAddPlayUptoRow : OpenClaim := { program := "ytepccigcdbimaaa", sum := "2d27dd8cb561c7bbca6dfc37ac9196f450a201f0c4c7258135ce80a19700c96e", func := "loop.example/g01216/laws.FnExactAddPlay", spec := "fnExactAddPlay", apart := false, narrowed := true }
def FnExactAddPlayUptoSaid : Prop := fnExactAddPlayUptoRow.holds Try.pinned (OpenSpec.upto fnExactAddPlaySpec)

/-- 'laws.FnExactLaidTiles', WHERE WHAT IT READS IS OF BULK AT MOST 1048576: true; the input reads as it did. -/
def fnExactLaidTilesUptoRow : OpenClaim := { program := "ytepccigcdbimaaa", sum := "2d27dd8cb561c7bbca6dfc37ac9196f450a201f0c4c7258135ce80a19700c96e", func := "loop.example/g01216/laws.FnExactLaidTiles", spec := "fnExactLaidTiles", apart := false, narrowed := true }
def FnExactLaidTilesUptoSaid : Prop := fnExactLaidTilesUptoRow.holds Try.pinned (OpenSpec.upto fnExactLaidTilesSpec)

/-- 'laws.FnExactArmsOf', WHERE WHAT IT READS IS OF BULK AT MOST 1048576: true; the input reads as it did. -/
def fnExactArmsOfUptoRow : OpenClaim := { program := "ytepccigcdbimaaa", sum := "2d27dd8cb561c7bbca6dfc37ac9196f450a201f0c4c7258135ce80a19700c96e", func := "loop.example/g01216/laws.FnExactArmsOf", spec := "fnExactArmsOf", apart := false, narrowed := true }
def FnExactArmsOfUptoSaid : Prop := fnExactArmsOfUptoRow.holds Try.pinned (OpenSpec.upto fnExactArmsOfSpec)

end Rows
end Go.Proofs.Ytepccigcdbimaaa
