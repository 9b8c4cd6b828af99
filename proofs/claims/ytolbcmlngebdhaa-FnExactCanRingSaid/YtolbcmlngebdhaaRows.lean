/-
  No cell of these rows narrows 'for every input' (looked for: loops, veiled, ifaces, maps, wideKeys, modest, calm, conditions, laid).
  DERIVED. THE GIVEN ROWS OF THIS SEAT. 2 by the template 'for every input the law returns true; each argument reads behind the call as it read before'; 0 by the template 'total and deterministic' (their statements: YtolbcmlngebdhaaTotals.lean).
  GIVEN WITH THE SEED: the statements are not yours to turn. If you find one false, say at which input.
  Laid BY PROGRAM, IN A SANDBOX (cutbox-rows.mjs): the forced cells as the released guide's own fill.sh prints them over the translation 61afa9ba05ca3800… (all of the seat's roots in one cut). By AI agents, Wed Nov 11 2026. No macro, syntax, notation, axiom, sorry.
-/
import Derived.Test.YtolbcmlngebdhaaChecked
import GoSem.Claim
import GoSem.ClaimJoined
import GoSem.ClaimMapViews
import Derived.JoinedTies
import Derived.KernelRfl
namespace Go.Proofs.Ytolbcmlngebdhaa
/- THE CELL 'sum', in the pinned program and in every row, IS THE sha256 OF THE DUMP (.gsa) THAT YtolbcmlngebdhaaProg.lean LOADS. Nothing in Lean hashes anything: it is a label: what it is worth is what the hold of that sum in a sandbox is worth. -/
noncomputable def Try.pinned : Pinned := { name := "ytolbcmlngebdhaa", sum := "61afa9ba05ca3800505ebb65712f8b75800cfacfc3a97c5c9e1193b96b9c3301", checked := Try.checked }
namespace Rows
def none {H : Type} : Left H := { results := [], args := [] }

/-- 'laws.FnExactCanChain': WHATEVER THE INPUT: true; the input reads as it did. -/
def fnExactCanChainSpec : ChangeSpec := { name := "fnExactCanChain", fn := fun _ => fun
  | [d] => { results := [.lit (.bool true)], args := [d] }
  | _ => none }
def fnExactCanChainRow : OpenClaim := { program := "ytolbcmlngebdhaa", sum := "61afa9ba05ca3800505ebb65712f8b75800cfacfc3a97c5c9e1193b96b9c3301", func := "loop.example/g01216/laws.FnExactCanChain", spec := "fnExactCanChain", unfollowed := true, recurses := true, apart := false }
def FnExactCanChainSaid : Prop := fnExactCanChainRow.holds Try.pinned (OpenSpec.ofChange fnExactCanChainSpec)

/-- ITS FALSE NEIGHBOUR: 'it returns false'. Refute it at one input. -/
def fnExactCanChainWrong : ChangeSpec := { name := "fnExactCanChain", fn := fun _ => fun
  | [d] => { results := [.lit (.bool false)], args := [d] }
  | _ => none }
def FnExactCanChainWrongFalsely : Prop := fnExactCanChainRow.holds Try.pinned (OpenSpec.ofChange fnExactCanChainWrong)

/-- 'laws.FnExactCanRing': WHATEVER THE INPUT: true; the input reads as it did. -/
def fnExactCanRingSpec : ChangeSpec := { name := "fnExactCanRing", fn := fun _ => fun
  | [d] => { results := [.lit (.bool true)], args := [d] }
  | _ => none }
def fnExactCanRingRow : OpenClaim := { program := "ytolbcmlngebdhaa", sum := "61afa9ba05ca3800505ebb65712f8b75800cfacfc3a97c5c9e1193b96b9c3301", func := "loop.example/g01216/laws.FnExactCanRing", spec := "fnExactCanRing", unfollowed := true, recurses := true, apart := false }
def FnExactCanRingSaid : Prop := fnExactCanRingRow.holds Try.pinned (OpenSpec.ofChange fnExactCanRingSpec)

/-- ITS FALSE NEIGHBOUR: 'it returns false'. Refute it at one input. -/
def fnExactCanRingWrong : ChangeSpec := { name := "fnExactCanRing", fn := fun _ => fun
  | [d] => { results := [.lit (.bool false)], args := [d] }
  | _ => none }
def FnExactCanRingWrongFalsely : Prop := fnExactCanRingRow.holds Try.pinned (OpenSpec.ofChange fnExactCanRingWrong)

/- THE SECOND FORM. 'bulk': how many values and letters a reading holds, each counted each time it is reached (what is shared counts as often as it is met; a slice's spare places count too). A statement '..UptoSaid' is the law's where the arguments, and the package variables that the reading takes, are together of bulk at most 1048576: NARROWER than '..Said'. Prove '..Said' where nothing that the law and all that it calls make is longer than what came in: it says more and counts as full. Else prove '..UptoSaid'. A law counts once. -/
mutual
def uptoBulk {H : Type} : DataW H → Nat
  | .lit (.string bytes) => bytes.length + 1
  | .lit _ => 1
  | .nil => 1
  | .ptr d => uptoBulk d + 1
  | .slice elems spare => uptoBulkAll elems + uptoBulkAll spare + 1
  | .agg parts => uptoBulkAll parts + 1
  | .iface _ d => uptoBulk d + 1
  | .map entries => uptoBulkEntries entries + 1
  | .held _ => 1
def uptoBulkAll {H : Type} : List (DataW H) → Nat
  | [] => 0
  | d :: r => uptoBulk d + uptoBulkAll r
def uptoBulkEntries {H : Type} : List (Lit × DataW H) → Nat
  | [] => 0
  | x :: r => uptoBulkEntry x + uptoBulkEntries r
def uptoBulkEntry {H : Type} : Lit × DataW H → Nat
  | (.string bytes, d) => bytes.length + uptoBulk d + 1
  | (_, d) => uptoBulk d + 1
 end
def uptoSmall : (H : Type) → List (DataW H) → Bool := fun _ ds => decide (uptoBulkAll ds ≤ 1048576)
def OpenSpec.upto (s : _root_.Go.ChangeSpec) : _root_.Go.OpenSpec := { _root_.Go.OpenSpec.ofChange s with cond := some uptoSmall }

/-- 'laws.FnExactCanChain', WHERE WHAT IT READS IS OF BULK AT MOST 1048576: true; the input reads as it did. -/
def fnExactCanChainUptoRow : OpenClaim := { program := "ytolbcmlngebdhaa", sum := "61afa9ba05ca3800505ebb65712f8b75800cfacfc3a97c5c9e1193b96b9c3301", func := "loop.example/g01216/laws.FnExactCanChain", spec := "fnExactCanChain", unfollowed := true, recurses := true, apart := false, narrowed := true }
def FnExactCanChainUptoSaid : Prop := fnExactCanChainUptoRow.holds Try.pinned (OpenSpec.upto fnExactCanChainSpec)

/-- 'laws.FnExactCanRing', WHERE WHAT IT READS IS OF BULK AT MOST 1048576: true; the input reads as it did. -/
def fnExactCanRingUptoRow : OpenClaim := { program := "ytolbcmlngebdhaa", sum := "61afa9ba05ca3800505ebb65712f8b75800cfacfc3a97c5c9e1193b96b9c3301", func := "loop.example/g01216/laws.FnExactCanRing", spec := "fnExactCanRing", unfollowed := true, recurses := true, apart := false, narrowed := true }
def FnExactCanRingUptoSaid : Prop := fnExactCanRingUptoRow.holds Try.pinned (OpenSpec.upto fnExactCanRingSpec)

end Rows
end Go.Proofs.Ytolbcmlngebdhaa
