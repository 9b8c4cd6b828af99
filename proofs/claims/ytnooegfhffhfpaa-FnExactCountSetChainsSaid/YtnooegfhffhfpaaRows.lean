/-
  No cell of these rows narrows 'for every input' (looked for: loops, veiled, ifaces, maps, wideKeys, modest, calm, conditions, laid).
  DERIVED. THE GIVEN ROWS OF THIS SEAT. 3 by the template 'for every input the law returns true; each argument reads behind the call as it read before'; 0 by the template 'total and deterministic' (their statements: YtnooegfhffhfpaaTotals.lean).
  GIVEN WITH THE SEED: the statements are not yours to turn. If you find one false, say at which input.
  Laid BY PROGRAM, IN A SANDBOX (cutbox-rows.mjs): the forced cells as the released guide's own fill.sh prints them over the translation 4f7212a5d50dd975… (all of the seat's roots in one cut). By AI agents, Wed Nov 11 2026. No macro, syntax, notation, axiom, sorry.
-/
import Derived.Test.YtnooegfhffhfpaaChecked
import GoSem.Claim
import GoSem.ClaimJoined
import GoSem.ClaimMapViews
import Derived.JoinedTies
import Derived.KernelRfl
namespace Go.Proofs.Ytnooegfhffhfpaa
/- THE CELL 'sum', in the pinned program and in every row, IS THE sha256 OF THE DUMP (.gsa) THAT YtnooegfhffhfpaaProg.lean LOADS. Nothing in Lean hashes anything: it is a label: what it is worth is what the hold of that sum in a sandbox is worth. -/
noncomputable def Try.pinned : Pinned := { name := "ytnooegfhffhfpaa", sum := "4f7212a5d50dd9758fb979602bfba2f33b11d5459ef709aabf49782b82d37e2f", checked := Try.checked }
namespace Rows
def none {H : Type} : Left H := { results := [], args := [] }

/-- 'laws.FnExactCountWhole': WHATEVER THE INPUT: true; the input reads as it did. -/
def fnExactCountWholeSpec : ChangeSpec := { name := "fnExactCountWhole", fn := fun _ => fun
  | [d] => { results := [.lit (.bool true)], args := [d] }
  | _ => none }
def fnExactCountWholeRow : OpenClaim := { program := "ytnooegfhffhfpaa", sum := "4f7212a5d50dd9758fb979602bfba2f33b11d5459ef709aabf49782b82d37e2f", func := "loop.example/g01216/laws.FnExactCountWhole", spec := "fnExactCountWhole", unfollowed := true, recurses := true, apart := false }
def FnExactCountWholeSaid : Prop := fnExactCountWholeRow.holds Try.pinned (OpenSpec.ofChange fnExactCountWholeSpec)

/-- ITS FALSE NEIGHBOUR: 'it returns false'. Refute it at one input. -/
def fnExactCountWholeWrong : ChangeSpec := { name := "fnExactCountWhole", fn := fun _ => fun
  | [d] => { results := [.lit (.bool false)], args := [d] }
  | _ => none }
def FnExactCountWholeWrongFalsely : Prop := fnExactCountWholeRow.holds Try.pinned (OpenSpec.ofChange fnExactCountWholeWrong)

/-- 'laws.FnExactCountWithoutDoubles': WHATEVER THE INPUT: true; the input reads as it did. -/
def fnExactCountWithoutDoublesSpec : ChangeSpec := { name := "fnExactCountWithoutDoubles", fn := fun _ => fun
  | [d] => { results := [.lit (.bool true)], args := [d] }
  | _ => none }
def fnExactCountWithoutDoublesRow : OpenClaim := { program := "ytnooegfhffhfpaa", sum := "4f7212a5d50dd9758fb979602bfba2f33b11d5459ef709aabf49782b82d37e2f", func := "loop.example/g01216/laws.FnExactCountWithoutDoubles", spec := "fnExactCountWithoutDoubles", unfollowed := true, recurses := true, apart := false }
def FnExactCountWithoutDoublesSaid : Prop := fnExactCountWithoutDoublesRow.holds Try.pinned (OpenSpec.ofChange fnExactCountWithoutDoublesSpec)

/-- ITS FALSE NEIGHBOUR: 'it returns false'. Refute it at one input. -/
def fnExactCountWithoutDoublesWrong : ChangeSpec := { name := "fnExactCountWithoutDoubles", fn := fun _ => fun
  | [d] => { results := [.lit (.bool false)], args := [d] }
  | _ => none }
def FnExactCountWithoutDoublesWrongFalsely : Prop := fnExactCountWithoutDoublesRow.holds Try.pinned (OpenSpec.ofChange fnExactCountWithoutDoublesWrong)

/-- 'laws.FnExactCountSetChains': WHATEVER THE INPUT: true; the input reads as it did. -/
def fnExactCountSetChainsSpec : ChangeSpec := { name := "fnExactCountSetChains", fn := fun _ => fun
  | [d] => { results := [.lit (.bool true)], args := [d] }
  | _ => none }
def fnExactCountSetChainsRow : OpenClaim := { program := "ytnooegfhffhfpaa", sum := "4f7212a5d50dd9758fb979602bfba2f33b11d5459ef709aabf49782b82d37e2f", func := "loop.example/g01216/laws.FnExactCountSetChains", spec := "fnExactCountSetChains", unfollowed := true, recurses := true, apart := false }
def FnExactCountSetChainsSaid : Prop := fnExactCountSetChainsRow.holds Try.pinned (OpenSpec.ofChange fnExactCountSetChainsSpec)

/-- ITS FALSE NEIGHBOUR: 'it returns false'. Refute it at one input. -/
def fnExactCountSetChainsWrong : ChangeSpec := { name := "fnExactCountSetChains", fn := fun _ => fun
  | [d] => { results := [.lit (.bool false)], args := [d] }
  | _ => none }
def FnExactCountSetChainsWrongFalsely : Prop := fnExactCountSetChainsRow.holds Try.pinned (OpenSpec.ofChange fnExactCountSetChainsWrong)

/- THE SECOND FORM. 'bulk': how many values and letters a reading holds, each counted each time it is reached (what is shared counts as often as it is met; a slice's spare places count too). A statement '..UptoSaid' is the law's where the arguments, and the package variables that the reading takes, are together of bulk at most 1048576: NARROWER than '..Said'. Prove '..Said' where nothing that the law and all that it calls make is longer than what came in: it says more and counts as full. Else prove '..UptoSaid'. A law counts once. -/
mutual
def uptoBulk {H : Type} : DataW H → Nat
  | .lit (.string bytes) => bytes.length + 1
  | .lit _ => 1
  | .nil => 1
  | .ptr d => uptoBulk d + 1
  | .slice elems spare => uptoBulkAll elems + uptoBulkAll spare + 1
  | .agg parts => uptoBulkAll parts + 1
  | .iface _ d => uptoBulk d + 1
  | .map entries => uptoBulkEntries entries + 1
  | .held _ => 1
def uptoBulkAll {H : Type} : List (DataW H) → Nat
  | [] => 0
  | d :: r => uptoBulk d + uptoBulkAll r
def uptoBulkEntries {H : Type} : List (Lit × DataW H) → Nat
  | [] => 0
  | x :: r => uptoBulkEntry x + uptoBulkEntries r
def uptoBulkEntry {H : Type} : Lit × DataW H → Nat
  | (.string bytes, d) => bytes.length + uptoBulk d + 1
  | (_, d) => uptoBulk d + 1
 end
def uptoSmall : (H : Type) → List (DataW H) → Bool := fun _ ds => decide (uptoBulkAll ds ≤ 1048576)
def OpenSpec.upto (s : _root_.Go.ChangeSpec) : _root_.Go.OpenSpec := { _root_.Go.OpenSpec.ofChange s with cond := some uptoSmall }

/-- 'laws.FnExactCountWhole', WHERE WHAT IT READS IS OF BULK AT MOST 1048576: true; the input reads as it did. -/
def fnExactCountWholeUptoRow : OpenClaim := { program := "ytnooegfhffhfpaa", sum := "4f7212a5d50dd9758fb979602bfba2f33b11d5459ef709aabf49782b82d37e2f", func := "loop.example/g01216/laws.FnExactCountWhole", spec := "fnExactCountWhole", unfollowed := true, recurses := true, apart := false, narrowed := true }
def FnExactCountWholeUptoSaid : Prop := fnExactCountWholeUptoRow.holds Try.pinned (OpenSpec.upto fnExactCountWholeSpec)

/-- 'laws.FnExactCountWithoutDoubles', WHERE WHAT IT READS IS OF BULK AT MOST 1048576: true; the input reads as it did. -/
def fnExactCountWithoutDoublesUptoRow : OpenClaim := { program := "ytnooegfhffhfpaa", sum := "4f7212a5d50dd9758fb979602bfba2f33b11d5459ef709aabf49782b82d37e2f", func := "loop.example/g01216/laws.FnExactCountWithoutDoubles", spec := "fnExactCountWithoutDoubles", unfollowed := true, recurses := true, apart := false, narrowed := true }
def FnExactCountWithoutDoublesUptoSaid : Prop := fnExactCountWithoutDoublesUptoRow.holds Try.pinned (OpenSpec.upto fnExactCountWithoutDoublesSpec)

/-- 'laws.FnExactCountSetChains', WHERE WHAT IT READS IS OF BULK AT MOST 1048576: true; the input reads as it did. -/
def fnExactCountSetChainsUptoRow : OpenClaim := { program := "ytnooegfhffhfpaa", sum := "4f7212a5d50dd9758fb979602bfba2f33b11d5459ef709aabf49782b82d37e2f", func := "loop.example/g01216/laws.FnExactCountSetChains", spec := "fnExactCountSetChains", unfollowed := true, recurses := true, apart := false, narrowed := true }
def FnExactCountSetChainsUptoSaid : Prop := fnExactCountSetChainsUptoRow.holds Try.pinned (OpenSpec.upto fnExactCountSetChainsSpec)

end Rows
end Go.Proofs.Ytnooegfhffhfpaa
