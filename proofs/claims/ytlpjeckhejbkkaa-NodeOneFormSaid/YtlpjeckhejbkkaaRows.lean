/-
  No cell of these rows narrows 'for every input' (looked for: loops, veiled, ifaces, maps, wideKeys, modest, calm, conditions, laid).
  DERIVED. THE GIVEN ROWS OF THIS SEAT. 6 by the template 'for every input the law returns true; each argument reads behind the call as it read before'; 0 by the template 'total and deterministic' (their statements: YtlpjeckhejbkkaaTotals.lean).
  GIVEN WITH THE SEED: the statements are not yours to turn. If you find one false, say at which input.
  Laid BY PROGRAM, IN A SANDBOX (cutbox-rows.mjs): the forced cells as the released guide's own fill.sh prints them over the translation 6b53c3e63f7315e3… (all of the seat's roots in one cut). By AI agents, Wed Nov 11 2026. No macro, syntax, notation, axiom, sorry.
-/
import Derived.Test.YtlpjeckhejbkkaaChecked
import GoSem.Claim
import GoSem.ClaimJoined
import GoSem.ClaimMapViews
import Derived.JoinedTies
import Derived.KernelRfl
namespace Go.Proofs.Ytlpjeckhejbkkaa
/- THE CELL 'sum', in the pinned program and in every row, IS THE sha256 OF THE DUMP (.gsa) THAT YtlpjeckhejbkkaaProg.lean LOADS. Nothing in Lean hashes anything: it is a label: what it is worth is what the hold of that sum in a sandbox is worth. -/
noncomputable def Try.pinned : Pinned := { name := "ytlpjeckhejbkkaa", sum := "6b53c3e63f7315e3d84c5e25e1bb507d2cac6aa38acf06910f8d980b13e623c4", checked := Try.checked }
namespace Rows
def none {H : Type} : Left H := { results := [], args := [] }

/-- 'pleachlaw05.NodeNames': WHATEVER THE INPUT: true; the input reads as it did. -/
def nodeNamesSpec : ChangeSpec := { name := "nodeNames", fn := fun _ => fun
  | [] => { results := [.lit (.bool true)], args := [] }
  | _ => none }
def nodeNamesRow : OpenClaim := { program := "ytlpjeckhejbkkaa", sum := "6b53c3e63f7315e3d84c5e25e1bb507d2cac6aa38acf06910f8d980b13e623c4", func := "pleach/pleachlaw05.NodeNames", spec := "nodeNames", inPlace := ["internal/bytealg.Compare"], unfollowed := true, recurses := true, apart := false }
def NodeNamesSaid : Prop := nodeNamesRow.holds Try.pinned (OpenSpec.ofChange nodeNamesSpec)

/-- ITS FALSE NEIGHBOUR: 'it returns false'. Refute it at one input. -/
def nodeNamesWrong : ChangeSpec := { name := "nodeNames", fn := fun _ => fun
  | [] => { results := [.lit (.bool false)], args := [] }
  | _ => none }
def NodeNamesWrongFalsely : Prop := nodeNamesRow.holds Try.pinned (OpenSpec.ofChange nodeNamesWrong)

/-- 'pleachlaw05.NodeRest': WHATEVER THE INPUT: true; the input reads as it did. -/
def nodeRestSpec : ChangeSpec := { name := "nodeRest", fn := fun _ => fun
  | [d1, d2, d3] => { results := [.lit (.bool true)], args := [d1, d2, d3] }
  | _ => none }
def nodeRestRow : OpenClaim := { program := "ytlpjeckhejbkkaa", sum := "6b53c3e63f7315e3d84c5e25e1bb507d2cac6aa38acf06910f8d980b13e623c4", func := "pleach/pleachlaw05.NodeRest", spec := "nodeRest", inPlace := ["internal/bytealg.Compare"], unfollowed := true, recurses := true, apart := false }
def NodeRestSaid : Prop := nodeRestRow.holds Try.pinned (OpenSpec.ofChange nodeRestSpec)

/-- ITS FALSE NEIGHBOUR: 'it returns false'. Refute it at one input. -/
def nodeRestWrong : ChangeSpec := { name := "nodeRest", fn := fun _ => fun
  | [d1, d2, d3] => { results := [.lit (.bool false)], args := [d1, d2, d3] }
  | _ => none }
def NodeRestWrongFalsely : Prop := nodeRestRow.holds Try.pinned (OpenSpec.ofChange nodeRestWrong)

/-- 'pleachlaw05.NodeChecks': WHATEVER THE INPUT: true; the input reads as it did. -/
def nodeChecksSpec : ChangeSpec := { name := "nodeChecks", fn := fun _ => fun
  | [d] => { results := [.lit (.bool true)], args := [d] }
  | _ => none }
def nodeChecksRow : OpenClaim := { program := "ytlpjeckhejbkkaa", sum := "6b53c3e63f7315e3d84c5e25e1bb507d2cac6aa38acf06910f8d980b13e623c4", func := "pleach/pleachlaw05.NodeChecks", spec := "nodeChecks", inPlace := ["internal/bytealg.Compare"], unfollowed := true, recurses := true, apart := false }
def NodeChecksSaid : Prop := nodeChecksRow.holds Try.pinned (OpenSpec.ofChange nodeChecksSpec)

/-- ITS FALSE NEIGHBOUR: 'it returns false'. Refute it at one input. -/
def nodeChecksWrong : ChangeSpec := { name := "nodeChecks", fn := fun _ => fun
  | [d] => { results := [.lit (.bool false)], args := [d] }
  | _ => none }
def NodeChecksWrongFalsely : Prop := nodeChecksRow.holds Try.pinned (OpenSpec.ofChange nodeChecksWrong)

/-- 'pleachlaw05.NodeSames': WHATEVER THE INPUT: true; the input reads as it did. -/
def nodeSamesSpec : ChangeSpec := { name := "nodeSames", fn := fun _ => fun
  | [d1, d2] => { results := [.lit (.bool true)], args := [d1, d2] }
  | _ => none }
def nodeSamesRow : OpenClaim := { program := "ytlpjeckhejbkkaa", sum := "6b53c3e63f7315e3d84c5e25e1bb507d2cac6aa38acf06910f8d980b13e623c4", func := "pleach/pleachlaw05.NodeSames", spec := "nodeSames", inPlace := ["internal/bytealg.Compare"], unfollowed := true, recurses := true, apart := false }
def NodeSamesSaid : Prop := nodeSamesRow.holds Try.pinned (OpenSpec.ofChange nodeSamesSpec)

/-- ITS FALSE NEIGHBOUR: 'it returns false'. Refute it at one input. -/
def nodeSamesWrong : ChangeSpec := { name := "nodeSames", fn := fun _ => fun
  | [d1, d2] => { results := [.lit (.bool false)], args := [d1, d2] }
  | _ => none }
def NodeSamesWrongFalsely : Prop := nodeSamesRow.holds Try.pinned (OpenSpec.ofChange nodeSamesWrong)

/-- 'pleachlaw05.NodeOneForm': WHATEVER THE INPUT: true; the input reads as it did. -/
def nodeOneFormSpec : ChangeSpec := { name := "nodeOneForm", fn := fun _ => fun
  | [d] => { results := [.lit (.bool true)], args := [d] }
  | _ => none }
def nodeOneFormRow : OpenClaim := { program := "ytlpjeckhejbkkaa", sum := "6b53c3e63f7315e3d84c5e25e1bb507d2cac6aa38acf06910f8d980b13e623c4", func := "pleach/pleachlaw05.NodeOneForm", spec := "nodeOneForm", inPlace := ["internal/bytealg.Compare"], unfollowed := true, recurses := true, apart := false }
def NodeOneFormSaid : Prop := nodeOneFormRow.holds Try.pinned (OpenSpec.ofChange nodeOneFormSpec)

/-- ITS FALSE NEIGHBOUR: 'it returns false'. Refute it at one input. -/
def nodeOneFormWrong : ChangeSpec := { name := "nodeOneForm", fn := fun _ => fun
  | [d] => { results := [.lit (.bool false)], args := [d] }
  | _ => none }
def NodeOneFormWrongFalsely : Prop := nodeOneFormRow.holds Try.pinned (OpenSpec.ofChange nodeOneFormWrong)

/-- 'pleachlaw05.NodeReturns': WHATEVER THE INPUT: true; the input reads as it did. -/
def nodeReturnsSpec : ChangeSpec := { name := "nodeReturns", fn := fun _ => fun
  | [d] => { results := [.lit (.bool true)], args := [d] }
  | _ => none }
def nodeReturnsRow : OpenClaim := { program := "ytlpjeckhejbkkaa", sum := "6b53c3e63f7315e3d84c5e25e1bb507d2cac6aa38acf06910f8d980b13e623c4", func := "pleach/pleachlaw05.NodeReturns", spec := "nodeReturns", inPlace := ["internal/bytealg.Compare"], unfollowed := true, recurses := true, apart := false }
def NodeReturnsSaid : Prop := nodeReturnsRow.holds Try.pinned (OpenSpec.ofChange nodeReturnsSpec)

/-- ITS FALSE NEIGHBOUR: 'it returns false'. Refute it at one input. -/
def nodeReturnsWrong : ChangeSpec := { name := "nodeReturns", fn := fun _ => fun
  | [d] => { results := [.lit (.bool false)], args := [d] }
  | _ => none }
def NodeReturnsWrongFalsely : Prop := nodeReturnsRow.holds Try.pinned (OpenSpec.ofChange nodeReturnsWrong)

/- THE SECOND FORM. 'bulk': how many values and letters a reading holds, each counted each time it is reached (what is shared counts as often as it is met; a slice's spare places count too). A statement '..UptoSaid' is the law's where the arguments, and the package variables that the reading takes, are together of bulk at most 1048576: NARROWER than '..Said'. Prove '..Said' where nothing that the law and all that it calls make is longer than what came in: it says more and counts as full. Else prove '..UptoSaid'. A law counts once. -/
mutual
def uptoBulk {H : Type} : DataW H → Nat
  | .lit (.string bytes) => bytes.length + 1
  | .lit _ => 1
  | .nil => 1
  | .ptr d => uptoBulk d + 1
  | .slice elems spare => uptoBulkAll elems + uptoBulkAll spare + 1
  | .agg parts => uptoBulkAll parts + 1
  | .iface _ d => uptoBulk d + 1
  | .map entries => uptoBulkEntries entries + 1
  | .held _ => 1
def uptoBulkAll {H : Type} : List (DataW H) → Nat
  | [] => 0
  | d :: r => uptoBulk d + uptoBulkAll r
def uptoBulkEntries {H : Type} : List (Lit × DataW H) → Nat
  | [] => 0
  | x :: r => uptoBulkEntry x + uptoBulkEntries r
def uptoBulkEntry {H : Type} : Lit × DataW H → Nat
  | (.string bytes, d) => bytes.length + uptoBulk d + 1
  | (_, d) => uptoBulk d + 1
 end
def uptoSmall : (H : Type) → List (DataW H) → Bool := fun _ ds => decide (uptoBulkAll ds ≤ 1048576)
def OpenSpec.upto (s : _root_.Go.ChangeSpec) : _root_.Go.OpenSpec := { _root_.Go.OpenSpec.ofChange s with cond := some uptoSmall }

/-- 'pleachlaw05.NodeNames', WHERE WHAT IT READS IS OF BULK AT MOST 1048576: true; the input reads as it did. -/
def nodeNamesUptoRow : OpenClaim := { program := "ytlpjeckhejbkkaa", sum := "6b53c3e63f7315e3d84c5e25e1bb507d2cac6aa38acf06910f8d980b13e623c4", func := "pleach/pleachlaw05.NodeNames", spec := "nodeNames", inPlace := ["internal/bytealg.Compare"], unfollowed := true, recurses := true, apart := false, narrowed := true }
def NodeNamesUptoSaid : Prop := nodeNamesUptoRow.holds Try.pinned (OpenSpec.upto nodeNamesSpec)

/-- 'pleachlaw05.NodeRest', WHERE WHAT IT READS IS OF BULK AT MOST 1048576: true; the input reads as it did. -/
def nodeRestUptoRow : OpenClaim := { program := "ytlpjeckhejbkkaa", sum := "6b53c3e63f7315e3d84c5e25e1bb507d2cac6aa38acf06910f8d980b13e623c4", func := "pleach/pleachlaw05.NodeRest", spec := "nodeRest", inPlace := ["internal/bytealg.Compare"], unfollowed := true, recurses := true, apart := false, narrowed := true }
def NodeRestUptoSaid : Prop := nodeRestUptoRow.holds Try.pinned (OpenSpec.upto nodeRestSpec)

/-- 'pleachlaw05.NodeChecks', WHERE WHAT IT READS IS OF BULK AT MOST 1048576: true; the input reads as it did. -/
def nodeChecksUptoRow : OpenClaim := { program := "ytlpjeckhejbkkaa", sum := "6b53c3e63f7315e3d84c5e25e1bb507d2cac6aa38acf06910f8d980b13e623c4", func := "pleach/pleachlaw05.NodeChecks", spec := "nodeChecks", inPlace := ["internal/bytealg.Compare"], unfollowed := true, recurses := true, apart := false, narrowed := true }
def NodeChecksUptoSaid : Prop := nodeChecksUptoRow.holds Try.pinned (OpenSpec.upto nodeChecksSpec)

/-- 'pleachlaw05.NodeSames', WHERE WHAT IT READS IS OF BULK AT MOST 1048576: true; the input reads as it did. -/
def nodeSamesUptoRow : OpenClaim := { program := "ytlpjeckhejbkkaa", sum := "6b53c3e63f7315e3d84c5e25e1bb507d2cac6aa38acf06910f8d980b13e623c4", func := "pleach/pleachlaw05.NodeSames", spec := "nodeSames", inPlace := ["internal/bytealg.Compare"], unfollowed := true, recurses := true, apart := false, narrowed := true }
def NodeSamesUptoSaid : Prop := nodeSamesUptoRow.holds Try.pinned (OpenSpec.upto nodeSamesSpec)

/-- 'pleachlaw05.NodeOneForm', WHERE WHAT IT READS IS OF BULK AT MOST 1048576: true; the input reads as it did. -/
def nodeOneFormUptoRow : OpenClaim := { program := "ytlpjeckhejbkkaa", sum := "6b53c3e63f7315e3d84c5e25e1bb507d2cac6aa38acf06910f8d980b13e623c4", func := "pleach/pleachlaw05.NodeOneForm", spec := "nodeOneForm", inPlace := ["internal/bytealg.Compare"], unfollowed := true, recurses := true, apart := false, narrowed := true }
def NodeOneFormUptoSaid : Prop := nodeOneFormUptoRow.holds Try.pinned (OpenSpec.upto nodeOneFormSpec)

/-- 'pleachlaw05.NodeReturns', WHERE WHAT IT READS IS OF BULK AT MOST 1048576: true; the input reads as it did. -/
def nodeReturnsUptoRow : OpenClaim := { program := "ytlpjeckhejbkkaa", sum := "6b53c3e63f7315e3d84c5e25e1bb507d2cac6aa38acf06910f8d980b13e623c4", func := "pleach/pleachlaw05.NodeReturns", spec := "nodeReturns", inPlace := ["internal/bytealg.Compare"], unfollowed := true, recurses := true, apart := false, narrowed := true }
def NodeReturnsUptoSaid : Prop := nodeReturnsUptoRow.holds Try.pinned (OpenSpec.upto nodeReturnsSpec)

end Rows
end Go.Proofs.Ytlpjeckhejbkkaa
