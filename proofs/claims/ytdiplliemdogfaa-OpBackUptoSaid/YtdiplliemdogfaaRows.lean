/-
  No cell of these rows narrows 'for every input' (looked for: loops, veiled, ifaces, maps, wideKeys, modest, calm, conditions, laid).
  DERIVED. THE GIVEN ROWS OF THIS SEAT. 7 by the template 'for every input the law returns true; each argument reads behind the call as it read before'; 0 by the template 'total and deterministic' (their statements: YtdiplliemdogfaaTotals.lean).
  GIVEN WITH THE SEED: the statements are not yours to turn. If you find one false, say at which input.
  Laid BY PROGRAM, IN A SANDBOX (cutbox-rows.mjs): the forced cells as the released guide's own fill.sh prints them over the translation c70939772bcc92cc… (all of the seat's roots in one cut). By AI agents, Wed Nov 11 2026. No macro, syntax, notation, axiom, sorry.
-/
import Derived.Test.YtdiplliemdogfaaChecked
import GoSem.Claim
import GoSem.ClaimJoined
import GoSem.ClaimMapViews
import Derived.JoinedTies
import Derived.KernelRfl
namespace Go.Proofs.Ytdiplliemdogfaa
/- THE CELL 'sum', in the pinned program and in every row, IS THE sha256 OF THE DUMP (.gsa) THAT YtdiplliemdogfaaProg.lean LOADS. Nothing in Lean hashes anything: it is a label: what it is worth is what the hold of that sum in a sandbox is worth. -/
noncomputable def Try.pinned : Pinned := { name := "ytdiplliemdogfaa", sum := "c70939772bcc92cc4883373c50849af97fa43d4f5c85b755369ca7fcd7569c6a", checked := Try.checked }
namespace Rows
def none {H : Type} : Left H := { results := [], args := [] }

/-- 'pleachlaw04.OpNames': WHATEVER THE INPUT: true; the input reads as it did. -/
def opNamesSpec : ChangeSpec := { name := "opNames", fn := fun _ => fun
  | [] => { results := [.lit (.bool true)], args := [] }
  | _ => none }
def opNamesRow : OpenClaim := { program := "ytdiplliemdogfaa", sum := "c70939772bcc92cc4883373c50849af97fa43d4f5c85b755369ca7fcd7569c6a", func := "pleach/pleachlaw04.OpNames", spec := "opNames", unfollowed := true, recurses := true, apart := false }
def OpNamesSaid : Prop := opNamesRow.holds Try.pinned (OpenSpec.ofChange opNamesSpec)

/-- ITS FALSE NEIGHBOUR: 'it returns false'. Refute it at one input. -/
def opNamesWrong : ChangeSpec := { name := "opNames", fn := fun _ => fun
  | [] => { results := [.lit (.bool false)], args := [] }
  | _ => none }
def OpNamesWrongFalsely : Prop := opNamesRow.holds Try.pinned (OpenSpec.ofChange opNamesWrong)

/-- 'pleachlaw04.OpChecks': WHATEVER THE INPUT: true; the input reads as it did. -/
def opChecksSpec : ChangeSpec := { name := "opChecks", fn := fun _ => fun
  | [d1, d2] => { results := [.lit (.bool true)], args := [d1, d2] }
  | _ => none }
def opChecksRow : OpenClaim := { program := "ytdiplliemdogfaa", sum := "c70939772bcc92cc4883373c50849af97fa43d4f5c85b755369ca7fcd7569c6a", func := "pleach/pleachlaw04.OpChecks", spec := "opChecks", unfollowed := true, recurses := true, apart := false }
def OpChecksSaid : Prop := opChecksRow.holds Try.pinned (OpenSpec.ofChange opChecksSpec)

/-- ITS FALSE NEIGHBOUR: 'it returns false'. Refute it at one input. -/
def opChecksWrong : ChangeSpec := { name := "opChecks", fn := fun _ => fun
  | [d1, d2] => { results := [.lit (.bool false)], args := [d1, d2] }
  | _ => none }
def OpChecksWrongFalsely : Prop := opChecksRow.holds Try.pinned (OpenSpec.ofChange opChecksWrong)

/-- 'pleachlaw04.OpPuts': WHATEVER THE INPUT: true; the input reads as it did. -/
def opPutsSpec : ChangeSpec := { name := "opPuts", fn := fun _ => fun
  | [d1, d2] => { results := [.lit (.bool true)], args := [d1, d2] }
  | _ => none }
def opPutsRow : OpenClaim := { program := "ytdiplliemdogfaa", sum := "c70939772bcc92cc4883373c50849af97fa43d4f5c85b755369ca7fcd7569c6a", func := "pleach/pleachlaw04.OpPuts", spec := "opPuts", unfollowed := true, recurses := true, apart := false }
def OpPutsSaid : Prop := opPutsRow.holds Try.pinned (OpenSpec.ofChange opPutsSpec)

/-- ITS FALSE NEIGHBOUR: 'it returns false'. Refute it at one input. -/
def opPutsWrong : ChangeSpec := { name := "opPuts", fn := fun _ => fun
  | [d1, d2] => { results := [.lit (.bool false)], args := [d1, d2] }
  | _ => none }
def OpPutsWrongFalsely : Prop := opPutsRow.holds Try.pinned (OpenSpec.ofChange opPutsWrong)

/-- 'pleachlaw04.OpOnce': WHATEVER THE INPUT: true; the input reads as it did. -/
def opOnceSpec : ChangeSpec := { name := "opOnce", fn := fun _ => fun
  | [d] => { results := [.lit (.bool true)], args := [d] }
  | _ => none }
def opOnceRow : OpenClaim := { program := "ytdiplliemdogfaa", sum := "c70939772bcc92cc4883373c50849af97fa43d4f5c85b755369ca7fcd7569c6a", func := "pleach/pleachlaw04.OpOnce", spec := "opOnce", unfollowed := true, recurses := true, apart := false }
def OpOnceSaid : Prop := opOnceRow.holds Try.pinned (OpenSpec.ofChange opOnceSpec)

/-- ITS FALSE NEIGHBOUR: 'it returns false'. Refute it at one input. -/
def opOnceWrong : ChangeSpec := { name := "opOnce", fn := fun _ => fun
  | [d] => { results := [.lit (.bool false)], args := [d] }
  | _ => none }
def OpOnceWrongFalsely : Prop := opOnceRow.holds Try.pinned (OpenSpec.ofChange opOnceWrong)

/-- 'pleachlaw04.OpKeeps': WHATEVER THE INPUT: true; the input reads as it did. -/
def opKeepsSpec : ChangeSpec := { name := "opKeeps", fn := fun _ => fun
  | [d1, d2] => { results := [.lit (.bool true)], args := [d1, d2] }
  | _ => none }
def opKeepsRow : OpenClaim := { program := "ytdiplliemdogfaa", sum := "c70939772bcc92cc4883373c50849af97fa43d4f5c85b755369ca7fcd7569c6a", func := "pleach/pleachlaw04.OpKeeps", spec := "opKeeps", unfollowed := true, recurses := true, apart := false }
def OpKeepsSaid : Prop := opKeepsRow.holds Try.pinned (OpenSpec.ofChange opKeepsSpec)

/-- ITS FALSE NEIGHBOUR: 'it returns false'. Refute it at one input. -/
def opKeepsWrong : ChangeSpec := { name := "opKeeps", fn := fun _ => fun
  | [d1, d2] => { results := [.lit (.bool false)], args := [d1, d2] }
  | _ => none }
def OpKeepsWrongFalsely : Prop := opKeepsRow.holds Try.pinned (OpenSpec.ofChange opKeepsWrong)

/-- 'pleachlaw04.OpGets': WHATEVER THE INPUT: true; the input reads as it did. -/
def opGetsSpec : ChangeSpec := { name := "opGets", fn := fun _ => fun
  | [d1, d2] => { results := [.lit (.bool true)], args := [d1, d2] }
  | _ => none }
def opGetsRow : OpenClaim := { program := "ytdiplliemdogfaa", sum := "c70939772bcc92cc4883373c50849af97fa43d4f5c85b755369ca7fcd7569c6a", func := "pleach/pleachlaw04.OpGets", spec := "opGets", unfollowed := true, recurses := true, apart := false }
def OpGetsSaid : Prop := opGetsRow.holds Try.pinned (OpenSpec.ofChange opGetsSpec)

/-- ITS FALSE NEIGHBOUR: 'it returns false'. Refute it at one input. -/
def opGetsWrong : ChangeSpec := { name := "opGets", fn := fun _ => fun
  | [d1, d2] => { results := [.lit (.bool false)], args := [d1, d2] }
  | _ => none }
def OpGetsWrongFalsely : Prop := opGetsRow.holds Try.pinned (OpenSpec.ofChange opGetsWrong)

/-- 'pleachlaw04.OpBack': WHATEVER THE INPUT: true; the input reads as it did. -/
def opBackSpec : ChangeSpec := { name := "opBack", fn := fun _ => fun
  | [d1, d2, d3] => { results := [.lit (.bool true)], args := [d1, d2, d3] }
  | _ => none }
def opBackRow : OpenClaim := { program := "ytdiplliemdogfaa", sum := "c70939772bcc92cc4883373c50849af97fa43d4f5c85b755369ca7fcd7569c6a", func := "pleach/pleachlaw04.OpBack", spec := "opBack", unfollowed := true, recurses := true, apart := false }
def OpBackSaid : Prop := opBackRow.holds Try.pinned (OpenSpec.ofChange opBackSpec)

/-- ITS FALSE NEIGHBOUR: 'it returns false'. Refute it at one input. -/
def opBackWrong : ChangeSpec := { name := "opBack", fn := fun _ => fun
  | [d1, d2, d3] => { results := [.lit (.bool false)], args := [d1, d2, d3] }
  | _ => none }
def OpBackWrongFalsely : Prop := opBackRow.holds Try.pinned (OpenSpec.ofChange opBackWrong)

/- THE SECOND FORM. 'bulk': how many values and letters a reading holds, each counted each time it is reached (what is shared counts as often as it is met; a slice's spare places count too). A statement '..UptoSaid' is the law's where the arguments, and the package variables that the reading takes, are together of bulk at most 1048576: NARROWER than '..Said'. Prove '..Said' where nothing that the law and all that it calls make is longer than what came in: it says more and counts as full. Else prove '..UptoSaid'. A law counts once. -/
mutual
def uptoBulk {H : Type} : DataW H → Nat
  | .lit (.string bytes) => bytes.length + 1
  | .lit _ => 1
  | .nil => 1
  | .ptr d => uptoBulk d + 1
  | .slice elems spare => uptoBulkAll elems + uptoBulkAll spare + 1
  | .agg parts => uptoBulkAll parts + 1
  | .iface _ d => uptoBulk d + 1
  | .map entries => uptoBulkEntries entries + 1
  | .held _ => 1
def uptoBulkAll {H : Type} : List (DataW H) → Nat
  | [] => 0
  | d :: r => uptoBulk d + uptoBulkAll r
def uptoBulkEntries {H : Type} : List (Lit × DataW H) → Nat
  | [] => 0
  | x :: r => uptoBulkEntry x + uptoBulkEntries r
def uptoBulkEntry {H : Type} : Lit × DataW H → Nat
  | (.string bytes, d) => bytes.length + uptoBulk d + 1
  | (_, d) => uptoBulk d + 1
 end
def uptoSmall : (H : Type) → List (DataW H) → Bool := fun _ ds => decide (uptoBulkAll ds ≤ 1048576)
def OpenSpec.upto (s : _root_.Go.ChangeSpec) : _root_.Go.OpenSpec := { _root_.Go.OpenSpec.ofChange s with cond := some uptoSmall }

/-- 'pleachlaw04.OpNames', WHERE WHAT IT READS IS OF BULK AT MOST 1048576: true; the input reads as it did. -/
def opNamesUptoRow : OpenClaim := { program := "ytdiplliemdogfaa", sum := "c70939772bcc92cc4883373c50849af97fa43d4f5c85b755369ca7fcd7569c6a", func := "pleach/pleachlaw04.OpNames", spec := "opNames", unfollowed := true, recurses := true, apart := false, narrowed := true }
def OpNamesUptoSaid : Prop := opNamesUptoRow.holds Try.pinned (OpenSpec.upto opNamesSpec)

/-- 'pleachlaw04.OpChecks', WHERE WHAT IT READS IS OF BULK AT MOST 1048576: true; the input reads as it did. -/
def opChecksUptoRow : OpenClaim := { program := "ytdiplliemdogfaa", sum := "c70939772bcc92cc4883373c50849af97fa43d4f5c85b755369ca7fcd7569c6a", func := "pleach/pleachlaw04.OpChecks", spec := "opChecks", unfollowed := true, recurses := true, apart := false, narrowed := true }
def OpChecksUptoSaid : Prop := opChecksUptoRow.holds Try.pinned (OpenSpec.upto opChecksSpec)

/-- 'pleachlaw04.OpPuts', WHERE WHAT IT READS IS OF BULK AT MOST 1048576: true; the input reads as it did. -/
def opPutsUptoRow : OpenClaim := { program := "ytdiplliemdogfaa", sum := "c70939772bcc92cc4883373c50849af97fa43d4f5c85b755369ca7fcd7569c6a", func := "pleach/pleachlaw04.OpPuts", spec := "opPuts", unfollowed := true, recurses := true, apart := false, narrowed := true }
def OpPutsUptoSaid : Prop := opPutsUptoRow.holds Try.pinned (OpenSpec.upto opPutsSpec)

/-- 'pleachlaw04.OpOnce', WHERE WHAT IT READS IS OF BULK AT MOST 1048576: true; the input reads as it did. -/
def opOnceUptoRow : OpenClaim := { program := "ytdiplliemdogfaa", sum := "c70939772bcc92cc4883373c50849af97fa43d4f5c85b755369ca7fcd7569c6a", func := "pleach/pleachlaw04.OpOnce", spec := "opOnce", unfollowed := true, recurses := true, apart := false, narrowed := true }
def OpOnceUptoSaid : Prop := opOnceUptoRow.holds Try.pinned (OpenSpec.upto opOnceSpec)

/-- 'pleachlaw04.OpKeeps', WHERE WHAT IT READS IS OF BULK AT MOST 1048576: true; the input reads as it did. -/
def opKeepsUptoRow : OpenClaim := { program := "ytdiplliemdogfaa", sum := "c70939772bcc92cc4883373c50849af97fa43d4f5c85b755369ca7fcd7569c6a", func := "pleach/pleachlaw04.OpKeeps", spec := "opKeeps", unfollowed := true, recurses := true, apart := false, narrowed := true }
def OpKeepsUptoSaid : Prop := opKeepsUptoRow.holds Try.pinned (OpenSpec.upto opKeepsSpec)

/-- 'pleachlaw04.OpGets', WHERE WHAT IT READS IS OF BULK AT MOST 1048576: true; the input reads as it did. -/
def opGetsUptoRow : OpenClaim := { program := "ytdiplliemdogfaa", sum := "c70939772bcc92cc4883373c50849af97fa43d4f5c85b755369ca7fcd7569c6a", func := "pleach/pleachlaw04.OpGets", spec := "opGets", unfollowed := true, recurses := true, apart := false, narrowed := true }
def OpGetsUptoSaid : Prop := opGetsUptoRow.holds Try.pinned (OpenSpec.upto opGetsSpec)

/-- 'pleachlaw04.OpBack', WHERE WHAT IT READS IS OF BULK AT MOST 1048576: true; the input reads as it did. -/
def opBackUptoRow : OpenClaim := { program := "ytdiplliemdogfaa", sum := "c70939772bcc92cc4883373c50849af97fa43d4f5c85b755369ca7fcd7569c6a", func := "pleach/pleachlaw04.OpBack", spec := "opBack", unfollowed := true, recurses := true, apart := false, narrowed := true }
def OpBackUptoSaid : Prop := opBackUptoRow.holds Try.pinned (OpenSpec.upto opBackSpec)

end Rows
end Go.Proofs.Ytdiplliemdogfaa
