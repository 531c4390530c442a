/-
  No cell of these rows narrows 'for every input' (looked for: loops, veiled, ifaces, maps, wideKeys, modest, calm, conditions, laid).
  DERIVED. THE GIVEN ROWS OF THIS SEAT. 7 by the template 'for every input the law returns true; each argument reads behind the call as it read before'; 0 by the template 'total and deterministic' (their statements: YtphihjkijkcnmaaTotals.lean).
  GIVEN WITH THE SEED: the statements are not yours to turn. If you find one false, say at which input.
  Laid BY PROGRAM, IN A SANDBOX (cutbox-rows.mjs): the forced cells as the released guide's own fill.sh prints them over the translation 4ee2b9126f9e5f3e… (all of the seat's roots in one cut). By AI agents, Wed Nov 11 2026. No macro, syntax, notation, axiom, sorry.
-/
import Derived.Test.YtphihjkijkcnmaaChecked
import GoSem.Claim
import GoSem.ClaimJoined
import GoSem.ClaimMapViews
import Derived.JoinedTies
import Derived.KernelRfl
namespace Go.Proofs.Ytphihjkijkcnmaa
/- THE CELL 'sum', in the pinned program and in every row, IS THE sha256 OF THE DUMP (.gsa) THAT YtphihjkijkcnmaaProg.lean LOADS. Nothing in Lean hashes anything: it is a label: what it is worth is what the hold of that sum in a sandbox is worth. -/
noncomputable def Try.pinned : Pinned := { name := "ytphihjkijkcnmaa", sum := "4ee2b9126f9e5f3e27300527c8141748ae142a683173369705e77bba6b64d297", checked := Try.checked }
namespace Rows
def none {H : Type} : Left H := { results := [], args := [] }

/-- 'pleachlaw09.BlocksNames': WHATEVER THE INPUT: true; the input reads as it did. -/
def blocksNamesSpec : ChangeSpec := { name := "blocksNames", fn := fun _ => fun
  | [] => { results := [.lit (.bool true)], args := [] }
  | _ => none }
def blocksNamesRow : OpenClaim := { program := "ytphihjkijkcnmaa", sum := "4ee2b9126f9e5f3e27300527c8141748ae142a683173369705e77bba6b64d297", func := "pleach/pleachlaw09.BlocksNames", spec := "blocksNames", plainKeys := false, apart := false }
def BlocksNamesSaid : Prop := blocksNamesRow.holds Try.pinned (OpenSpec.ofChange blocksNamesSpec)

/-- ITS FALSE NEIGHBOUR: 'it returns false'. Refute it at one input. -/
def blocksNamesWrong : ChangeSpec := { name := "blocksNames", fn := fun _ => fun
  | [] => { results := [.lit (.bool false)], args := [] }
  | _ => none }
def BlocksNamesWrongFalsely : Prop := blocksNamesRow.holds Try.pinned (OpenSpec.ofChange blocksNamesWrong)

/-- 'pleachlaw08.JournalNames': WHATEVER THE INPUT: true; the input reads as it did. -/
def journalNamesSpec : ChangeSpec := { name := "journalNames", fn := fun _ => fun
  | [] => { results := [.lit (.bool true)], args := [] }
  | _ => none }
def journalNamesRow : OpenClaim := { program := "ytphihjkijkcnmaa", sum := "4ee2b9126f9e5f3e27300527c8141748ae142a683173369705e77bba6b64d297", func := "pleach/pleachlaw08.JournalNames", spec := "journalNames", plainKeys := false, apart := false }
def JournalNamesSaid : Prop := journalNamesRow.holds Try.pinned (OpenSpec.ofChange journalNamesSpec)

/-- ITS FALSE NEIGHBOUR: 'it returns false'. Refute it at one input. -/
def journalNamesWrong : ChangeSpec := { name := "journalNames", fn := fun _ => fun
  | [] => { results := [.lit (.bool false)], args := [] }
  | _ => none }
def JournalNamesWrongFalsely : Prop := journalNamesRow.holds Try.pinned (OpenSpec.ofChange journalNamesWrong)

/-- 'pleachlaw08.DiskDoes': WHATEVER THE INPUT: true; the input reads as it did. -/
def diskDoesSpec : ChangeSpec := { name := "diskDoes", fn := fun _ => fun
  | [d1, d2, d3] => { results := [.lit (.bool true)], args := [d1, d2, d3] }
  | _ => none }
def diskDoesRow : OpenClaim := { program := "ytphihjkijkcnmaa", sum := "4ee2b9126f9e5f3e27300527c8141748ae142a683173369705e77bba6b64d297", func := "pleach/pleachlaw08.DiskDoes", spec := "diskDoes", plainKeys := false, apart := false }
def DiskDoesSaid : Prop := diskDoesRow.holds Try.pinned (OpenSpec.ofChange diskDoesSpec)

/-- ITS FALSE NEIGHBOUR: 'it returns false'. Refute it at one input. -/
def diskDoesWrong : ChangeSpec := { name := "diskDoes", fn := fun _ => fun
  | [d1, d2, d3] => { results := [.lit (.bool false)], args := [d1, d2, d3] }
  | _ => none }
def DiskDoesWrongFalsely : Prop := diskDoesRow.holds Try.pinned (OpenSpec.ofChange diskDoesWrong)

/-- 'pleachlaw08.JournalCrashes': WHATEVER THE INPUT: true; the input reads as it did. -/
def journalCrashesSpec : ChangeSpec := { name := "journalCrashes", fn := fun _ => fun
  | [d1, d2] => { results := [.lit (.bool true)], args := [d1, d2] }
  | _ => none }
def journalCrashesRow : OpenClaim := { program := "ytphihjkijkcnmaa", sum := "4ee2b9126f9e5f3e27300527c8141748ae142a683173369705e77bba6b64d297", func := "pleach/pleachlaw08.JournalCrashes", spec := "journalCrashes", plainKeys := false, apart := false }
def JournalCrashesSaid : Prop := journalCrashesRow.holds Try.pinned (OpenSpec.ofChange journalCrashesSpec)

/-- ITS FALSE NEIGHBOUR: 'it returns false'. Refute it at one input. -/
def journalCrashesWrong : ChangeSpec := { name := "journalCrashes", fn := fun _ => fun
  | [d1, d2] => { results := [.lit (.bool false)], args := [d1, d2] }
  | _ => none }
def JournalCrashesWrongFalsely : Prop := journalCrashesRow.holds Try.pinned (OpenSpec.ofChange journalCrashesWrong)

/-- 'pleachlaw08.JournalAgain': WHATEVER THE INPUT: true; the input reads as it did. -/
def journalAgainSpec : ChangeSpec := { name := "journalAgain", fn := fun _ => fun
  | [d1, d2, d3] => { results := [.lit (.bool true)], args := [d1, d2, d3] }
  | _ => none }
def journalAgainRow : OpenClaim := { program := "ytphihjkijkcnmaa", sum := "4ee2b9126f9e5f3e27300527c8141748ae142a683173369705e77bba6b64d297", func := "pleach/pleachlaw08.JournalAgain", spec := "journalAgain", plainKeys := false, apart := false }
def JournalAgainSaid : Prop := journalAgainRow.holds Try.pinned (OpenSpec.ofChange journalAgainSpec)

/-- ITS FALSE NEIGHBOUR: 'it returns false'. Refute it at one input. -/
def journalAgainWrong : ChangeSpec := { name := "journalAgain", fn := fun _ => fun
  | [d1, d2, d3] => { results := [.lit (.bool false)], args := [d1, d2, d3] }
  | _ => none }
def JournalAgainWrongFalsely : Prop := journalAgainRow.holds Try.pinned (OpenSpec.ofChange journalAgainWrong)

/-- 'pleachlaw08.JournalDoes': WHATEVER THE INPUT: true; the input reads as it did. -/
def journalDoesSpec : ChangeSpec := { name := "journalDoes", fn := fun _ => fun
  | [d1, d2, d3] => { results := [.lit (.bool true)], args := [d1, d2, d3] }
  | _ => none }
def journalDoesRow : OpenClaim := { program := "ytphihjkijkcnmaa", sum := "4ee2b9126f9e5f3e27300527c8141748ae142a683173369705e77bba6b64d297", func := "pleach/pleachlaw08.JournalDoes", spec := "journalDoes", plainKeys := false, apart := false }
def JournalDoesSaid : Prop := journalDoesRow.holds Try.pinned (OpenSpec.ofChange journalDoesSpec)

/-- ITS FALSE NEIGHBOUR: 'it returns false'. Refute it at one input. -/
def journalDoesWrong : ChangeSpec := { name := "journalDoes", fn := fun _ => fun
  | [d1, d2, d3] => { results := [.lit (.bool false)], args := [d1, d2, d3] }
  | _ => none }
def JournalDoesWrongFalsely : Prop := journalDoesRow.holds Try.pinned (OpenSpec.ofChange journalDoesWrong)

/-- 'pleachlaw09.BlocksCrash': WHATEVER THE INPUT: true; the input reads as it did. -/
def blocksCrashSpec : ChangeSpec := { name := "blocksCrash", fn := fun _ => fun
  | [d1, d2, d3, d4] => { results := [.lit (.bool true)], args := [d1, d2, d3, d4] }
  | _ => none }
def blocksCrashRow : OpenClaim := { program := "ytphihjkijkcnmaa", sum := "4ee2b9126f9e5f3e27300527c8141748ae142a683173369705e77bba6b64d297", func := "pleach/pleachlaw09.BlocksCrash", spec := "blocksCrash", unfollowed := true, recurses := true, plainKeys := false, apart := false }
def BlocksCrashSaid : Prop := blocksCrashRow.holds Try.pinned (OpenSpec.ofChange blocksCrashSpec)

/-- ITS FALSE NEIGHBOUR: 'it returns false'. Refute it at one input. -/
def blocksCrashWrong : ChangeSpec := { name := "blocksCrash", fn := fun _ => fun
  | [d1, d2, d3, d4] => { results := [.lit (.bool false)], args := [d1, d2, d3, d4] }
  | _ => none }
def BlocksCrashWrongFalsely : Prop := blocksCrashRow.holds Try.pinned (OpenSpec.ofChange blocksCrashWrong)

/- THE SECOND FORM. 'bulk': how many values and letters a reading holds, each counted each time it is reached (what is shared counts as often as it is met; a slice's spare places count too). A statement '..UptoSaid' is the law's where the arguments, and the package variables that the reading takes, are together of bulk at most 1048576: NARROWER than '..Said'. Prove '..Said' where nothing that the law and all that it calls make is longer than what came in: it says more and counts as full. Else prove '..UptoSaid'. A law counts once. -/
mutual
def uptoBulk {H : Type} : DataW H → Nat
  | .lit (.string bytes) => bytes.length + 1
  | .lit _ => 1
  | .nil => 1
  | .ptr d => uptoBulk d + 1
  | .slice elems spare => uptoBulkAll elems + uptoBulkAll spare + 1
  | .agg parts => uptoBulkAll parts + 1
  | .iface _ d => uptoBulk d + 1
  | .map entries => uptoBulkEntries entries + 1
  | .held _ => 1
def uptoBulkAll {H : Type} : List (DataW H) → Nat
  | [] => 0
  | d :: r => uptoBulk d + uptoBulkAll r
def uptoBulkEntries {H : Type} : List (Lit × DataW H) → Nat
  | [] => 0
  | x :: r => uptoBulkEntry x + uptoBulkEntries r
def uptoBulkEntry {H : Type} : Lit × DataW H → Nat
  | (.string bytes, d) => bytes.length + uptoBulk d + 1
  | (_, d) => uptoBulk d + 1
 end
def uptoSmall : (H : Type) → List (DataW H) → Bool := fun _ ds => decide (uptoBulkAll ds ≤ 1048576)
def OpenSpec.upto (s : _root_.Go.ChangeSpec) : _root_.Go.OpenSpec := { _root_.Go.OpenSpec.ofChange s with cond := some uptoSmall }

/-- 'pleachlaw09.BlocksNames', WHERE WHAT IT READS IS OF BULK AT MOST 1048576: true; the input reads as it did. -/
def blocksNamesUptoRow : OpenClaim := { program := "ytphihjkijkcnmaa", sum := "4ee2b9126f9e5f3e27300527c8141748ae142a683173369705e77bba6b64d297", func := "pleach/pleachlaw09.BlocksNames", spec := "blocksNames", plainKeys := false, apart := false, narrowed := true }
def BlocksNamesUptoSaid : Prop := blocksNamesUptoRow.holds Try.pinned (OpenSpec.upto blocksNamesSpec)

/-- 'pleachlaw08.JournalNames', WHERE WHAT IT READS IS OF BULK AT MOST 1048576: true; the input reads as it did. -/
def journalNamesUptoRow : OpenClaim := { program := "ytphihjkijkcnmaa", sum := "4ee2b9126f9e5f3e27300527c8141748ae142a683173369705e77bba6b64d297", func := "pleach/pleachlaw08.JournalNames", spec := "journalNames", plainKeys := false, apart := false, narrowed := true }
def JournalNamesUptoSaid : Prop := journalNamesUptoRow.holds Try.pinned (OpenSpec.upto journalNamesSpec)

/-- 'pleachlaw08.DiskDoes', WHERE WHAT IT READS IS OF BULK AT MOST 1048576: true; the input reads as it did. -/
def diskDoesUptoRow : OpenClaim := { program := "ytphihjkijkcnmaa", sum := "4ee2b9126f9e5f3e27300527c8141748ae142a683173369705e77bba6b64d297", func := "pleach/pleachlaw08.DiskDoes", spec := "diskDoes", plainKeys := false, apart := false, narrowed := true }
def DiskDoesUptoSaid : Prop := diskDoesUptoRow.holds Try.pinned (OpenSpec.upto diskDoesSpec)

/-- 'pleachlaw08.JournalCrashes', WHERE WHAT IT READS IS OF BULK AT MOST 1048576: true; the input reads as it did. -/
def journalCrashesUptoRow : OpenClaim := { program := "ytphihjkijkcnmaa", sum := "4ee2b9126f9e5f3e27300527c8141748ae142a683173369705e77bba6b64d297", func := "pleach/pleachlaw08.JournalCrashes", spec := "journalCrashes", plainKeys := false, apart := false, narrowed := true }
def JournalCrashesUptoSaid : Prop := journalCrashesUptoRow.holds Try.pinned (OpenSpec.upto journalCrashesSpec)

/-- 'pleachlaw08.JournalAgain', WHERE WHAT IT READS IS OF BULK AT MOST 1048576: true; the input reads as it did. -/
def journalAgainUptoRow : OpenClaim := { program := "ytphihjkijkcnmaa", sum := "4ee2b9126f9e5f3e27300527c8141748ae142a683173369705e77bba6b64d297", func := "pleach/pleachlaw08.JournalAgain", spec := "journalAgain", plainKeys := false, apart := false, narrowed := true }
def JournalAgainUptoSaid : Prop := journalAgainUptoRow.holds Try.pinned (OpenSpec.upto journalAgainSpec)

/-- 'pleachlaw08.JournalDoes', WHERE WHAT IT READS IS OF BULK AT MOST 1048576: true; the input reads as it did. -/
def journalDoesUptoRow : OpenClaim := { program := "ytphihjkijkcnmaa", sum := "4ee2b9126f9e5f3e27300527c8141748ae142a683173369705e77bba6b64d297", func := "pleach/pleachlaw08.JournalDoes", spec := "journalDoes", plainKeys := false, apart := false, narrowed := true }
def JournalDoesUptoSaid : Prop := journalDoesUptoRow.holds Try.pinned (OpenSpec.upto journalDoesSpec)

/-- 'pleachlaw09.BlocksCrash', WHERE WHAT IT READS IS OF BULK AT MOST 1048576: true; the input reads as it did. -/
def blocksCrashUptoRow : OpenClaim := { program := "ytphihjkijkcnmaa", sum := "4ee2b9126f9e5f3e27300527c8141748ae142a683173369705e77bba6b64d297", func := "pleach/pleachlaw09.BlocksCrash", spec := "blocksCrash", unfollowed := true, recurses := true, plainKeys := false, apart := false, narrowed := true }
def BlocksCrashUptoSaid : Prop := blocksCrashUptoRow.holds Try.pinned (OpenSpec.upto blocksCrashSpec)

end Rows
end Go.Proofs.Ytphihjkijkcnmaa
