/-
  NARROWER THAN 'FOR EVERY INPUT', by the rows' own cells (each row's printed sentence says how): LayoutChecks: loops · WireWrites: loops · RelChecks: loops · RelRows: loops · RelPuts: loops.
  DERIVED. THE GIVEN ROWS OF THIS SEAT. 6 by the template 'for every input the law returns true; each argument reads behind the call as it read before'; 0 by the template 'total and deterministic' (their statements: YtcdnhlcafkomfaaTotals.lean).
  GIVEN WITH THE SEED: the statements are not yours to turn. If you find one false, say at which input.
  Laid BY PROGRAM, IN A SANDBOX (cutbox-rows.mjs): the forced cells as the released guide's own fill.sh prints them over the translation f26db004e06d497b… (all of the seat's roots in one cut). By AI agents, Wed Nov 11 2026. No macro, syntax, notation, axiom, sorry.
-/
import Derived.Test.YtcdnhlcafkomfaaChecked
import GoSem.Claim
import GoSem.ClaimJoined
import GoSem.ClaimMapViews
import Derived.JoinedTies
import Derived.KernelRfl
namespace Go.Proofs.Ytcdnhlcafkomfaa
/- THE CELL 'sum', in the pinned program and in every row, IS THE sha256 OF THE DUMP (.gsa) THAT YtcdnhlcafkomfaaProg.lean LOADS. Nothing in Lean hashes anything: it is a label: what it is worth is what the hold of that sum in a sandbox is worth. -/
noncomputable def Try.pinned : Pinned := { name := "ytcdnhlcafkomfaa", sum := "f26db004e06d497b7b3190362bc98cce686b2f1056b67afd6f92bb96f88f4db5", checked := Try.checked }
namespace Rows
def none {H : Type} : Left H := { results := [], args := [] }

/-- 'claplaw2.LayoutChecks': WHATEVER THE INPUT: true; the input reads as it did. -/
def layoutChecksSpec : ChangeSpec := { name := "layoutChecks", fn := fun _ => fun
  | [d] => { results := [.lit (.bool true)], args := [d] }
  | _ => none }
def layoutChecksRow : OpenClaim := { program := "ytcdnhlcafkomfaa", sum := "f26db004e06d497b7b3190362bc98cce686b2f1056b67afd6f92bb96f88f4db5", func := "clapperbridge/claplaw2.LayoutChecks", spec := "layoutChecks", unfollowed := true, recurses := true, loops := true, apart := false }
def LayoutChecksSaid : Prop := layoutChecksRow.holds Try.pinned (OpenSpec.ofChange layoutChecksSpec)

/-- ITS FALSE NEIGHBOUR: 'it returns false'. Refute it at one input. -/
def layoutChecksWrong : ChangeSpec := { name := "layoutChecks", fn := fun _ => fun
  | [d] => { results := [.lit (.bool false)], args := [d] }
  | _ => none }
def LayoutChecksWrongFalsely : Prop := layoutChecksRow.holds Try.pinned (OpenSpec.ofChange layoutChecksWrong)

/-- 'claplaw2.WireReads': WHATEVER THE INPUT: true; the input reads as it did. -/
def wireReadsSpec : ChangeSpec := { name := "wireReads", fn := fun _ => fun
  | [d1, d2] => { results := [.lit (.bool true)], args := [d1, d2] }
  | _ => none }
def wireReadsRow : OpenClaim := { program := "ytcdnhlcafkomfaa", sum := "f26db004e06d497b7b3190362bc98cce686b2f1056b67afd6f92bb96f88f4db5", func := "clapperbridge/claplaw2.WireReads", spec := "wireReads", inPlace := ["internal/bytealg.abigen_runtime_cmpstring"], unfollowed := true, recurses := true, apart := false }
def WireReadsSaid : Prop := wireReadsRow.holds Try.pinned (OpenSpec.ofChange wireReadsSpec)

/-- ITS FALSE NEIGHBOUR: 'it returns false'. Refute it at one input. -/
def wireReadsWrong : ChangeSpec := { name := "wireReads", fn := fun _ => fun
  | [d1, d2] => { results := [.lit (.bool false)], args := [d1, d2] }
  | _ => none }
def WireReadsWrongFalsely : Prop := wireReadsRow.holds Try.pinned (OpenSpec.ofChange wireReadsWrong)

/-- 'claplaw2.WireWrites': WHATEVER THE INPUT: true; the input reads as it did. -/
def wireWritesSpec : ChangeSpec := { name := "wireWrites", fn := fun _ => fun
  | [d1, d2, d3] => { results := [.lit (.bool true)], args := [d1, d2, d3] }
  | _ => none }
def wireWritesRow : OpenClaim := { program := "ytcdnhlcafkomfaa", sum := "f26db004e06d497b7b3190362bc98cce686b2f1056b67afd6f92bb96f88f4db5", func := "clapperbridge/claplaw2.WireWrites", spec := "wireWrites", inPlace := ["internal/bytealg.abigen_runtime_cmpstring"], unfollowed := true, recurses := true, loops := true, apart := false }
def WireWritesSaid : Prop := wireWritesRow.holds Try.pinned (OpenSpec.ofChange wireWritesSpec)

/-- ITS FALSE NEIGHBOUR: 'it returns false'. Refute it at one input. -/
def wireWritesWrong : ChangeSpec := { name := "wireWrites", fn := fun _ => fun
  | [d1, d2, d3] => { results := [.lit (.bool false)], args := [d1, d2, d3] }
  | _ => none }
def WireWritesWrongFalsely : Prop := wireWritesRow.holds Try.pinned (OpenSpec.ofChange wireWritesWrong)

/-- 'claplaw2.RelChecks': WHATEVER THE INPUT: true; the input reads as it did. -/
def relChecksSpec : ChangeSpec := { name := "relChecks", fn := fun _ => fun
  | [d1, d2, d3, d4, d5] => { results := [.lit (.bool true)], args := [d1, d2, d3, d4, d5] }
  | _ => none }
def relChecksRow : OpenClaim := { program := "ytcdnhlcafkomfaa", sum := "f26db004e06d497b7b3190362bc98cce686b2f1056b67afd6f92bb96f88f4db5", func := "clapperbridge/claplaw2.RelChecks", spec := "relChecks", inPlace := ["internal/bytealg.abigen_runtime_cmpstring"], unfollowed := true, recurses := true, loops := true, apart := false }
def RelChecksSaid : Prop := relChecksRow.holds Try.pinned (OpenSpec.ofChange relChecksSpec)

/-- ITS FALSE NEIGHBOUR: 'it returns false'. Refute it at one input. -/
def relChecksWrong : ChangeSpec := { name := "relChecks", fn := fun _ => fun
  | [d1, d2, d3, d4, d5] => { results := [.lit (.bool false)], args := [d1, d2, d3, d4, d5] }
  | _ => none }
def RelChecksWrongFalsely : Prop := relChecksRow.holds Try.pinned (OpenSpec.ofChange relChecksWrong)

/-- 'claplaw2.RelRows': WHATEVER THE INPUT: true; the input reads as it did. -/
def relRowsSpec : ChangeSpec := { name := "relRows", fn := fun _ => fun
  | [d1, d2, d3] => { results := [.lit (.bool true)], args := [d1, d2, d3] }
  | _ => none }
def relRowsRow : OpenClaim := { program := "ytcdnhlcafkomfaa", sum := "f26db004e06d497b7b3190362bc98cce686b2f1056b67afd6f92bb96f88f4db5", func := "clapperbridge/claplaw2.RelRows", spec := "relRows", inPlace := ["internal/bytealg.abigen_runtime_cmpstring"], unfollowed := true, recurses := true, loops := true, apart := false }
def RelRowsSaid : Prop := relRowsRow.holds Try.pinned (OpenSpec.ofChange relRowsSpec)

/-- ITS FALSE NEIGHBOUR: 'it returns false'. Refute it at one input. -/
def relRowsWrong : ChangeSpec := { name := "relRows", fn := fun _ => fun
  | [d1, d2, d3] => { results := [.lit (.bool false)], args := [d1, d2, d3] }
  | _ => none }
def RelRowsWrongFalsely : Prop := relRowsRow.holds Try.pinned (OpenSpec.ofChange relRowsWrong)

/-- 'claplaw2.RelPuts': WHATEVER THE INPUT: true; the input reads as it did. -/
def relPutsSpec : ChangeSpec := { name := "relPuts", fn := fun _ => fun
  | [d1, d2] => { results := [.lit (.bool true)], args := [d1, d2] }
  | _ => none }
def relPutsRow : OpenClaim := { program := "ytcdnhlcafkomfaa", sum := "f26db004e06d497b7b3190362bc98cce686b2f1056b67afd6f92bb96f88f4db5", func := "clapperbridge/claplaw2.RelPuts", spec := "relPuts", inPlace := ["internal/bytealg.abigen_runtime_cmpstring"], unfollowed := true, recurses := true, loops := true, apart := false }
def RelPutsSaid : Prop := relPutsRow.holds Try.pinned (OpenSpec.ofChange relPutsSpec)

/-- ITS FALSE NEIGHBOUR: 'it returns false'. Refute it at one input. -/
def relPutsWrong : ChangeSpec := { name := "relPuts", fn := fun _ => fun
  | [d1, d2] => { results := [.lit (.bool false)], args := [d1, d2] }
  | _ => none }
def RelPutsWrongFalsely : Prop := relPutsRow.holds Try.pinned (OpenSpec.ofChange relPutsWrong)

/- THE SECOND FORM. 'bulk': how many values and letters a reading holds, each counted each time it is reached (what is shared counts as often as it is met; a slice's spare places count too). A statement '..UptoSaid' is the law's where the arguments, and the package variables that the reading takes, are together of bulk at most 1048576: NARROWER than '..Said'. Prove '..Said' where nothing that the law and all that it calls make is longer than what came in: it says more and counts as full. Else prove '..UptoSaid'. A law counts once. -/
mutual
def uptoBulk {H : Type} : DataW H → Nat
  | .lit (.string bytes) => bytes.length + 1
  | .lit _ => 1
  | .nil => 1
  | .ptr d => uptoBulk d + 1
  | .slice elems spare => uptoBulkAll elems + uptoBulkAll spare + 1
  | .agg parts => uptoBulkAll parts + 1
  | .iface _ d => uptoBulk d + 1
  | .map entries => uptoBulkEntries entries + 1
  | .held _ => 1
def uptoBulkAll {H : Type} : List (DataW H) → Nat
  | [] => 0
  | d :: r => uptoBulk d + uptoBulkAll r
def uptoBulkEntries {H : Type} : List (Lit × DataW H) → Nat
  | [] => 0
  | x :: r => uptoBulkEntry x + uptoBulkEntries r
def uptoBulkEntry {H : Type} : Lit × DataW H → Nat
  | (.string bytes, d) => bytes.length + uptoBulk d + 1
  | (_, d) => uptoBulk d + 1
 end
def uptoSmall : (H : Type) → List (DataW H) → Bool := fun _ ds => decide (uptoBulkAll ds ≤ 1048576)
def OpenSpec.upto (s : _root_.Go.ChangeSpec) : _root_.Go.OpenSpec := { _root_.Go.OpenSpec.ofChange s with cond := some uptoSmall }

/-- 'claplaw2.LayoutChecks', WHERE WHAT IT READS IS OF BULK AT MOST 1048576: true; the input reads as it did. -/
def layoutChecksUptoRow : OpenClaim := { program := "ytcdnhlcafkomfaa", sum := "f26db004e06d497b7b3190362bc98cce686b2f1056b67afd6f92bb96f88f4db5", func := "clapperbridge/claplaw2.LayoutChecks", spec := "layoutChecks", unfollowed := true, recurses := true, loops := true, apart := false, narrowed := true }
def LayoutChecksUptoSaid : Prop := layoutChecksUptoRow.holds Try.pinned (OpenSpec.upto layoutChecksSpec)

/-- 'claplaw2.WireReads', WHERE WHAT IT READS IS OF BULK AT MOST 1048576: true; the input reads as it did. -/
def wireReadsUptoRow : OpenClaim := { program := "ytcdnhlcafkomfaa", sum := "f26db004e06d497b7b3190362bc98cce686b2f1056b67afd6f92bb96f88f4db5", func := "clapperbridge/claplaw2.WireReads", spec := "wireReads", inPlace := ["internal/bytealg.abigen_runtime_cmpstring"], unfollowed := true, recurses := true, apart := false, narrowed := true }
def WireReadsUptoSaid : Prop := wireReadsUptoRow.holds Try.pinned (OpenSpec.upto wireReadsSpec)

/-- 'claplaw2.WireWrites', WHERE WHAT IT READS IS OF BULK AT MOST 1048576: true; the input reads as it did. -/
def wireWritesUptoRow : OpenClaim := { program := "ytcdnhlcafkomfaa", sum := "f26db004e06d497b7b3190362bc98cce686b2f1056b67afd6f92bb96f88f4db5", func := "clapperbridge/claplaw2.WireWrites", spec := "wireWrites", inPlace := ["internal/bytealg.abigen_runtime_cmpstring"], unfollowed := true, recurses := true, loops := true, apart := false, narrowed := true }
def WireWritesUptoSaid : Prop := wireWritesUptoRow.holds Try.pinned (OpenSpec.upto wireWritesSpec)

/-- 'claplaw2.RelChecks', WHERE WHAT IT READS IS OF BULK AT MOST 1048576: true; the input reads as it did. -/
def relChecksUptoRow : OpenClaim := { program := "ytcdnhlcafkomfaa", sum := "f26db004e06d497b7b3190362bc98cce686b2f1056b67afd6f92bb96f88f4db5", func := "clapperbridge/claplaw2.RelChecks", spec := "relChecks", inPlace := ["internal/bytealg.abigen_runtime_cmpstring"], unfollowed := true, recurses := true, loops := true, apart := false, narrowed := true }
def RelChecksUptoSaid : Prop := relChecksUptoRow.holds Try.pinned (OpenSpec.upto relChecksSpec)

/-- 'claplaw2.RelRows', WHERE WHAT IT READS IS OF BULK AT MOST 1048576: true; the input reads as it did. -/
def relRowsUptoRow : OpenClaim := { program := "ytcdnhlcafkomfaa", sum := "f26db004e06d497b7b3190362bc98cce686b2f1056b67afd6f92bb96f88f4db5", func := "clapperbridge/claplaw2.RelRows", spec := "relRows", inPlace := ["internal/bytealg.abigen_runtime_cmpstring"], unfollowed := true, recurses := true, loops := true, apart := false, narrowed := true }
def RelRowsUptoSaid : Prop := relRowsUptoRow.holds Try.pinned (OpenSpec.upto relRowsSpec)

/-- 'claplaw2.RelPuts', WHERE WHAT IT READS IS OF BULK AT MOST 1048576: true; the input reads as it did. -/
def relPutsUptoRow : OpenClaim := { program := "ytcdnhlcafkomfaa", sum := "f26db004e06d497b7b3190362bc98cce686b2f1056b67afd6f92bb96f88f4db5", func := "clapperbridge/claplaw2.RelPuts", spec := "relPuts", inPlace := ["internal/bytealg.abigen_runtime_cmpstring"], unfollowed := true, recurses := true, loops := true, apart := false, narrowed := true }
def RelPutsUptoSaid : Prop := relPutsUptoRow.holds Try.pinned (OpenSpec.upto relPutsSpec)

end Rows
end Go.Proofs.Ytcdnhlcafkomfaa
