/-
  NARROWER THAN 'FOR EVERY INPUT', by the rows' own cells (each row's printed sentence says how): WireFields: loops.
  DERIVED. THE GIVEN ROWS OF THIS SEAT. 4 by the template 'for every input the law returns true; each argument reads behind the call as it read before'; 0 by the template 'total and deterministic' (their statements: YtolocmnfhkobgaaTotals.lean).
  GIVEN WITH THE SEED: the statements are not yours to turn. If you find one false, say at which input.
  Laid BY PROGRAM, IN A SANDBOX (cutbox-rows.mjs): the forced cells as the released guide's own fill.sh prints them over the translation f13aad1ce3c6eae6… (all of the seat's roots in one cut). By AI agents, Wed Nov 11 2026. No macro, syntax, notation, axiom, sorry.
-/
import Derived.Test.YtolocmnfhkobgaaChecked
import GoSem.Claim
import GoSem.ClaimJoined
import GoSem.ClaimMapViews
import Derived.JoinedTies
import Derived.KernelRfl
namespace Go.Proofs.Ytolocmnfhkobgaa
/- THE CELL 'sum', in the pinned program and in every row, IS THE sha256 OF THE DUMP (.gsa) THAT YtolocmnfhkobgaaProg.lean LOADS. Nothing in Lean hashes anything: it is a label: what it is worth is what the hold of that sum in a sandbox is worth. -/
noncomputable def Try.pinned : Pinned := { name := "ytolocmnfhkobgaa", sum := "f13aad1ce3c6eae697687de0ef79e1903ce8984b3a85f43634e382b89b00567f", checked := Try.checked }
namespace Rows
def none {H : Type} : Left H := { results := [], args := [] }

/-- 'claplaw2.WireAgrees': WHATEVER THE INPUT: true; the input reads as it did. -/
def wireAgreesSpec : ChangeSpec := { name := "wireAgrees", fn := fun _ => fun
  | [d1, d2] => { results := [.lit (.bool true)], args := [d1, d2] }
  | _ => none }
def wireAgreesRow : OpenClaim := { program := "ytolocmnfhkobgaa", sum := "f13aad1ce3c6eae697687de0ef79e1903ce8984b3a85f43634e382b89b00567f", func := "clapperbridge/claplaw2.WireAgrees", spec := "wireAgrees", unfollowed := true, recurses := true, apart := false }
def WireAgreesSaid : Prop := wireAgreesRow.holds Try.pinned (OpenSpec.ofChange wireAgreesSpec)

/-- ITS FALSE NEIGHBOUR: 'it returns false'. Refute it at one input. -/
def wireAgreesWrong : ChangeSpec := { name := "wireAgrees", fn := fun _ => fun
  | [d1, d2] => { results := [.lit (.bool false)], args := [d1, d2] }
  | _ => none }
def WireAgreesWrongFalsely : Prop := wireAgreesRow.holds Try.pinned (OpenSpec.ofChange wireAgreesWrong)

/-- 'claplaw2.KeysCloses': WHATEVER THE INPUT: true; the input reads as it did. -/
def keysClosesSpec : ChangeSpec := { name := "keysCloses", fn := fun _ => fun
  | [d1, d2, d3, d4] => { results := [.lit (.bool true)], args := [d1, d2, d3, d4] }
  | _ => none }
def keysClosesRow : OpenClaim := { program := "ytolocmnfhkobgaa", sum := "f13aad1ce3c6eae697687de0ef79e1903ce8984b3a85f43634e382b89b00567f", func := "clapperbridge/claplaw2.KeysCloses", spec := "keysCloses", unfollowed := true, recurses := true, apart := false }
def KeysClosesSaid : Prop := keysClosesRow.holds Try.pinned (OpenSpec.ofChange keysClosesSpec)

/-- ITS FALSE NEIGHBOUR: 'it returns false'. Refute it at one input. -/
def keysClosesWrong : ChangeSpec := { name := "keysCloses", fn := fun _ => fun
  | [d1, d2, d3, d4] => { results := [.lit (.bool false)], args := [d1, d2, d3, d4] }
  | _ => none }
def KeysClosesWrongFalsely : Prop := keysClosesRow.holds Try.pinned (OpenSpec.ofChange keysClosesWrong)

/-- 'claplaw2.WireFields': WHATEVER THE INPUT: true; the input reads as it did. -/
def wireFieldsSpec : ChangeSpec := { name := "wireFields", fn := fun _ => fun
  | [d1, d2, d3, d4] => { results := [.lit (.bool true)], args := [d1, d2, d3, d4] }
  | _ => none }
def wireFieldsRow : OpenClaim := { program := "ytolocmnfhkobgaa", sum := "f13aad1ce3c6eae697687de0ef79e1903ce8984b3a85f43634e382b89b00567f", func := "clapperbridge/claplaw2.WireFields", spec := "wireFields", unfollowed := true, recurses := true, loops := true, apart := false }
def WireFieldsSaid : Prop := wireFieldsRow.holds Try.pinned (OpenSpec.ofChange wireFieldsSpec)

/-- ITS FALSE NEIGHBOUR: 'it returns false'. Refute it at one input. -/
def wireFieldsWrong : ChangeSpec := { name := "wireFields", fn := fun _ => fun
  | [d1, d2, d3, d4] => { results := [.lit (.bool false)], args := [d1, d2, d3, d4] }
  | _ => none }
def WireFieldsWrongFalsely : Prop := wireFieldsRow.holds Try.pinned (OpenSpec.ofChange wireFieldsWrong)

/-- 'claplaw2.KeysCovers': WHATEVER THE INPUT: true; the input reads as it did. -/
def keysCoversSpec : ChangeSpec := { name := "keysCovers", fn := fun _ => fun
  | [d1, d2] => { results := [.lit (.bool true)], args := [d1, d2] }
  | _ => none }
def keysCoversRow : OpenClaim := { program := "ytolocmnfhkobgaa", sum := "f13aad1ce3c6eae697687de0ef79e1903ce8984b3a85f43634e382b89b00567f", func := "clapperbridge/claplaw2.KeysCovers", spec := "keysCovers", unfollowed := true, recurses := true, apart := false }
def KeysCoversSaid : Prop := keysCoversRow.holds Try.pinned (OpenSpec.ofChange keysCoversSpec)

/-- ITS FALSE NEIGHBOUR: 'it returns false'. Refute it at one input. -/
def keysCoversWrong : ChangeSpec := { name := "keysCovers", fn := fun _ => fun
  | [d1, d2] => { results := [.lit (.bool false)], args := [d1, d2] }
  | _ => none }
def KeysCoversWrongFalsely : Prop := keysCoversRow.holds Try.pinned (OpenSpec.ofChange keysCoversWrong)

/- THE SECOND FORM. 'bulk': how many values and letters a reading holds, each counted each time it is reached (what is shared counts as often as it is met; a slice's spare places count too). A statement '..UptoSaid' is the law's where the arguments, and the package variables that the reading takes, are together of bulk at most 1048576: NARROWER than '..Said'. Prove '..Said' where nothing that the law and all that it calls make is longer than what came in: it says more and counts as full. Else prove '..UptoSaid'. A law counts once. -/
mutual
def uptoBulk {H : Type} : DataW H → Nat
  | .lit (.string bytes) => bytes.length + 1
  | .lit _ => 1
  | .nil => 1
  | .ptr d => uptoBulk d + 1
  | .slice elems spare => uptoBulkAll elems + uptoBulkAll spare + 1
  | .agg parts => uptoBulkAll parts + 1
  | .iface _ d => uptoBulk d + 1
  | .map entries => uptoBulkEntries entries + 1
  | .held _ => 1
def uptoBulkAll {H : Type} : List (DataW H) → Nat
  | [] => 0
  | d :: r => uptoBulk d + uptoBulkAll r
def uptoBulkEntries {H : Type} : List (Lit × DataW H) → Nat
  | [] => 0
  | x :: r => uptoBulkEntry x + uptoBulkEntries r
def uptoBulkEntry {H : Type} : Lit × DataW H → Nat
  | (.string bytes, d) => bytes.length + uptoBulk d + 1
  | (_, d) => uptoBulk d + 1
 end
def uptoSmall : (H : Type) → List (DataW H) → Bool := fun _ ds => decide (uptoBulkAll ds ≤ 1048576)
def OpenSpec.upto (s : _root_.Go.ChangeSpec) : _root_.Go.OpenSpec := { _root_.Go.OpenSpec.ofChange s with cond := some uptoSmall }

/-- 'claplaw2.WireAgrees', WHERE WHAT IT READS IS OF BULK AT MOST 1048576: true; the input reads as it did. -/
def wireAgreesUptoRow : OpenClaim := { program := "ytolocmnfhkobgaa", sum := "f13aad1ce3c6eae697687de0ef79e1903ce8984b3a85f43634e382b89b00567f", func := "clapperbridge/claplaw2.WireAgrees", spec := "wireAgrees", unfollowed := true, recurses := true, apart := false, narrowed := true }
def WireAgreesUptoSaid : Prop := wireAgreesUptoRow.holds Try.pinned (OpenSpec.upto wireAgreesSpec)

/-- 'claplaw2.KeysCloses', WHERE WHAT IT READS IS OF BULK AT MOST 1048576: true; the input reads as it did. -/
def keysClosesUptoRow : OpenClaim := { program := "ytolocmnfhkobgaa", sum := "f13aad1ce3c6eae697687de0ef79e1903ce8984b3a85f43634e382b89b00567f", func := "clapperbridge/claplaw2.KeysCloses", spec := "keysCloses", unfollowed := true, recurses := true, apart := false, narrowed := true }
def KeysClosesUptoSaid : Prop := keysClosesUptoRow.holds Try.pinned (OpenSpec.upto keysClosesSpec)

/-- 'claplaw2.WireFields', WHERE WHAT IT READS IS OF BULK AT MOST 1048576: true; the input reads as it did. -/
def wireFieldsUptoRow : OpenClaim := { program := "ytolocmnfhkobgaa", sum := "f13aad1ce3c6eae697687de0ef79e1903ce8984b3a85f43634e382b89b00567f", func := "clapperbridge/claplaw2.WireFields", spec := "wireFields", unfollowed := true, recurses := true, loops := true, apart := false, narrowed := true }
def WireFieldsUptoSaid : Prop := wireFieldsUptoRow.holds Try.pinned (OpenSpec.upto wireFieldsSpec)

/-- 'claplaw2.KeysCovers', WHERE WHAT IT READS IS OF BULK AT MOST 1048576: true; the input reads as it did. -/
def keysCoversUptoRow : OpenClaim := { program := "ytolocmnfhkobgaa", sum := "f13aad1ce3c6eae697687de0ef79e1903ce8984b3a85f43634e382b89b00567f", func := "clapperbridge/claplaw2.KeysCovers", spec := "keysCovers", unfollowed := true, recurses := true, apart := false, narrowed := true }
def KeysCoversUptoSaid : Prop := keysCoversUptoRow.holds Try.pinned (OpenSpec.upto keysCoversSpec)

end Rows
end Go.Proofs.Ytolocmnfhkobgaa
