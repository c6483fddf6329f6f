/-
  No cell of these rows narrows 'for every input' (looked for: loops, veiled, ifaces, maps, wideKeys, modest, calm, conditions, laid).
  DERIVED. THE GIVEN ROWS OF THIS SEAT. 7 by the template 'for every input the law returns true; each argument reads behind the call as it read before'; 0 by the template 'total and deterministic' (their statements: YtoajnmbbgbpbgaaTotals.lean).
  GIVEN WITH THE SEED: the statements are not yours to turn. If you find one false, say at which input.
  Laid BY PROGRAM, IN A SANDBOX (cutbox-rows.mjs): the forced cells as the released guide's own fill.sh prints them over the translation 0c4909e30d76e561… (all of the seat's roots in one cut). By AI agents, Wed Nov 11 2026. No macro, syntax, notation, axiom, sorry.
-/
import Derived.Test.YtoajnmbbgbpbgaaChecked
import GoSem.Claim
import GoSem.ClaimJoined
import GoSem.ClaimMapViews
import Derived.JoinedTies
import Derived.KernelRfl
namespace Go.Proofs.Ytoajnmbbgbpbgaa
/- THE CELL 'sum', in the pinned program and in every row, IS THE sha256 OF THE DUMP (.gsa) THAT YtoajnmbbgbpbgaaProg.lean LOADS. Nothing in Lean hashes anything: it is a label: what it is worth is what the hold of that sum in a sandbox is worth. -/
noncomputable def Try.pinned : Pinned := { name := "ytoajnmbbgbpbgaa", sum := "0c4909e30d76e5614e0137b5cfb6f1447dc49a724a00d9308ae2bd2f8d914b48", checked := Try.checked }
namespace Rows
def none {H : Type} : Left H := { results := [], args := [] }

/-- 'carrellaw12.FsFormats': WHATEVER THE INPUT: true; the input reads as it did. -/
def fsFormatsSpec : ChangeSpec := { name := "fsFormats", fn := fun _ => fun
  | [d] => { results := [.lit (.bool true)], args := [d] }
  | _ => none }
def fsFormatsRow : OpenClaim := { program := "ytoajnmbbgbpbgaa", sum := "0c4909e30d76e5614e0137b5cfb6f1447dc49a724a00d9308ae2bd2f8d914b48", func := "carrel/carrellaw12.FsFormats", spec := "fsFormats", unfollowed := true, recurses := true, apart := false }
def FsFormatsSaid : Prop := fsFormatsRow.holds Try.pinned (OpenSpec.ofChange fsFormatsSpec)

/-- ITS FALSE NEIGHBOUR: 'it returns false'. Refute it at one input. -/
def fsFormatsWrong : ChangeSpec := { name := "fsFormats", fn := fun _ => fun
  | [d] => { results := [.lit (.bool false)], args := [d] }
  | _ => none }
def FsFormatsWrongFalsely : Prop := fsFormatsRow.holds Try.pinned (OpenSpec.ofChange fsFormatsWrong)

/-- 'carrellaw12.FsMap': WHATEVER THE INPUT: true; the input reads as it did. -/
def fsMapSpec : ChangeSpec := { name := "fsMap", fn := fun _ => fun
  | [d] => { results := [.lit (.bool true)], args := [d] }
  | _ => none }
def fsMapRow : OpenClaim := { program := "ytoajnmbbgbpbgaa", sum := "0c4909e30d76e5614e0137b5cfb6f1447dc49a724a00d9308ae2bd2f8d914b48", func := "carrel/carrellaw12.FsMap", spec := "fsMap", unfollowed := true, recurses := true, apart := false }
def FsMapSaid : Prop := fsMapRow.holds Try.pinned (OpenSpec.ofChange fsMapSpec)

/-- ITS FALSE NEIGHBOUR: 'it returns false'. Refute it at one input. -/
def fsMapWrong : ChangeSpec := { name := "fsMap", fn := fun _ => fun
  | [d] => { results := [.lit (.bool false)], args := [d] }
  | _ => none }
def FsMapWrongFalsely : Prop := fsMapRow.holds Try.pinned (OpenSpec.ofChange fsMapWrong)

/-- 'carrellaw12.FsApart': WHATEVER THE INPUT: true; the input reads as it did. -/
def fsApartSpec : ChangeSpec := { name := "fsApart", fn := fun _ => fun
  | [d1, d2, d3, d4, d5] => { results := [.lit (.bool true)], args := [d1, d2, d3, d4, d5] }
  | _ => none }
def fsApartRow : OpenClaim := { program := "ytoajnmbbgbpbgaa", sum := "0c4909e30d76e5614e0137b5cfb6f1447dc49a724a00d9308ae2bd2f8d914b48", func := "carrel/carrellaw12.FsApart", spec := "fsApart", unfollowed := true, recurses := true, apart := false }
def FsApartSaid : Prop := fsApartRow.holds Try.pinned (OpenSpec.ofChange fsApartSpec)

/-- ITS FALSE NEIGHBOUR: 'it returns false'. Refute it at one input. -/
def fsApartWrong : ChangeSpec := { name := "fsApart", fn := fun _ => fun
  | [d1, d2, d3, d4, d5] => { results := [.lit (.bool false)], args := [d1, d2, d3, d4, d5] }
  | _ => none }
def FsApartWrongFalsely : Prop := fsApartRow.holds Try.pinned (OpenSpec.ofChange fsApartWrong)

/-- 'carrellaw12.FsNone': WHATEVER THE INPUT: true; the input reads as it did. -/
def fsNoneSpec : ChangeSpec := { name := "fsNone", fn := fun _ => fun
  | [d] => { results := [.lit (.bool true)], args := [d] }
  | _ => none }
def fsNoneRow : OpenClaim := { program := "ytoajnmbbgbpbgaa", sum := "0c4909e30d76e5614e0137b5cfb6f1447dc49a724a00d9308ae2bd2f8d914b48", func := "carrel/carrellaw12.FsNone", spec := "fsNone", unfollowed := true, recurses := true, apart := false }
def FsNoneSaid : Prop := fsNoneRow.holds Try.pinned (OpenSpec.ofChange fsNoneSpec)

/-- ITS FALSE NEIGHBOUR: 'it returns false'. Refute it at one input. -/
def fsNoneWrong : ChangeSpec := { name := "fsNone", fn := fun _ => fun
  | [d] => { results := [.lit (.bool false)], args := [d] }
  | _ => none }
def FsNoneWrongFalsely : Prop := fsNoneRow.holds Try.pinned (OpenSpec.ofChange fsNoneWrong)

/-- 'carrellaw12.FsActs': WHATEVER THE INPUT: true; the input reads as it did. -/
def fsActsSpec : ChangeSpec := { name := "fsActs", fn := fun _ => fun
  | [d] => { results := [.lit (.bool true)], args := [d] }
  | _ => none }
def fsActsRow : OpenClaim := { program := "ytoajnmbbgbpbgaa", sum := "0c4909e30d76e5614e0137b5cfb6f1447dc49a724a00d9308ae2bd2f8d914b48", func := "carrel/carrellaw12.FsActs", spec := "fsActs", unfollowed := true, recurses := true, apart := false }
def FsActsSaid : Prop := fsActsRow.holds Try.pinned (OpenSpec.ofChange fsActsSpec)

/-- ITS FALSE NEIGHBOUR: 'it returns false'. Refute it at one input. -/
def fsActsWrong : ChangeSpec := { name := "fsActs", fn := fun _ => fun
  | [d] => { results := [.lit (.bool false)], args := [d] }
  | _ => none }
def FsActsWrongFalsely : Prop := fsActsRow.holds Try.pinned (OpenSpec.ofChange fsActsWrong)

/-- 'carrellaw12.FsRaw': WHATEVER THE INPUT: true; the input reads as it did. -/
def fsRawSpec : ChangeSpec := { name := "fsRaw", fn := fun _ => fun
  | [d1, d2] => { results := [.lit (.bool true)], args := [d1, d2] }
  | _ => none }
def fsRawRow : OpenClaim := { program := "ytoajnmbbgbpbgaa", sum := "0c4909e30d76e5614e0137b5cfb6f1447dc49a724a00d9308ae2bd2f8d914b48", func := "carrel/carrellaw12.FsRaw", spec := "fsRaw", unfollowed := true, recurses := true, apart := false }
def FsRawSaid : Prop := fsRawRow.holds Try.pinned (OpenSpec.ofChange fsRawSpec)

/-- ITS FALSE NEIGHBOUR: 'it returns false'. Refute it at one input. -/
def fsRawWrong : ChangeSpec := { name := "fsRaw", fn := fun _ => fun
  | [d1, d2] => { results := [.lit (.bool false)], args := [d1, d2] }
  | _ => none }
def FsRawWrongFalsely : Prop := fsRawRow.holds Try.pinned (OpenSpec.ofChange fsRawWrong)

/-- 'carrellaw13.HandleReads': WHATEVER THE INPUT: true; the input reads as it did. -/
def handleReadsSpec : ChangeSpec := { name := "handleReads", fn := fun _ => fun
  | [d1, d2] => { results := [.lit (.bool true)], args := [d1, d2] }
  | _ => none }
def handleReadsRow : OpenClaim := { program := "ytoajnmbbgbpbgaa", sum := "0c4909e30d76e5614e0137b5cfb6f1447dc49a724a00d9308ae2bd2f8d914b48", func := "carrel/carrellaw13.HandleReads", spec := "handleReads", unfollowed := true, recurses := true, apart := false }
def HandleReadsSaid : Prop := handleReadsRow.holds Try.pinned (OpenSpec.ofChange handleReadsSpec)

/-- ITS FALSE NEIGHBOUR: 'it returns false'. Refute it at one input. -/
def handleReadsWrong : ChangeSpec := { name := "handleReads", fn := fun _ => fun
  | [d1, d2] => { results := [.lit (.bool false)], args := [d1, d2] }
  | _ => none }
def HandleReadsWrongFalsely : Prop := handleReadsRow.holds Try.pinned (OpenSpec.ofChange handleReadsWrong)

/- THE SECOND FORM. 'bulk': how many values and letters a reading holds, each counted each time it is reached (what is shared counts as often as it is met; a slice's spare places count too). A statement '..UptoSaid' is the law's where the arguments, and the package variables that the reading takes, are together of bulk at most 1048576: NARROWER than '..Said'. Prove '..Said' where nothing that the law and all that it calls make is longer than what came in: it says more and counts as full. Else prove '..UptoSaid'. A law counts once. -/
mutual
def uptoBulk {H : Type} : DataW H → Nat
  | .lit (.string bytes) => bytes.length + 1
  | .lit _ => 1
  | .nil => 1
  | .ptr d => uptoBulk d + 1
  | .slice elems spare => uptoBulkAll elems + uptoBulkAll spare + 1
  | .agg parts => uptoBulkAll parts + 1
  | .iface _ d => uptoBulk d + 1
  | .map entries => uptoBulkEntries entries + 1
  | .held _ => 1
def uptoBulkAll {H : Type} : List (DataW H) → Nat
  | [] => 0
  | d :: r => uptoBulk d + uptoBulkAll r
def uptoBulkEntries {H : Type} : List (Lit × DataW H) → Nat
  | [] => 0
  | x :: r => uptoBulkEntry x + uptoBulkEntries r
def uptoBulkEntry {H : Type} : Lit × DataW H → Nat
  | (.string bytes, d) => bytes.length + uptoBulk d + 1
  | (_, d) => uptoBulk d + 1
 end
def uptoSmall : (H : Type) → List (DataW H) → Bool := fun _ ds => decide (uptoBulkAll ds ≤ 1048576)
def OpenSpec.upto (s : _root_.Go.ChangeSpec) : _root_.Go.OpenSpec := { _root_.Go.OpenSpec.ofChange s with cond := some uptoSmall }

/-- 'carrellaw12.FsFormats', WHERE WHAT IT READS IS OF BULK AT MOST 1048576: true; the input reads as it did. -/
def fsFormatsUptoRow : OpenClaim := { program := "ytoajnmbbgbpbgaa", sum := "0c4909e30d76e5614e0137b5cfb6f1447dc49a724a00d9308ae2bd2f8d914b48", func := "carrel/carrellaw12.FsFormats", spec := "fsFormats", unfollowed := true, recurses := true, apart := false, narrowed := true }
def FsFormatsUptoSaid : Prop := fsFormatsUptoRow.holds Try.pinned (OpenSpec.upto fsFormatsSpec)

/-- 'carrellaw12.FsMap', WHERE WHAT IT READS IS OF BULK AT MOST 1048576: true; the input reads as it did. -/
def fsMapUptoRow : OpenClaim := { program := "ytoajnmbbgbpbgaa", sum := "0c4909e30d76e5614e0137b5cfb6f1447dc49a724a00d9308ae2bd2f8d914b48", func := "carrel/carrellaw12.FsMap", spec := "fsMap", unfollowed := true, recurses := true, apart := false, narrowed := true }
def FsMapUptoSaid : Prop := fsMapUptoRow.holds Try.pinned (OpenSpec.upto fsMapSpec)

/-- 'carrellaw12.FsApart', WHERE WHAT IT READS IS OF BULK AT MOST 1048576: true; the input reads as it did. -/
def fsApartUptoRow : OpenClaim := { program := "ytoajnmbbgbpbgaa", sum := "0c4909e30d76e5614e0137b5cfb6f1447dc49a724a00d9308ae2bd2f8d914b48", func := "carrel/carrellaw12.FsApart", spec := "fsApart", unfollowed := true, recurses := true, apart := false, narrowed := true }
def FsApartUptoSaid : Prop := fsApartUptoRow.holds Try.pinned (OpenSpec.upto fsApartSpec)

/-- 'carrellaw12.FsNone', WHERE WHAT IT READS IS OF BULK AT MOST 1048576: true; the input reads as it did. -/
def fsNoneUptoRow : OpenClaim := { program := "ytoajnmbbgbpbgaa", sum := "0c4909e30d76e5614e0137b5cfb6f1447dc49a724a00d9308ae2bd2f8d914b48", func := "carrel/carrellaw12.FsNone", spec := "fsNone", unfollowed := true, recurses := true, apart := false, narrowed := true }
def FsNoneUptoSaid : Prop := fsNoneUptoRow.holds Try.pinned (OpenSpec.upto fsNoneSpec)

/-- 'carrellaw12.FsActs', WHERE WHAT IT READS IS OF BULK AT MOST 1048576: true; the input reads as it did. -/
def fsActsUptoRow : OpenClaim := { program := "ytoajnmbbgbpbgaa", sum := "0c4909e30d76e5614e0137b5cfb6f1447dc49a724a00d9308ae2bd2f8d914b48", func := "carrel/carrellaw12.FsActs", spec := "fsActs", unfollowed := true, recurses := true, apart := false, narrowed := true }
def FsActsUptoSaid : Prop := fsActsUptoRow.holds Try.pinned (OpenSpec.upto fsActsSpec)

/-- 'carrellaw12.FsRaw', WHERE WHAT IT READS IS OF BULK AT MOST 1048576: true; the input reads as it did. -/
def fsRawUptoRow : OpenClaim := { program := "ytoajnmbbgbpbgaa", sum := "0c4909e30d76e5614e0137b5cfb6f1447dc49a724a00d9308ae2bd2f8d914b48", func := "carrel/carrellaw12.FsRaw", spec := "fsRaw", unfollowed := true, recurses := true, apart := false, narrowed := true }
def FsRawUptoSaid : Prop := fsRawUptoRow.holds Try.pinned (OpenSpec.upto fsRawSpec)

/-- 'carrellaw13.HandleReads', WHERE WHAT IT READS IS OF BULK AT MOST 1048576: true; the input reads as it did. -/
def handleReadsUptoRow : OpenClaim := { program := "ytoajnmbbgbpbgaa", sum := "0c4909e30d76e5614e0137b5cfb6f1447dc49a724a00d9308ae2bd2f8d914b48", func := "carrel/carrellaw13.HandleReads", spec := "handleReads", unfollowed := true, recurses := true, apart := false, narrowed := true }
def HandleReadsUptoSaid : Prop := handleReadsUptoRow.holds Try.pinned (OpenSpec.upto handleReadsSpec)

end Rows
end Go.Proofs.Ytoajnmbbgbpbgaa
