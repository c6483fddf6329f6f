/-
  No cell of these rows narrows 'for every input' (looked for: loops, veiled, ifaces, maps, wideKeys, modest, calm, conditions, laid).
  DERIVED. THE GIVEN ROWS OF THIS SEAT. 20 by the template 'for every input the law returns true; each argument reads behind the call as it read before'; 0 by the template 'total and deterministic' (their statements: YtckmfagokmpjpaaTotals.lean).
  GIVEN WITH THE SEED: the statements are not yours to turn. If you find one false, say at which input.
  Laid BY PROGRAM, IN A SANDBOX (cutbox-rows.mjs): the forced cells as the released guide's own fill.sh prints them over the translation e640e93891fe81a0… (all of the seat's roots in one cut). By AI agents, Wed Nov 11 2026. No macro, syntax, notation, axiom, sorry.
-/
import Derived.Test.YtckmfagokmpjpaaChecked
import GoSem.Claim
import GoSem.ClaimJoined
import GoSem.ClaimMapViews
import Derived.JoinedTies
import Derived.KernelRfl
namespace Go.Proofs.Ytckmfagokmpjpaa
/- THE CELL 'sum', in the pinned program and in every row, IS THE sha256 OF THE DUMP (.gsa) THAT YtckmfagokmpjpaaProg.lean LOADS. Nothing in Lean hashes anything: it is a label: what it is worth is what the hold of that sum in a sandbox is worth. -/
noncomputable def Try.pinned : Pinned := { name := "ytckmfagokmpjpaa", sum := "e640e93891fe81a04f69143441f7a6a6dea2180de3b82fe4faf68c15892f1a31", checked := Try.checked }
namespace Rows
def none {H : Type} : Left H := { results := [], args := [] }

/-- 'carrellaw10.ExtentChecks': WHATEVER THE INPUT: true; the input reads as it did. -/
def extentChecksSpec : ChangeSpec := { name := "extentChecks", fn := fun _ => fun
  | [d] => { results := [.lit (.bool true)], args := [d] }
  | _ => none }
def extentChecksRow : OpenClaim := { program := "ytckmfagokmpjpaa", sum := "e640e93891fe81a04f69143441f7a6a6dea2180de3b82fe4faf68c15892f1a31", func := "carrel/carrellaw10.ExtentChecks", spec := "extentChecks", unfollowed := true, recurses := true, apart := false }
def ExtentChecksSaid : Prop := extentChecksRow.holds Try.pinned (OpenSpec.ofChange extentChecksSpec)

/-- ITS FALSE NEIGHBOUR: 'it returns false'. Refute it at one input. -/
def extentChecksWrong : ChangeSpec := { name := "extentChecks", fn := fun _ => fun
  | [d] => { results := [.lit (.bool false)], args := [d] }
  | _ => none }
def ExtentChecksWrongFalsely : Prop := extentChecksRow.holds Try.pinned (OpenSpec.ofChange extentChecksWrong)

/-- 'carrellaw10.ExtentGrows': WHATEVER THE INPUT: true; the input reads as it did. -/
def extentGrowsSpec : ChangeSpec := { name := "extentGrows", fn := fun _ => fun
  | [d1, d2, d3] => { results := [.lit (.bool true)], args := [d1, d2, d3] }
  | _ => none }
def extentGrowsRow : OpenClaim := { program := "ytckmfagokmpjpaa", sum := "e640e93891fe81a04f69143441f7a6a6dea2180de3b82fe4faf68c15892f1a31", func := "carrel/carrellaw10.ExtentGrows", spec := "extentGrows", unfollowed := true, recurses := true, apart := false }
def ExtentGrowsSaid : Prop := extentGrowsRow.holds Try.pinned (OpenSpec.ofChange extentGrowsSpec)

/-- ITS FALSE NEIGHBOUR: 'it returns false'. Refute it at one input. -/
def extentGrowsWrong : ChangeSpec := { name := "extentGrows", fn := fun _ => fun
  | [d1, d2, d3] => { results := [.lit (.bool false)], args := [d1, d2, d3] }
  | _ => none }
def ExtentGrowsWrongFalsely : Prop := extentGrowsRow.holds Try.pinned (OpenSpec.ofChange extentGrowsWrong)

/-- 'carrellaw10.ExtentTells': WHATEVER THE INPUT: true; the input reads as it did. -/
def extentTellsSpec : ChangeSpec := { name := "extentTells", fn := fun _ => fun
  | [d1, d2] => { results := [.lit (.bool true)], args := [d1, d2] }
  | _ => none }
def extentTellsRow : OpenClaim := { program := "ytckmfagokmpjpaa", sum := "e640e93891fe81a04f69143441f7a6a6dea2180de3b82fe4faf68c15892f1a31", func := "carrel/carrellaw10.ExtentTells", spec := "extentTells", unfollowed := true, recurses := true, apart := false }
def ExtentTellsSaid : Prop := extentTellsRow.holds Try.pinned (OpenSpec.ofChange extentTellsSpec)

/-- ITS FALSE NEIGHBOUR: 'it returns false'. Refute it at one input. -/
def extentTellsWrong : ChangeSpec := { name := "extentTells", fn := fun _ => fun
  | [d1, d2] => { results := [.lit (.bool false)], args := [d1, d2] }
  | _ => none }
def ExtentTellsWrongFalsely : Prop := extentTellsRow.holds Try.pinned (OpenSpec.ofChange extentTellsWrong)

/-- 'carrellaw10.ExtentShrinks': WHATEVER THE INPUT: true; the input reads as it did. -/
def extentShrinksSpec : ChangeSpec := { name := "extentShrinks", fn := fun _ => fun
  | [d1, d2, d3] => { results := [.lit (.bool true)], args := [d1, d2, d3] }
  | _ => none }
def extentShrinksRow : OpenClaim := { program := "ytckmfagokmpjpaa", sum := "e640e93891fe81a04f69143441f7a6a6dea2180de3b82fe4faf68c15892f1a31", func := "carrel/carrellaw10.ExtentShrinks", spec := "extentShrinks", unfollowed := true, recurses := true, apart := false }
def ExtentShrinksSaid : Prop := extentShrinksRow.holds Try.pinned (OpenSpec.ofChange extentShrinksSpec)

/-- ITS FALSE NEIGHBOUR: 'it returns false'. Refute it at one input. -/
def extentShrinksWrong : ChangeSpec := { name := "extentShrinks", fn := fun _ => fun
  | [d1, d2, d3] => { results := [.lit (.bool false)], args := [d1, d2, d3] }
  | _ => none }
def ExtentShrinksWrongFalsely : Prop := extentShrinksRow.holds Try.pinned (OpenSpec.ofChange extentShrinksWrong)

/-- 'carrellaw10.ExtentBack': WHATEVER THE INPUT: true; the input reads as it did. -/
def extentBackSpec : ChangeSpec := { name := "extentBack", fn := fun _ => fun
  | [d1, d2, d3] => { results := [.lit (.bool true)], args := [d1, d2, d3] }
  | _ => none }
def extentBackRow : OpenClaim := { program := "ytckmfagokmpjpaa", sum := "e640e93891fe81a04f69143441f7a6a6dea2180de3b82fe4faf68c15892f1a31", func := "carrel/carrellaw10.ExtentBack", spec := "extentBack", unfollowed := true, recurses := true, apart := false }
def ExtentBackSaid : Prop := extentBackRow.holds Try.pinned (OpenSpec.ofChange extentBackSpec)

/-- ITS FALSE NEIGHBOUR: 'it returns false'. Refute it at one input. -/
def extentBackWrong : ChangeSpec := { name := "extentBack", fn := fun _ => fun
  | [d1, d2, d3] => { results := [.lit (.bool false)], args := [d1, d2, d3] }
  | _ => none }
def ExtentBackWrongFalsely : Prop := extentBackRow.holds Try.pinned (OpenSpec.ofChange extentBackWrong)

/-- 'carrellaw11.InodeNames': WHATEVER THE INPUT: true; the input reads as it did. -/
def inodeNamesSpec : ChangeSpec := { name := "inodeNames", fn := fun _ => fun
  | [d1, d2] => { results := [.lit (.bool true)], args := [d1, d2] }
  | _ => none }
def inodeNamesRow : OpenClaim := { program := "ytckmfagokmpjpaa", sum := "e640e93891fe81a04f69143441f7a6a6dea2180de3b82fe4faf68c15892f1a31", func := "carrel/carrellaw11.InodeNames", spec := "inodeNames", unfollowed := true, recurses := true, apart := false }
def InodeNamesSaid : Prop := inodeNamesRow.holds Try.pinned (OpenSpec.ofChange inodeNamesSpec)

/-- ITS FALSE NEIGHBOUR: 'it returns false'. Refute it at one input. -/
def inodeNamesWrong : ChangeSpec := { name := "inodeNames", fn := fun _ => fun
  | [d1, d2] => { results := [.lit (.bool false)], args := [d1, d2] }
  | _ => none }
def InodeNamesWrongFalsely : Prop := inodeNamesRow.holds Try.pinned (OpenSpec.ofChange inodeNamesWrong)

/-- 'carrellaw11.InodeWrites': WHATEVER THE INPUT: true; the input reads as it did. -/
def inodeWritesSpec : ChangeSpec := { name := "inodeWrites", fn := fun _ => fun
  | [d] => { results := [.lit (.bool true)], args := [d] }
  | _ => none }
def inodeWritesRow : OpenClaim := { program := "ytckmfagokmpjpaa", sum := "e640e93891fe81a04f69143441f7a6a6dea2180de3b82fe4faf68c15892f1a31", func := "carrel/carrellaw11.InodeWrites", spec := "inodeWrites", unfollowed := true, recurses := true, apart := false }
def InodeWritesSaid : Prop := inodeWritesRow.holds Try.pinned (OpenSpec.ofChange inodeWritesSpec)

/-- ITS FALSE NEIGHBOUR: 'it returns false'. Refute it at one input. -/
def inodeWritesWrong : ChangeSpec := { name := "inodeWrites", fn := fun _ => fun
  | [d] => { results := [.lit (.bool false)], args := [d] }
  | _ => none }
def InodeWritesWrongFalsely : Prop := inodeWritesRow.holds Try.pinned (OpenSpec.ofChange inodeWritesWrong)

/-- 'carrellaw11.InodeReads': WHATEVER THE INPUT: true; the input reads as it did. -/
def inodeReadsSpec : ChangeSpec := { name := "inodeReads", fn := fun _ => fun
  | [d] => { results := [.lit (.bool true)], args := [d] }
  | _ => none }
def inodeReadsRow : OpenClaim := { program := "ytckmfagokmpjpaa", sum := "e640e93891fe81a04f69143441f7a6a6dea2180de3b82fe4faf68c15892f1a31", func := "carrel/carrellaw11.InodeReads", spec := "inodeReads", unfollowed := true, recurses := true, apart := false }
def InodeReadsSaid : Prop := inodeReadsRow.holds Try.pinned (OpenSpec.ofChange inodeReadsSpec)

/-- ITS FALSE NEIGHBOUR: 'it returns false'. Refute it at one input. -/
def inodeReadsWrong : ChangeSpec := { name := "inodeReads", fn := fun _ => fun
  | [d] => { results := [.lit (.bool false)], args := [d] }
  | _ => none }
def InodeReadsWrongFalsely : Prop := inodeReadsRow.holds Try.pinned (OpenSpec.ofChange inodeReadsWrong)

/-- 'carrellaw11.InodeBack': WHATEVER THE INPUT: true; the input reads as it did. -/
def inodeBackSpec : ChangeSpec := { name := "inodeBack", fn := fun _ => fun
  | [d1, d2] => { results := [.lit (.bool true)], args := [d1, d2] }
  | _ => none }
def inodeBackRow : OpenClaim := { program := "ytckmfagokmpjpaa", sum := "e640e93891fe81a04f69143441f7a6a6dea2180de3b82fe4faf68c15892f1a31", func := "carrel/carrellaw11.InodeBack", spec := "inodeBack", unfollowed := true, recurses := true, apart := false }
def InodeBackSaid : Prop := inodeBackRow.holds Try.pinned (OpenSpec.ofChange inodeBackSpec)

/-- ITS FALSE NEIGHBOUR: 'it returns false'. Refute it at one input. -/
def inodeBackWrong : ChangeSpec := { name := "inodeBack", fn := fun _ => fun
  | [d1, d2] => { results := [.lit (.bool false)], args := [d1, d2] }
  | _ => none }
def InodeBackWrongFalsely : Prop := inodeBackRow.holds Try.pinned (OpenSpec.ofChange inodeBackWrong)

/-- 'carrellaw09.MemApart': WHATEVER THE INPUT: true; the input reads as it did. -/
def memApartSpec : ChangeSpec := { name := "memApart", fn := fun _ => fun
  | [d1, d2, d3] => { results := [.lit (.bool true)], args := [d1, d2, d3] }
  | _ => none }
def memApartRow : OpenClaim := { program := "ytckmfagokmpjpaa", sum := "e640e93891fe81a04f69143441f7a6a6dea2180de3b82fe4faf68c15892f1a31", func := "carrel/carrellaw09.MemApart", spec := "memApart", unfollowed := true, recurses := true, apart := false }
def MemApartSaid : Prop := memApartRow.holds Try.pinned (OpenSpec.ofChange memApartSpec)

/-- ITS FALSE NEIGHBOUR: 'it returns false'. Refute it at one input. -/
def memApartWrong : ChangeSpec := { name := "memApart", fn := fun _ => fun
  | [d1, d2, d3] => { results := [.lit (.bool false)], args := [d1, d2, d3] }
  | _ => none }
def MemApartWrongFalsely : Prop := memApartRow.holds Try.pinned (OpenSpec.ofChange memApartWrong)

/-- 'carrellaw09.MemKeeps': WHATEVER THE INPUT: true; the input reads as it did. -/
def memKeepsSpec : ChangeSpec := { name := "memKeeps", fn := fun _ => fun
  | [d1, d2, d3] => { results := [.lit (.bool true)], args := [d1, d2, d3] }
  | _ => none }
def memKeepsRow : OpenClaim := { program := "ytckmfagokmpjpaa", sum := "e640e93891fe81a04f69143441f7a6a6dea2180de3b82fe4faf68c15892f1a31", func := "carrel/carrellaw09.MemKeeps", spec := "memKeeps", unfollowed := true, recurses := true, apart := false }
def MemKeepsSaid : Prop := memKeepsRow.holds Try.pinned (OpenSpec.ofChange memKeepsSpec)

/-- ITS FALSE NEIGHBOUR: 'it returns false'. Refute it at one input. -/
def memKeepsWrong : ChangeSpec := { name := "memKeeps", fn := fun _ => fun
  | [d1, d2, d3] => { results := [.lit (.bool false)], args := [d1, d2, d3] }
  | _ => none }
def MemKeepsWrongFalsely : Prop := memKeepsRow.holds Try.pinned (OpenSpec.ofChange memKeepsWrong)

/-- 'carrellaw12.FsFormats': WHATEVER THE INPUT: true; the input reads as it did. -/
def fsFormatsSpec : ChangeSpec := { name := "fsFormats", fn := fun _ => fun
  | [d] => { results := [.lit (.bool true)], args := [d] }
  | _ => none }
def fsFormatsRow : OpenClaim := { program := "ytckmfagokmpjpaa", sum := "e640e93891fe81a04f69143441f7a6a6dea2180de3b82fe4faf68c15892f1a31", func := "carrel/carrellaw12.FsFormats", spec := "fsFormats", unfollowed := true, recurses := true, apart := false }
def FsFormatsSaid : Prop := fsFormatsRow.holds Try.pinned (OpenSpec.ofChange fsFormatsSpec)

/-- ITS FALSE NEIGHBOUR: 'it returns false'. Refute it at one input. -/
def fsFormatsWrong : ChangeSpec := { name := "fsFormats", fn := fun _ => fun
  | [d] => { results := [.lit (.bool false)], args := [d] }
  | _ => none }
def FsFormatsWrongFalsely : Prop := fsFormatsRow.holds Try.pinned (OpenSpec.ofChange fsFormatsWrong)

/-- 'carrellaw12.FsMap': WHATEVER THE INPUT: true; the input reads as it did. -/
def fsMapSpec : ChangeSpec := { name := "fsMap", fn := fun _ => fun
  | [d] => { results := [.lit (.bool true)], args := [d] }
  | _ => none }
def fsMapRow : OpenClaim := { program := "ytckmfagokmpjpaa", sum := "e640e93891fe81a04f69143441f7a6a6dea2180de3b82fe4faf68c15892f1a31", func := "carrel/carrellaw12.FsMap", spec := "fsMap", unfollowed := true, recurses := true, apart := false }
def FsMapSaid : Prop := fsMapRow.holds Try.pinned (OpenSpec.ofChange fsMapSpec)

/-- ITS FALSE NEIGHBOUR: 'it returns false'. Refute it at one input. -/
def fsMapWrong : ChangeSpec := { name := "fsMap", fn := fun _ => fun
  | [d] => { results := [.lit (.bool false)], args := [d] }
  | _ => none }
def FsMapWrongFalsely : Prop := fsMapRow.holds Try.pinned (OpenSpec.ofChange fsMapWrong)

/-- 'carrellaw12.FsApart': WHATEVER THE INPUT: true; the input reads as it did. -/
def fsApartSpec : ChangeSpec := { name := "fsApart", fn := fun _ => fun
  | [d1, d2, d3, d4, d5] => { results := [.lit (.bool true)], args := [d1, d2, d3, d4, d5] }
  | _ => none }
def fsApartRow : OpenClaim := { program := "ytckmfagokmpjpaa", sum := "e640e93891fe81a04f69143441f7a6a6dea2180de3b82fe4faf68c15892f1a31", func := "carrel/carrellaw12.FsApart", spec := "fsApart", unfollowed := true, recurses := true, apart := false }
def FsApartSaid : Prop := fsApartRow.holds Try.pinned (OpenSpec.ofChange fsApartSpec)

/-- ITS FALSE NEIGHBOUR: 'it returns false'. Refute it at one input. -/
def fsApartWrong : ChangeSpec := { name := "fsApart", fn := fun _ => fun
  | [d1, d2, d3, d4, d5] => { results := [.lit (.bool false)], args := [d1, d2, d3, d4, d5] }
  | _ => none }
def FsApartWrongFalsely : Prop := fsApartRow.holds Try.pinned (OpenSpec.ofChange fsApartWrong)

/-- 'carrellaw09.MemActs': WHATEVER THE INPUT: true; the input reads as it did. -/
def memActsSpec : ChangeSpec := { name := "memActs", fn := fun _ => fun
  | [d1, d2] => { results := [.lit (.bool true)], args := [d1, d2] }
  | _ => none }
def memActsRow : OpenClaim := { program := "ytckmfagokmpjpaa", sum := "e640e93891fe81a04f69143441f7a6a6dea2180de3b82fe4faf68c15892f1a31", func := "carrel/carrellaw09.MemActs", spec := "memActs", unfollowed := true, recurses := true, apart := false }
def MemActsSaid : Prop := memActsRow.holds Try.pinned (OpenSpec.ofChange memActsSpec)

/-- ITS FALSE NEIGHBOUR: 'it returns false'. Refute it at one input. -/
def memActsWrong : ChangeSpec := { name := "memActs", fn := fun _ => fun
  | [d1, d2] => { results := [.lit (.bool false)], args := [d1, d2] }
  | _ => none }
def MemActsWrongFalsely : Prop := memActsRow.holds Try.pinned (OpenSpec.ofChange memActsWrong)

/-- 'carrellaw12.FsNone': WHATEVER THE INPUT: true; the input reads as it did. -/
def fsNoneSpec : ChangeSpec := { name := "fsNone", fn := fun _ => fun
  | [d] => { results := [.lit (.bool true)], args := [d] }
  | _ => none }
def fsNoneRow : OpenClaim := { program := "ytckmfagokmpjpaa", sum := "e640e93891fe81a04f69143441f7a6a6dea2180de3b82fe4faf68c15892f1a31", func := "carrel/carrellaw12.FsNone", spec := "fsNone", unfollowed := true, recurses := true, apart := false }
def FsNoneSaid : Prop := fsNoneRow.holds Try.pinned (OpenSpec.ofChange fsNoneSpec)

/-- ITS FALSE NEIGHBOUR: 'it returns false'. Refute it at one input. -/
def fsNoneWrong : ChangeSpec := { name := "fsNone", fn := fun _ => fun
  | [d] => { results := [.lit (.bool false)], args := [d] }
  | _ => none }
def FsNoneWrongFalsely : Prop := fsNoneRow.holds Try.pinned (OpenSpec.ofChange fsNoneWrong)

/-- 'carrellaw12.FsActs': WHATEVER THE INPUT: true; the input reads as it did. -/
def fsActsSpec : ChangeSpec := { name := "fsActs", fn := fun _ => fun
  | [d] => { results := [.lit (.bool true)], args := [d] }
  | _ => none }
def fsActsRow : OpenClaim := { program := "ytckmfagokmpjpaa", sum := "e640e93891fe81a04f69143441f7a6a6dea2180de3b82fe4faf68c15892f1a31", func := "carrel/carrellaw12.FsActs", spec := "fsActs", unfollowed := true, recurses := true, apart := false }
def FsActsSaid : Prop := fsActsRow.holds Try.pinned (OpenSpec.ofChange fsActsSpec)

/-- ITS FALSE NEIGHBOUR: 'it returns false'. Refute it at one input. -/
def fsActsWrong : ChangeSpec := { name := "fsActs", fn := fun _ => fun
  | [d] => { results := [.lit (.bool false)], args := [d] }
  | _ => none }
def FsActsWrongFalsely : Prop := fsActsRow.holds Try.pinned (OpenSpec.ofChange fsActsWrong)

/-- 'carrellaw12.FsRaw': WHATEVER THE INPUT: true; the input reads as it did. -/
def fsRawSpec : ChangeSpec := { name := "fsRaw", fn := fun _ => fun
  | [d1, d2] => { results := [.lit (.bool true)], args := [d1, d2] }
  | _ => none }
def fsRawRow : OpenClaim := { program := "ytckmfagokmpjpaa", sum := "e640e93891fe81a04f69143441f7a6a6dea2180de3b82fe4faf68c15892f1a31", func := "carrel/carrellaw12.FsRaw", spec := "fsRaw", unfollowed := true, recurses := true, apart := false }
def FsRawSaid : Prop := fsRawRow.holds Try.pinned (OpenSpec.ofChange fsRawSpec)

/-- ITS FALSE NEIGHBOUR: 'it returns false'. Refute it at one input. -/
def fsRawWrong : ChangeSpec := { name := "fsRaw", fn := fun _ => fun
  | [d1, d2] => { results := [.lit (.bool false)], args := [d1, d2] }
  | _ => none }
def FsRawWrongFalsely : Prop := fsRawRow.holds Try.pinned (OpenSpec.ofChange fsRawWrong)

/-- 'carrellaw09.MemNone': WHATEVER THE INPUT: true; the input reads as it did. -/
def memNoneSpec : ChangeSpec := { name := "memNone", fn := fun _ => fun
  | [d] => { results := [.lit (.bool true)], args := [d] }
  | _ => none }
def memNoneRow : OpenClaim := { program := "ytckmfagokmpjpaa", sum := "e640e93891fe81a04f69143441f7a6a6dea2180de3b82fe4faf68c15892f1a31", func := "carrel/carrellaw09.MemNone", spec := "memNone", unfollowed := true, recurses := true, apart := false }
def MemNoneSaid : Prop := memNoneRow.holds Try.pinned (OpenSpec.ofChange memNoneSpec)

/-- ITS FALSE NEIGHBOUR: 'it returns false'. Refute it at one input. -/
def memNoneWrong : ChangeSpec := { name := "memNone", fn := fun _ => fun
  | [d] => { results := [.lit (.bool false)], args := [d] }
  | _ => none }
def MemNoneWrongFalsely : Prop := memNoneRow.holds Try.pinned (OpenSpec.ofChange memNoneWrong)

/-- 'carrellaw13.HandleReads': WHATEVER THE INPUT: true; the input reads as it did. -/
def handleReadsSpec : ChangeSpec := { name := "handleReads", fn := fun _ => fun
  | [d1, d2] => { results := [.lit (.bool true)], args := [d1, d2] }
  | _ => none }
def handleReadsRow : OpenClaim := { program := "ytckmfagokmpjpaa", sum := "e640e93891fe81a04f69143441f7a6a6dea2180de3b82fe4faf68c15892f1a31", func := "carrel/carrellaw13.HandleReads", spec := "handleReads", unfollowed := true, recurses := true, apart := false }
def HandleReadsSaid : Prop := handleReadsRow.holds Try.pinned (OpenSpec.ofChange handleReadsSpec)

/-- ITS FALSE NEIGHBOUR: 'it returns false'. Refute it at one input. -/
def handleReadsWrong : ChangeSpec := { name := "handleReads", fn := fun _ => fun
  | [d1, d2] => { results := [.lit (.bool false)], args := [d1, d2] }
  | _ => none }
def HandleReadsWrongFalsely : Prop := handleReadsRow.holds Try.pinned (OpenSpec.ofChange handleReadsWrong)

/- THE SECOND FORM. 'bulk': how many values and letters a reading holds, each counted each time it is reached (what is shared counts as often as it is met; a slice's spare places count too). A statement '..UptoSaid' is the law's where the arguments, and the package variables that the reading takes, are together of bulk at most 1048576: NARROWER than '..Said'. Prove '..Said' where nothing that the law and all that it calls make is longer than what came in: it says more and counts as full. Else prove '..UptoSaid'. A law counts once. -/
mutual
def uptoBulk {H : Type} : DataW H → Nat
  | .lit (.string bytes) => bytes.length + 1
  | .lit _ => 1
  | .nil => 1
  | .ptr d => uptoBulk d + 1
  | .slice elems spare => uptoBulkAll elems + uptoBulkAll spare + 1
  | .agg parts => uptoBulkAll parts + 1
  | .iface _ d => uptoBulk d + 1
  | .map entries => uptoBulkEntries entries + 1
  | .held _ => 1
def uptoBulkAll {H : Type} : List (DataW H) → Nat
  | [] => 0
  | d :: r => uptoBulk d + uptoBulkAll r
def uptoBulkEntries {H : Type} : List (Lit × DataW H) → Nat
  | [] => 0
  | x :: r => uptoBulkEntry x + uptoBulkEntries r
def uptoBulkEntry {H : Type} : Lit × DataW H → Nat
  | (.string bytes, d) => bytes.length + uptoBulk d + 1
  | (_, d) => uptoBulk d + 1
 end
def uptoSmall : (H : Type) → List (DataW H) → Bool := fun _ ds => decide (uptoBulkAll ds ≤ 1048576)
def OpenSpec.upto (s : _root_.Go.ChangeSpec) : _root_.Go.OpenSpec := { _root_.Go.OpenSpec.ofChange s with cond := some uptoSmall }

/-- 'carrellaw10.ExtentChecks', WHERE WHAT IT READS IS OF BULK AT MOST 1048576: true; the input reads as it did. -/
def extentChecksUptoRow : OpenClaim := { program := "ytckmfagokmpjpaa", sum := "e640e93891fe81a04f69143441f7a6a6dea2180de3b82fe4faf68c15892f1a31", func := "carrel/carrellaw10.ExtentChecks", spec := "extentChecks", unfollowed := true, recurses := true, apart := false, narrowed := true }
def ExtentChecksUptoSaid : Prop := extentChecksUptoRow.holds Try.pinned (OpenSpec.upto extentChecksSpec)

/-- 'carrellaw10.ExtentGrows', WHERE WHAT IT READS IS OF BULK AT MOST 1048576: true; the input reads as it did. -/
def extentGrowsUptoRow : OpenClaim := { program := "ytckmfagokmpjpaa", sum := "e640e93891fe81a04f69143441f7a6a6dea2180de3b82fe4faf68c15892f1a31", func := "carrel/carrellaw10.ExtentGrows", spec := "extentGrows", unfollowed := true, recurses := true, apart := false, narrowed := true }
def ExtentGrowsUptoSaid : Prop := extentGrowsUptoRow.holds Try.pinned (OpenSpec.upto extentGrowsSpec)

/-- 'carrellaw10.ExtentTells', WHERE WHAT IT READS IS OF BULK AT MOST 1048576: true; the input reads as it did. -/
def extentTellsUptoRow : OpenClaim := { program := "ytckmfagokmpjpaa", sum := "e640e93891fe81a04f69143441f7a6a6dea2180de3b82fe4faf68c15892f1a31", func := "carrel/carrellaw10.ExtentTells", spec := "extentTells", unfollowed := true, recurses := true, apart := false, narrowed := true }
def ExtentTellsUptoSaid : Prop := extentTellsUptoRow.holds Try.pinned (OpenSpec.upto extentTellsSpec)

/-- 'carrellaw10.ExtentShrinks', WHERE WHAT IT READS IS OF BULK AT MOST 1048576: true; the input reads as it did. -/
def extentShrinksUptoRow : OpenClaim := { program := "ytckmfagokmpjpaa", sum := "e640e93891fe81a04f69143441f7a6a6dea2180de3b82fe4faf68c15892f1a31", func := "carrel/carrellaw10.ExtentShrinks", spec := "extentShrinks", unfollowed := true, recurses := true, apart := false, narrowed := true }
def ExtentShrinksUptoSaid : Prop := extentShrinksUptoRow.holds Try.pinned (OpenSpec.upto extentShrinksSpec)

/-- 'carrellaw10.ExtentBack', WHERE WHAT IT READS IS OF BULK AT MOST 1048576: true; the input reads as it did. -/
def extentBackUptoRow : OpenClaim := { program := "ytckmfagokmpjpaa", sum := "e640e93891fe81a04f69143441f7a6a6dea2180de3b82fe4faf68c15892f1a31", func := "carrel/carrellaw10.ExtentBack", spec := "extentBack", unfollowed := true, recurses := true, apart := false, narrowed := true }
def ExtentBackUptoSaid : Prop := extentBackUptoRow.holds Try.pinned (OpenSpec.upto extentBackSpec)

/-- 'carrellaw11.InodeNames', WHERE WHAT IT READS IS OF BULK AT MOST 1048576: true; the input reads as it did. -/
def inodeNamesUptoRow : OpenClaim := { program := "ytckmfagokmpjpaa", sum := "e640e93891fe81a04f69143441f7a6a6dea2180de3b82fe4faf68c15892f1a31", func := "carrel/carrellaw11.InodeNames", spec := "inodeNames", unfollowed := true, recurses := true, apart := false, narrowed := true }
def InodeNamesUptoSaid : Prop := inodeNamesUptoRow.holds Try.pinned (OpenSpec.upto inodeNamesSpec)

/-- 'carrellaw11.InodeWrites', WHERE WHAT IT READS IS OF BULK AT MOST 1048576: true; the input reads as it did. -/
def inodeWritesUptoRow : OpenClaim := { program := "ytckmfagokmpjpaa", sum := "e640e93891fe81a04f69143441f7a6a6dea2180de3b82fe4faf68c15892f1a31", func := "carrel/carrellaw11.InodeWrites", spec := "inodeWrites", unfollowed := true, recurses := true, apart := false, narrowed := true }
def InodeWritesUptoSaid : Prop := inodeWritesUptoRow.holds Try.pinned (OpenSpec.upto inodeWritesSpec)

/-- 'carrellaw11.InodeReads', WHERE WHAT IT READS IS OF BULK AT MOST 1048576: true; the input reads as it did. -/
def inodeReadsUptoRow : OpenClaim := { program := "ytckmfagokmpjpaa", sum := "e640e93891fe81a04f69143441f7a6a6dea2180de3b82fe4faf68c15892f1a31", func := "carrel/carrellaw11.InodeReads", spec := "inodeReads", unfollowed := true, recurses := true, apart := false, narrowed := true }
def InodeReadsUptoSaid : Prop := inodeReadsUptoRow.holds Try.pinned (OpenSpec.upto inodeReadsSpec)

/-- 'carrellaw11.InodeBack', WHERE WHAT IT READS IS OF BULK AT MOST 1048576: true; the input reads as it did. -/
def inodeBackUptoRow : OpenClaim := { program := "ytckmfagokmpjpaa", sum := "e640e93891fe81a04f69143441f7a6a6dea2180de3b82fe4faf68c15892f1a31", func := "carrel/carrellaw11.InodeBack", spec := "inodeBack", unfollowed := true, recurses := true, apart := false, narrowed := true }
def InodeBackUptoSaid : Prop := inodeBackUptoRow.holds Try.pinned (OpenSpec.upto inodeBackSpec)

/-- 'carrellaw09.MemApart', WHERE WHAT IT READS IS OF BULK AT MOST 1048576: true; the input reads as it did. -/
def memApartUptoRow : OpenClaim := { program := "ytckmfagokmpjpaa", sum := "e640e93891fe81a04f69143441f7a6a6dea2180de3b82fe4faf68c15892f1a31", func := "carrel/carrellaw09.MemApart", spec := "memApart", unfollowed := true, recurses := true, apart := false, narrowed := true }
def MemApartUptoSaid : Prop := memApartUptoRow.holds Try.pinned (OpenSpec.upto memApartSpec)

/-- 'carrellaw09.MemKeeps', WHERE WHAT IT READS IS OF BULK AT MOST 1048576: true; the input reads as it did. -/
def memKeepsUptoRow : OpenClaim := { program := "ytckmfagokmpjpaa", sum := "e640e93891fe81a04f69143441f7a6a6dea2180de3b82fe4faf68c15892f1a31", func := "carrel/carrellaw09.MemKeeps", spec := "memKeeps", unfollowed := true, recurses := true, apart := false, narrowed := true }
def MemKeepsUptoSaid : Prop := memKeepsUptoRow.holds Try.pinned (OpenSpec.upto memKeepsSpec)

/-- 'carrellaw12.FsFormats', WHERE WHAT IT READS IS OF BULK AT MOST 1048576: true; the input reads as it did. -/
def fsFormatsUptoRow : OpenClaim := { program := "ytckmfagokmpjpaa", sum := "e640e93891fe81a04f69143441f7a6a6dea2180de3b82fe4faf68c15892f1a31", func := "carrel/carrellaw12.FsFormats", spec := "fsFormats", unfollowed := true, recurses := true, apart := false, narrowed := true }
def FsFormatsUptoSaid : Prop := fsFormatsUptoRow.holds Try.pinned (OpenSpec.upto fsFormatsSpec)

/-- 'carrellaw12.FsMap', WHERE WHAT IT READS IS OF BULK AT MOST 1048576: true; the input reads as it did. -/
def fsMapUptoRow : OpenClaim := { program := "ytckmfagokmpjpaa", sum := "e640e93891fe81a04f69143441f7a6a6dea2180de3b82fe4faf68c15892f1a31", func := "carrel/carrellaw12.FsMap", spec := "fsMap", unfollowed := true, recurses := true, apart := false, narrowed := true }
def FsMapUptoSaid : Prop := fsMapUptoRow.holds Try.pinned (OpenSpec.upto fsMapSpec)

/-- 'carrellaw12.FsApart', WHERE WHAT IT READS IS OF BULK AT MOST 1048576: true; the input reads as it did. -/
def fsApartUptoRow : OpenClaim := { program := "ytckmfagokmpjpaa", sum := "e640e93891fe81a04f69143441f7a6a6dea2180de3b82fe4faf68c15892f1a31", func := "carrel/carrellaw12.FsApart", spec := "fsApart", unfollowed := true, recurses := true, apart := false, narrowed := true }
def FsApartUptoSaid : Prop := fsApartUptoRow.holds Try.pinned (OpenSpec.upto fsApartSpec)

/-- 'carrellaw09.MemActs', WHERE WHAT IT READS IS OF BULK AT MOST 1048576: true; the input reads as it did. -/
def memActsUptoRow : OpenClaim := { program := "ytckmfagokmpjpaa", sum := "e640e93891fe81a04f69143441f7a6a6dea2180de3b82fe4faf68c15892f1a31", func := "carrel/carrellaw09.MemActs", spec := "memActs", unfollowed := true, recurses := true, apart := false, narrowed := true }
def MemActsUptoSaid : Prop := memActsUptoRow.holds Try.pinned (OpenSpec.upto memActsSpec)

/-- 'carrellaw12.FsNone', WHERE WHAT IT READS IS OF BULK AT MOST 1048576: true; the input reads as it did. -/
def fsNoneUptoRow : OpenClaim := { program := "ytckmfagokmpjpaa", sum := "e640e93891fe81a04f69143441f7a6a6dea2180de3b82fe4faf68c15892f1a31", func := "carrel/carrellaw12.FsNone", spec := "fsNone", unfollowed := true, recurses := true, apart := false, narrowed := true }
def FsNoneUptoSaid : Prop := fsNoneUptoRow.holds Try.pinned (OpenSpec.upto fsNoneSpec)

/-- 'carrellaw12.FsActs', WHERE WHAT IT READS IS OF BULK AT MOST 1048576: true; the input reads as it did. -/
def fsActsUptoRow : OpenClaim := { program := "ytckmfagokmpjpaa", sum := "e640e93891fe81a04f69143441f7a6a6dea2180de3b82fe4faf68c15892f1a31", func := "carrel/carrellaw12.FsActs", spec := "fsActs", unfollowed := true, recurses := true, apart := false, narrowed := true }
def FsActsUptoSaid : Prop := fsActsUptoRow.holds Try.pinned (OpenSpec.upto fsActsSpec)

/-- 'carrellaw12.FsRaw', WHERE WHAT IT READS IS OF BULK AT MOST 1048576: true; the input reads as it did. -/
def fsRawUptoRow : OpenClaim := { program := "ytckmfagokmpjpaa", sum := "e640e93891fe81a04f69143441f7a6a6dea2180de3b82fe4faf68c15892f1a31", func := "carrel/carrellaw12.FsRaw", spec := "fsRaw", unfollowed := true, recurses := true, apart := false, narrowed := true }
def FsRawUptoSaid : Prop := fsRawUptoRow.holds Try.pinned (OpenSpec.upto fsRawSpec)

/-- 'carrellaw09.MemNone', WHERE WHAT IT READS IS OF BULK AT MOST 1048576: true; the input reads as it did. -/
def memNoneUptoRow : OpenClaim := { program := "ytckmfagokmpjpaa", sum := "e640e93891fe81a04f69143441f7a6a6dea2180de3b82fe4faf68c15892f1a31", func := "carrel/carrellaw09.MemNone", spec := "memNone", unfollowed := true, recurses := true, apart := false, narrowed := true }
def MemNoneUptoSaid : Prop := memNoneUptoRow.holds Try.pinned (OpenSpec.upto memNoneSpec)

/-- 'carrellaw13.HandleReads', WHERE WHAT IT READS IS OF BULK AT MOST 1048576: true; the input reads as it did. -/
def handleReadsUptoRow : OpenClaim := { program := "ytckmfagokmpjpaa", sum := "e640e93891fe81a04f69143441f7a6a6dea2180de3b82fe4faf68c15892f1a31", func := "carrel/carrellaw13.HandleReads", spec := "handleReads", unfollowed := true, recurses := true, apart := false, narrowed := true }
def HandleReadsUptoSaid : Prop := handleReadsUptoRow.holds Try.pinned (OpenSpec.upto handleReadsSpec)

end Rows
end Go.Proofs.Ytckmfagokmpjpaa
