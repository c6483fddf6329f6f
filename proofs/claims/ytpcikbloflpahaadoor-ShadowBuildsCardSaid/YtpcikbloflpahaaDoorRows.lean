/-
  NARROWER THAN 'FOR EVERY INPUT', by the rows' own cells (each row's printed sentence says how): ShadowMerges: laid · ShadowCosts: laid · ShadowSame: laid · ShadowBuilds: laid · ShadowOld: laid.
  DERIVED. THE GIVEN ROWS OF THIS SEAT. 5 by the template 'for every input the law returns true; each argument reads behind the call as it read before'; 0 by the template 'total and deterministic' (their statements: YtpcikbloflpahaaDoorTotals.lean).
  GIVEN WITH THE SEED: the statements are not yours to turn. If you find one false, say at which input.
  Laid BY PROGRAM, IN A SANDBOX (cutbox-rows.mjs): the forced cells as the released guide's own fill.sh prints them over the translation ab58c0f32246de74… (all of the seat's roots in one cut). By AI agents, Wed Nov 11 2026. No macro, syntax, notation, axiom, sorry.
-/
import Derived.Test.YtpcikbloflpahaaDoorChecked
import GoSem.Claim
import GoSem.ClaimJoined
import GoSem.ClaimMapViews
import Derived.JoinedTies
import Derived.KernelRfl
namespace Go.Proofs.YtpcikbloflpahaaDoor
/- THE CELL 'sum', in the pinned program and in every row, IS THE sha256 OF THE DUMP (.gsa) THAT YtpcikbloflpahaaDoorProg.lean LOADS. Nothing in Lean hashes anything: it is a label: what it is worth is what the hold of that sum in a sandbox is worth. -/
noncomputable def Tryd.pinned : Pinned := { name := "ytpcikbloflpahaadoor", sum := "ab58c0f32246de748d635d2201f1ca06b5a6a3fe5b146e3f44bc8c98eb2041eb", checked := Tryd.checked }
namespace Rows
def none {H : Type} : Left H := { results := [], args := [] }

/- WHAT THE LISTED PACKAGE-LEVEL VARIABLES READ AS WHEN THE CALL BEGINS. Each datum BY PROGRAM (the guide's laid-datum.mjs) off the statement by which the dump's own 'gosem.cut.vars' lays the variable. In a bare row this is a premise. The card (YtpcikbloflpahaaDoorCards.lean) ties it to the program's text. -/
def laid_math_bits_deBruijn64tab {H : Type} : DataW H := .agg [.lit (.int .u8 0), .lit (.int .u8 1), .lit (.int .u8 56), .lit (.int .u8 2), .lit (.int .u8 57), .lit (.int .u8 49), .lit (.int .u8 28), .lit (.int .u8 3), .lit (.int .u8 61), .lit (.int .u8 58), .lit (.int .u8 42), .lit (.int .u8 50), .lit (.int .u8 38), .lit (.int .u8 29), .lit (.int .u8 17), .lit (.int .u8 4), .lit (.int .u8 62), .lit (.int .u8 47), .lit (.int .u8 59), .lit (.int .u8 36), .lit (.int .u8 45), .lit (.int .u8 43), .lit (.int .u8 51), .lit (.int .u8 22), .lit (.int .u8 53), .lit (.int .u8 39), .lit (.int .u8 33), .lit (.int .u8 30), .lit (.int .u8 24), .lit (.int .u8 18), .lit (.int .u8 12), .lit (.int .u8 5), .lit (.int .u8 63), .lit (.int .u8 55), .lit (.int .u8 48), .lit (.int .u8 27), .lit (.int .u8 60), .lit (.int .u8 41), .lit (.int .u8 37), .lit (.int .u8 16), .lit (.int .u8 46), .lit (.int .u8 35), .lit (.int .u8 44), .lit (.int .u8 21), .lit (.int .u8 52), .lit (.int .u8 32), .lit (.int .u8 23), .lit (.int .u8 11), .lit (.int .u8 54), .lit (.int .u8 26), .lit (.int .u8 40), .lit (.int .u8 15), .lit (.int .u8 34), .lit (.int .u8 20), .lit (.int .u8 31), .lit (.int .u8 10), .lit (.int .u8 25), .lit (.int .u8 14), .lit (.int .u8 19), .lit (.int .u8 9), .lit (.int .u8 13), .lit (.int .u8 8), .lit (.int .u8 7), .lit (.int .u8 6)]

/-- 'carrellaw07.ShadowMerges': WHATEVER THE INPUT: true; the input reads as it did. -/
def shadowMergesSpec : ChangeSpec := { name := "shadowMerges", fn := fun _ => fun
  | [d] => { results := [.lit (.bool true)], args := [d] }
  | _ => none }
def shadowMergesRow : OpenClaim := { program := "ytpcikbloflpahaadoor", sum := "ab58c0f32246de748d635d2201f1ca06b5a6a3fe5b146e3f44bc8c98eb2041eb", func := "carrel/carrellaw07.ShadowMerges", spec := "shadowMerges", unfollowed := true, recurses := true, named := ["math/bits.deBruijn64tab"], apart := false, laid := [("math/bits.deBruijn64tab", laid_math_bits_deBruijn64tab)] }
def ShadowMergesSaid : Prop := shadowMergesRow.holds Tryd.pinned (OpenSpec.ofChange shadowMergesSpec)

/-- ITS FALSE NEIGHBOUR: 'it returns false'. Refute it at one input. -/
def shadowMergesWrong : ChangeSpec := { name := "shadowMerges", fn := fun _ => fun
  | [d] => { results := [.lit (.bool false)], args := [d] }
  | _ => none }
def ShadowMergesWrongFalsely : Prop := shadowMergesRow.holds Tryd.pinned (OpenSpec.ofChange shadowMergesWrong)

/-- 'carrellaw07.ShadowCosts': WHATEVER THE INPUT: true; the input reads as it did. -/
def shadowCostsSpec : ChangeSpec := { name := "shadowCosts", fn := fun _ => fun
  | [d1, d2, d3] => { results := [.lit (.bool true)], args := [d1, d2, d3] }
  | _ => none }
def shadowCostsRow : OpenClaim := { program := "ytpcikbloflpahaadoor", sum := "ab58c0f32246de748d635d2201f1ca06b5a6a3fe5b146e3f44bc8c98eb2041eb", func := "carrel/carrellaw07.ShadowCosts", spec := "shadowCosts", unfollowed := true, recurses := true, named := ["math/bits.deBruijn64tab"], apart := false, laid := [("math/bits.deBruijn64tab", laid_math_bits_deBruijn64tab)] }
def ShadowCostsSaid : Prop := shadowCostsRow.holds Tryd.pinned (OpenSpec.ofChange shadowCostsSpec)

/-- ITS FALSE NEIGHBOUR: 'it returns false'. Refute it at one input. -/
def shadowCostsWrong : ChangeSpec := { name := "shadowCosts", fn := fun _ => fun
  | [d1, d2, d3] => { results := [.lit (.bool false)], args := [d1, d2, d3] }
  | _ => none }
def ShadowCostsWrongFalsely : Prop := shadowCostsRow.holds Tryd.pinned (OpenSpec.ofChange shadowCostsWrong)

/-- 'carrellaw07.ShadowSame': WHATEVER THE INPUT: true; the input reads as it did. -/
def shadowSameSpec : ChangeSpec := { name := "shadowSame", fn := fun _ => fun
  | [d1, d2, d3] => { results := [.lit (.bool true)], args := [d1, d2, d3] }
  | _ => none }
def shadowSameRow : OpenClaim := { program := "ytpcikbloflpahaadoor", sum := "ab58c0f32246de748d635d2201f1ca06b5a6a3fe5b146e3f44bc8c98eb2041eb", func := "carrel/carrellaw07.ShadowSame", spec := "shadowSame", unfollowed := true, recurses := true, named := ["math/bits.deBruijn64tab"], apart := false, laid := [("math/bits.deBruijn64tab", laid_math_bits_deBruijn64tab)] }
def ShadowSameSaid : Prop := shadowSameRow.holds Tryd.pinned (OpenSpec.ofChange shadowSameSpec)

/-- ITS FALSE NEIGHBOUR: 'it returns false'. Refute it at one input. -/
def shadowSameWrong : ChangeSpec := { name := "shadowSame", fn := fun _ => fun
  | [d1, d2, d3] => { results := [.lit (.bool false)], args := [d1, d2, d3] }
  | _ => none }
def ShadowSameWrongFalsely : Prop := shadowSameRow.holds Tryd.pinned (OpenSpec.ofChange shadowSameWrong)

/-- 'carrellaw07.ShadowBuilds': WHATEVER THE INPUT: true; the input reads as it did. -/
def shadowBuildsSpec : ChangeSpec := { name := "shadowBuilds", fn := fun _ => fun
  | [d1, d2, d3, d4] => { results := [.lit (.bool true)], args := [d1, d2, d3, d4] }
  | _ => none }
def shadowBuildsRow : OpenClaim := { program := "ytpcikbloflpahaadoor", sum := "ab58c0f32246de748d635d2201f1ca06b5a6a3fe5b146e3f44bc8c98eb2041eb", func := "carrel/carrellaw07.ShadowBuilds", spec := "shadowBuilds", unfollowed := true, recurses := true, named := ["math/bits.deBruijn64tab"], apart := false, laid := [("math/bits.deBruijn64tab", laid_math_bits_deBruijn64tab)] }
def ShadowBuildsSaid : Prop := shadowBuildsRow.holds Tryd.pinned (OpenSpec.ofChange shadowBuildsSpec)

/-- ITS FALSE NEIGHBOUR: 'it returns false'. Refute it at one input. -/
def shadowBuildsWrong : ChangeSpec := { name := "shadowBuilds", fn := fun _ => fun
  | [d1, d2, d3, d4] => { results := [.lit (.bool false)], args := [d1, d2, d3, d4] }
  | _ => none }
def ShadowBuildsWrongFalsely : Prop := shadowBuildsRow.holds Tryd.pinned (OpenSpec.ofChange shadowBuildsWrong)

/-- 'carrellaw07.ShadowOld': WHATEVER THE INPUT: true; the input reads as it did. -/
def shadowOldSpec : ChangeSpec := { name := "shadowOld", fn := fun _ => fun
  | [d1, d2, d3, d4] => { results := [.lit (.bool true)], args := [d1, d2, d3, d4] }
  | _ => none }
def shadowOldRow : OpenClaim := { program := "ytpcikbloflpahaadoor", sum := "ab58c0f32246de748d635d2201f1ca06b5a6a3fe5b146e3f44bc8c98eb2041eb", func := "carrel/carrellaw07.ShadowOld", spec := "shadowOld", unfollowed := true, recurses := true, named := ["math/bits.deBruijn64tab"], apart := false, laid := [("math/bits.deBruijn64tab", laid_math_bits_deBruijn64tab)] }
def ShadowOldSaid : Prop := shadowOldRow.holds Tryd.pinned (OpenSpec.ofChange shadowOldSpec)

/-- ITS FALSE NEIGHBOUR: 'it returns false'. Refute it at one input. -/
def shadowOldWrong : ChangeSpec := { name := "shadowOld", fn := fun _ => fun
  | [d1, d2, d3, d4] => { results := [.lit (.bool false)], args := [d1, d2, d3, d4] }
  | _ => none }
def ShadowOldWrongFalsely : Prop := shadowOldRow.holds Tryd.pinned (OpenSpec.ofChange shadowOldWrong)

/- THE SECOND FORM. 'bulk': how many values and letters a reading holds, each counted each time it is reached (what is shared counts as often as it is met; a slice's spare places count too). A statement '..UptoSaid' is the law's where the arguments, and the package variables that the reading takes, are together of bulk at most 1048576: NARROWER than '..Said'. Prove '..Said' where nothing that the law and all that it calls make is longer than what came in: it says more and counts as full. Else prove '..UptoSaid'. A law counts once. -/
mutual
def uptoBulk {H : Type} : DataW H → Nat
  | .lit (.string bytes) => bytes.length + 1
  | .lit _ => 1
  | .nil => 1
  | .ptr d => uptoBulk d + 1
  | .slice elems spare => uptoBulkAll elems + uptoBulkAll spare + 1
  | .agg parts => uptoBulkAll parts + 1
  | .iface _ d => uptoBulk d + 1
  | .map entries => uptoBulkEntries entries + 1
  | .held _ => 1
def uptoBulkAll {H : Type} : List (DataW H) → Nat
  | [] => 0
  | d :: r => uptoBulk d + uptoBulkAll r
def uptoBulkEntries {H : Type} : List (Lit × DataW H) → Nat
  | [] => 0
  | x :: r => uptoBulkEntry x + uptoBulkEntries r
def uptoBulkEntry {H : Type} : Lit × DataW H → Nat
  | (.string bytes, d) => bytes.length + uptoBulk d + 1
  | (_, d) => uptoBulk d + 1
 end
def uptoSmall : (H : Type) → List (DataW H) → Bool := fun _ ds => decide (uptoBulkAll ds ≤ 1048576)
def OpenSpec.upto (s : _root_.Go.ChangeSpec) : _root_.Go.OpenSpec := { _root_.Go.OpenSpec.ofChange s with cond := some uptoSmall }

/-- 'carrellaw07.ShadowMerges', WHERE WHAT IT READS IS OF BULK AT MOST 1048576: true; the input reads as it did. -/
def shadowMergesUptoRow : OpenClaim := { program := "ytpcikbloflpahaadoor", sum := "ab58c0f32246de748d635d2201f1ca06b5a6a3fe5b146e3f44bc8c98eb2041eb", func := "carrel/carrellaw07.ShadowMerges", spec := "shadowMerges", unfollowed := true, recurses := true, named := ["math/bits.deBruijn64tab"], apart := false, laid := [("math/bits.deBruijn64tab", laid_math_bits_deBruijn64tab)], narrowed := true }
def ShadowMergesUptoSaid : Prop := shadowMergesUptoRow.holds Tryd.pinned (OpenSpec.upto shadowMergesSpec)

/-- 'carrellaw07.ShadowCosts', WHERE WHAT IT READS IS OF BULK AT MOST 1048576: true; the input reads as it did. -/
def shadowCostsUptoRow : OpenClaim := { program := "ytpcikbloflpahaadoor", sum := "ab58c0f32246de748d635d2201f1ca06b5a6a3fe5b146e3f44bc8c98eb2041eb", func := "carrel/carrellaw07.ShadowCosts", spec := "shadowCosts", unfollowed := true, recurses := true, named := ["math/bits.deBruijn64tab"], apart := false, laid := [("math/bits.deBruijn64tab", laid_math_bits_deBruijn64tab)], narrowed := true }
def ShadowCostsUptoSaid : Prop := shadowCostsUptoRow.holds Tryd.pinned (OpenSpec.upto shadowCostsSpec)

/-- 'carrellaw07.ShadowSame', WHERE WHAT IT READS IS OF BULK AT MOST 1048576: true; the input reads as it did. -/
def shadowSameUptoRow : OpenClaim := { program := "ytpcikbloflpahaadoor", sum := "ab58c0f32246de748d635d2201f1ca06b5a6a3fe5b146e3f44bc8c98eb2041eb", func := "carrel/carrellaw07.ShadowSame", spec := "shadowSame", unfollowed := true, recurses := true, named := ["math/bits.deBruijn64tab"], apart := false, laid := [("math/bits.deBruijn64tab", laid_math_bits_deBruijn64tab)], narrowed := true }
def ShadowSameUptoSaid : Prop := shadowSameUptoRow.holds Tryd.pinned (OpenSpec.upto shadowSameSpec)

/-- 'carrellaw07.ShadowBuilds', WHERE WHAT IT READS IS OF BULK AT MOST 1048576: true; the input reads as it did. -/
def shadowBuildsUptoRow : OpenClaim := { program := "ytpcikbloflpahaadoor", sum := "ab58c0f32246de748d635d2201f1ca06b5a6a3fe5b146e3f44bc8c98eb2041eb", func := "carrel/carrellaw07.ShadowBuilds", spec := "shadowBuilds", unfollowed := true, recurses := true, named := ["math/bits.deBruijn64tab"], apart := false, laid := [("math/bits.deBruijn64tab", laid_math_bits_deBruijn64tab)], narrowed := true }
def ShadowBuildsUptoSaid : Prop := shadowBuildsUptoRow.holds Tryd.pinned (OpenSpec.upto shadowBuildsSpec)

/-- 'carrellaw07.ShadowOld', WHERE WHAT IT READS IS OF BULK AT MOST 1048576: true; the input reads as it did. -/
def shadowOldUptoRow : OpenClaim := { program := "ytpcikbloflpahaadoor", sum := "ab58c0f32246de748d635d2201f1ca06b5a6a3fe5b146e3f44bc8c98eb2041eb", func := "carrel/carrellaw07.ShadowOld", spec := "shadowOld", unfollowed := true, recurses := true, named := ["math/bits.deBruijn64tab"], apart := false, laid := [("math/bits.deBruijn64tab", laid_math_bits_deBruijn64tab)], narrowed := true }
def ShadowOldUptoSaid : Prop := shadowOldUptoRow.holds Tryd.pinned (OpenSpec.upto shadowOldSpec)

end Rows
end Go.Proofs.YtpcikbloflpahaaDoor
