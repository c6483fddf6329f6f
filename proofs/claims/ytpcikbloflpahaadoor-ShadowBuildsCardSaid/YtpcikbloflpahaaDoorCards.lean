/-
  DERIVED. GIVEN WITH THE SEED: THE CARDS: each row of YtpcikbloflpahaaDoorRows.lean that lists a variable, with what it lists TIED to the program's text (the seventh form; the later family's looks); each row that meets fmt, with fmt's text TOLD by the authors' own Lean function (tested against real Go, not proved from fmt's source: count such statements apart). THE CARD IS WHAT COUNTS. Prove the row's statement (the work); the ties are given (YtpcikbloflpahaaDoorTie.lean); close each card by the builder's one call (the guide's Derived/Test/ToyasCard.lean, 'card_holds'). Laid BY PROGRAM, IN A SANDBOX (cutbox-door.mjs). By AI agents, Wed Nov 11 2026. No macro, syntax, notation, axiom, sorry.
-/
import Derived.Test.YtpcikbloflpahaaDoorRows
import GoSem.ClaimSeven
namespace Go.Proofs.YtpcikbloflpahaaDoor
namespace Rows

/-- THE TIED CARD OF 'carrellaw07.ShadowMerges'. -/
def shadowMergesCard : Claim7 := { stood := { row := shadowMergesRow, standIns := [], harness := (true, "5adabe140d31879f03bfd9040b2433f705bce8e7ea3923aebf45edf8c6d820e6"), looks := true }, kinds := [], alts := [], laidByText := true, laidKinds := [.data], laidTests := true, laidLooks := .later }
def ShadowMergesCardSaid : Prop := Claim7.holds Tryd.pinned (.plain (OpenSpec.ofChange shadowMergesSpec)) shadowMergesCard

/-- THE TIED CARD OF 'carrellaw07.ShadowCosts'. -/
def shadowCostsCard : Claim7 := { stood := { row := shadowCostsRow, standIns := [], harness := (true, "5adabe140d31879f03bfd9040b2433f705bce8e7ea3923aebf45edf8c6d820e6"), looks := true }, kinds := [], alts := [], laidByText := true, laidKinds := [.data], laidTests := true, laidLooks := .later }
def ShadowCostsCardSaid : Prop := Claim7.holds Tryd.pinned (.plain (OpenSpec.ofChange shadowCostsSpec)) shadowCostsCard

/-- THE TIED CARD OF 'carrellaw07.ShadowSame'. -/
def shadowSameCard : Claim7 := { stood := { row := shadowSameRow, standIns := [], harness := (true, "5adabe140d31879f03bfd9040b2433f705bce8e7ea3923aebf45edf8c6d820e6"), looks := true }, kinds := [], alts := [], laidByText := true, laidKinds := [.data], laidTests := true, laidLooks := .later }
def ShadowSameCardSaid : Prop := Claim7.holds Tryd.pinned (.plain (OpenSpec.ofChange shadowSameSpec)) shadowSameCard

/-- THE TIED CARD OF 'carrellaw07.ShadowBuilds'. -/
def shadowBuildsCard : Claim7 := { stood := { row := shadowBuildsRow, standIns := [], harness := (true, "5adabe140d31879f03bfd9040b2433f705bce8e7ea3923aebf45edf8c6d820e6"), looks := true }, kinds := [], alts := [], laidByText := true, laidKinds := [.data], laidTests := true, laidLooks := .later }
def ShadowBuildsCardSaid : Prop := Claim7.holds Tryd.pinned (.plain (OpenSpec.ofChange shadowBuildsSpec)) shadowBuildsCard

/-- THE TIED CARD OF 'carrellaw07.ShadowOld'. -/
def shadowOldCard : Claim7 := { stood := { row := shadowOldRow, standIns := [], harness := (true, "5adabe140d31879f03bfd9040b2433f705bce8e7ea3923aebf45edf8c6d820e6"), looks := true }, kinds := [], alts := [], laidByText := true, laidKinds := [.data], laidTests := true, laidLooks := .later }
def ShadowOldCardSaid : Prop := Claim7.holds Tryd.pinned (.plain (OpenSpec.ofChange shadowOldSpec)) shadowOldCard

/-- THE SECOND FORM's CARD OF 'carrellaw07.ShadowMerges'. -/
def shadowMergesUptoCard : Claim7 := { stood := { row := shadowMergesUptoRow, standIns := [], harness := (true, "5adabe140d31879f03bfd9040b2433f705bce8e7ea3923aebf45edf8c6d820e6"), looks := true }, kinds := [], alts := [], laidByText := true, laidKinds := [.data], laidTests := true, laidLooks := .later }
def ShadowMergesUptoCardSaid : Prop := Claim7.holds Tryd.pinned (.plain (OpenSpec.upto shadowMergesSpec)) shadowMergesUptoCard

/-- THE SECOND FORM's CARD OF 'carrellaw07.ShadowCosts'. -/
def shadowCostsUptoCard : Claim7 := { stood := { row := shadowCostsUptoRow, standIns := [], harness := (true, "5adabe140d31879f03bfd9040b2433f705bce8e7ea3923aebf45edf8c6d820e6"), looks := true }, kinds := [], alts := [], laidByText := true, laidKinds := [.data], laidTests := true, laidLooks := .later }
def ShadowCostsUptoCardSaid : Prop := Claim7.holds Tryd.pinned (.plain (OpenSpec.upto shadowCostsSpec)) shadowCostsUptoCard

/-- THE SECOND FORM's CARD OF 'carrellaw07.ShadowSame'. -/
def shadowSameUptoCard : Claim7 := { stood := { row := shadowSameUptoRow, standIns := [], harness := (true, "5adabe140d31879f03bfd9040b2433f705bce8e7ea3923aebf45edf8c6d820e6"), looks := true }, kinds := [], alts := [], laidByText := true, laidKinds := [.data], laidTests := true, laidLooks := .later }
def ShadowSameUptoCardSaid : Prop := Claim7.holds Tryd.pinned (.plain (OpenSpec.upto shadowSameSpec)) shadowSameUptoCard

/-- THE SECOND FORM's CARD OF 'carrellaw07.ShadowBuilds'. -/
def shadowBuildsUptoCard : Claim7 := { stood := { row := shadowBuildsUptoRow, standIns := [], harness := (true, "5adabe140d31879f03bfd9040b2433f705bce8e7ea3923aebf45edf8c6d820e6"), looks := true }, kinds := [], alts := [], laidByText := true, laidKinds := [.data], laidTests := true, laidLooks := .later }
def ShadowBuildsUptoCardSaid : Prop := Claim7.holds Tryd.pinned (.plain (OpenSpec.upto shadowBuildsSpec)) shadowBuildsUptoCard

/-- THE SECOND FORM's CARD OF 'carrellaw07.ShadowOld'. -/
def shadowOldUptoCard : Claim7 := { stood := { row := shadowOldUptoRow, standIns := [], harness := (true, "5adabe140d31879f03bfd9040b2433f705bce8e7ea3923aebf45edf8c6d820e6"), looks := true }, kinds := [], alts := [], laidByText := true, laidKinds := [.data], laidTests := true, laidLooks := .later }
def ShadowOldUptoCardSaid : Prop := Claim7.holds Tryd.pinned (.plain (OpenSpec.upto shadowOldSpec)) shadowOldUptoCard
end Rows
end Go.Proofs.YtpcikbloflpahaaDoor
