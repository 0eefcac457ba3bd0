/-
  DERIVED. GIVEN WITH THE SEED: THE CARDS: each row of YtfiahgahphammaaDoorRows.lean that lists a variable, with what it lists TIED to the program's text (the seventh form; the later family's looks); each row that meets fmt, with fmt's text TOLD by the authors' own Lean function (tested against real Go, not proved from fmt's source: count such statements apart). THE CARD IS WHAT COUNTS. Prove the row's statement (the work); the ties are given (YtfiahgahphammaaDoorTie.lean); close each card by the builder's one call (the guide's Derived/Test/ToyasCard.lean, 'card_holds'). Laid BY PROGRAM, IN A SANDBOX (cutbox-door.mjs). By AI agents, Wed Nov 11 2026. No macro, syntax, notation, axiom, sorry.
-/
import Derived.Test.YtfiahgahphammaaDoorRows
import GoSem.ClaimSeven
namespace Go.Proofs.YtfiahgahphammaaDoor
namespace Rows

/-- THE TIED CARD OF 'caesuralaw2.UnitsEncodes'. -/
def unitsEncodesCard : Claim7 := { stood := { row := unitsEncodesRow, standIns := [], harness := (true, "f01bda4dc3d04715de7645e799e855ac712c6c44f2a388b7a3744db408240963"), looks := true }, kinds := [], alts := [], laidByText := true, laidKinds := [.sentinel, .sentinel, .sentinel, .sentinel, .sentinel, .sentinel, .sentinel, .sentinel, .sentinel, .sentinel, .sentinel], laidTests := true, laidLooks := .later }
def UnitsEncodesCardSaid : Prop := Claim7.holds Tryd.pinned (.plain (OpenSpec.ofChange unitsEncodesSpec)) unitsEncodesCard

/-- THE TIED CARD OF 'caesuralaw2.UnitsCuts'. -/
def unitsCutsCard : Claim7 := { stood := { row := unitsCutsRow, standIns := [], harness := (true, "f01bda4dc3d04715de7645e799e855ac712c6c44f2a388b7a3744db408240963"), looks := true }, kinds := [], alts := [], laidByText := true, laidKinds := [.data], laidTests := true, laidLooks := .later }
def UnitsCutsCardSaid : Prop := Claim7.holds Tryd.pinned (.plain (OpenSpec.ofChange unitsCutsSpec)) unitsCutsCard

/-- THE TIED CARD OF 'caesuralaw2.UnitsSplits'. -/
def unitsSplitsCard : Claim7 := { stood := { row := unitsSplitsRow, standIns := [], harness := (true, "f01bda4dc3d04715de7645e799e855ac712c6c44f2a388b7a3744db408240963"), looks := true }, kinds := [], alts := [], laidByText := true, laidKinds := [.data], laidTests := true, laidLooks := .later }
def UnitsSplitsCardSaid : Prop := Claim7.holds Tryd.pinned (.plain (OpenSpec.ofChange unitsSplitsSpec)) unitsSplitsCard

/-- THE TIED CARD OF 'caesuralaw2.UnitsMemory'. -/
def unitsMemoryCard : Claim7 := { stood := { row := unitsMemoryRow, standIns := [], harness := (true, "f01bda4dc3d04715de7645e799e855ac712c6c44f2a388b7a3744db408240963"), looks := true }, kinds := [], alts := [], laidByText := true, laidKinds := [.data], laidTests := true, laidLooks := .later }
def UnitsMemoryCardSaid : Prop := Claim7.holds Tryd.pinned (.plain (OpenSpec.ofChange unitsMemorySpec)) unitsMemoryCard

/-- THE TIED CARD OF 'caesuralaw2.UnitsSteps'. -/
def unitsStepsCard : Claim7 := { stood := { row := unitsStepsRow, standIns := [], harness := (true, "f01bda4dc3d04715de7645e799e855ac712c6c44f2a388b7a3744db408240963"), looks := true }, kinds := [], alts := [], laidByText := true, laidKinds := [.data], laidTests := true, laidLooks := .later }
def UnitsStepsCardSaid : Prop := Claim7.holds Tryd.pinned (.plain (OpenSpec.ofChange unitsStepsSpec)) unitsStepsCard

/-- THE TIED CARD OF 'caesuralaw2.UnitsPieces'. -/
def unitsPiecesCard : Claim7 := { stood := { row := unitsPiecesRow, standIns := [], harness := (true, "f01bda4dc3d04715de7645e799e855ac712c6c44f2a388b7a3744db408240963"), looks := true }, kinds := [], alts := [], laidByText := true, laidKinds := [.data], laidTests := true, laidLooks := .later }
def UnitsPiecesCardSaid : Prop := Claim7.holds Tryd.pinned (.plain (OpenSpec.ofChange unitsPiecesSpec)) unitsPiecesCard

/-- THE TIED CARD OF 'caesuralaw2.UnitsHeld'. -/
def unitsHeldCard : Claim7 := { stood := { row := unitsHeldRow, standIns := [], harness := (true, "f01bda4dc3d04715de7645e799e855ac712c6c44f2a388b7a3744db408240963"), looks := true }, kinds := [], alts := [], laidByText := true, laidKinds := [.data], laidTests := true, laidLooks := .later }
def UnitsHeldCardSaid : Prop := Claim7.holds Tryd.pinned (.plain (OpenSpec.ofChange unitsHeldSpec)) unitsHeldCard

/-- THE TIED CARD OF 'caesuralaw2.UnitsBack'. -/
def unitsBackCard : Claim7 := { stood := { row := unitsBackRow, standIns := [], harness := (true, "f01bda4dc3d04715de7645e799e855ac712c6c44f2a388b7a3744db408240963"), looks := true }, kinds := [], alts := [], laidByText := true, laidKinds := [.sentinel, .data], laidTests := true, laidLooks := .later }
def UnitsBackCardSaid : Prop := Claim7.holds Tryd.pinned (.plain (OpenSpec.ofChange unitsBackSpec)) unitsBackCard

/-- THE TIED CARD OF 'caesuralaw2.UnitsCover'. -/
def unitsCoverCard : Claim7 := { stood := { row := unitsCoverRow, standIns := [], harness := (true, "f01bda4dc3d04715de7645e799e855ac712c6c44f2a388b7a3744db408240963"), looks := true }, kinds := [], alts := [], laidByText := true, laidKinds := [.sentinel, .data], laidTests := true, laidLooks := .later }
def UnitsCoverCardSaid : Prop := Claim7.holds Tryd.pinned (.plain (OpenSpec.ofChange unitsCoverSpec)) unitsCoverCard

/-- THE SECOND FORM's CARD OF 'caesuralaw2.UnitsEncodes'. -/
def unitsEncodesUptoCard : Claim7 := { stood := { row := unitsEncodesUptoRow, standIns := [], harness := (true, "f01bda4dc3d04715de7645e799e855ac712c6c44f2a388b7a3744db408240963"), looks := true }, kinds := [], alts := [], laidByText := true, laidKinds := [.sentinel, .sentinel, .sentinel, .sentinel, .sentinel, .sentinel, .sentinel, .sentinel, .sentinel, .sentinel, .sentinel], laidTests := true, laidLooks := .later }
def UnitsEncodesUptoCardSaid : Prop := Claim7.holds Tryd.pinned (.plain (OpenSpec.upto unitsEncodesSpec)) unitsEncodesUptoCard

/-- THE SECOND FORM's CARD OF 'caesuralaw2.UnitsCuts'. -/
def unitsCutsUptoCard : Claim7 := { stood := { row := unitsCutsUptoRow, standIns := [], harness := (true, "f01bda4dc3d04715de7645e799e855ac712c6c44f2a388b7a3744db408240963"), looks := true }, kinds := [], alts := [], laidByText := true, laidKinds := [.data], laidTests := true, laidLooks := .later }
def UnitsCutsUptoCardSaid : Prop := Claim7.holds Tryd.pinned (.plain (OpenSpec.upto unitsCutsSpec)) unitsCutsUptoCard

/-- THE SECOND FORM's CARD OF 'caesuralaw2.UnitsSplits'. -/
def unitsSplitsUptoCard : Claim7 := { stood := { row := unitsSplitsUptoRow, standIns := [], harness := (true, "f01bda4dc3d04715de7645e799e855ac712c6c44f2a388b7a3744db408240963"), looks := true }, kinds := [], alts := [], laidByText := true, laidKinds := [.data], laidTests := true, laidLooks := .later }
def UnitsSplitsUptoCardSaid : Prop := Claim7.holds Tryd.pinned (.plain (OpenSpec.upto unitsSplitsSpec)) unitsSplitsUptoCard

/-- THE SECOND FORM's CARD OF 'caesuralaw2.UnitsMemory'. -/
def unitsMemoryUptoCard : Claim7 := { stood := { row := unitsMemoryUptoRow, standIns := [], harness := (true, "f01bda4dc3d04715de7645e799e855ac712c6c44f2a388b7a3744db408240963"), looks := true }, kinds := [], alts := [], laidByText := true, laidKinds := [.data], laidTests := true, laidLooks := .later }
def UnitsMemoryUptoCardSaid : Prop := Claim7.holds Tryd.pinned (.plain (OpenSpec.upto unitsMemorySpec)) unitsMemoryUptoCard

/-- THE SECOND FORM's CARD OF 'caesuralaw2.UnitsSteps'. -/
def unitsStepsUptoCard : Claim7 := { stood := { row := unitsStepsUptoRow, standIns := [], harness := (true, "f01bda4dc3d04715de7645e799e855ac712c6c44f2a388b7a3744db408240963"), looks := true }, kinds := [], alts := [], laidByText := true, laidKinds := [.data], laidTests := true, laidLooks := .later }
def UnitsStepsUptoCardSaid : Prop := Claim7.holds Tryd.pinned (.plain (OpenSpec.upto unitsStepsSpec)) unitsStepsUptoCard

/-- THE SECOND FORM's CARD OF 'caesuralaw2.UnitsPieces'. -/
def unitsPiecesUptoCard : Claim7 := { stood := { row := unitsPiecesUptoRow, standIns := [], harness := (true, "f01bda4dc3d04715de7645e799e855ac712c6c44f2a388b7a3744db408240963"), looks := true }, kinds := [], alts := [], laidByText := true, laidKinds := [.data], laidTests := true, laidLooks := .later }
def UnitsPiecesUptoCardSaid : Prop := Claim7.holds Tryd.pinned (.plain (OpenSpec.upto unitsPiecesSpec)) unitsPiecesUptoCard

/-- THE SECOND FORM's CARD OF 'caesuralaw2.UnitsHeld'. -/
def unitsHeldUptoCard : Claim7 := { stood := { row := unitsHeldUptoRow, standIns := [], harness := (true, "f01bda4dc3d04715de7645e799e855ac712c6c44f2a388b7a3744db408240963"), looks := true }, kinds := [], alts := [], laidByText := true, laidKinds := [.data], laidTests := true, laidLooks := .later }
def UnitsHeldUptoCardSaid : Prop := Claim7.holds Tryd.pinned (.plain (OpenSpec.upto unitsHeldSpec)) unitsHeldUptoCard

/-- THE SECOND FORM's CARD OF 'caesuralaw2.UnitsBack'. -/
def unitsBackUptoCard : Claim7 := { stood := { row := unitsBackUptoRow, standIns := [], harness := (true, "f01bda4dc3d04715de7645e799e855ac712c6c44f2a388b7a3744db408240963"), looks := true }, kinds := [], alts := [], laidByText := true, laidKinds := [.sentinel, .data], laidTests := true, laidLooks := .later }
def UnitsBackUptoCardSaid : Prop := Claim7.holds Tryd.pinned (.plain (OpenSpec.upto unitsBackSpec)) unitsBackUptoCard

/-- THE SECOND FORM's CARD OF 'caesuralaw2.UnitsCover'. -/
def unitsCoverUptoCard : Claim7 := { stood := { row := unitsCoverUptoRow, standIns := [], harness := (true, "f01bda4dc3d04715de7645e799e855ac712c6c44f2a388b7a3744db408240963"), looks := true }, kinds := [], alts := [], laidByText := true, laidKinds := [.sentinel, .data], laidTests := true, laidLooks := .later }
def UnitsCoverUptoCardSaid : Prop := Claim7.holds Tryd.pinned (.plain (OpenSpec.upto unitsCoverSpec)) unitsCoverUptoCard
end Rows
end Go.Proofs.YtfiahgahphammaaDoor
