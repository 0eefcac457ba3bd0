/-
  DERIVED. GIVEN WITH THE SEED: THE CARDS: each row of YthjdjgppghplgaaDoorRows.lean that lists a variable, with what it lists TIED to the program's text (the seventh form; the later family's looks); each row that meets fmt, with fmt's text TOLD by the authors' own Lean function (tested against real Go, not proved from fmt's source: count such statements apart). THE CARD IS WHAT COUNTS. Prove the row's statement (the work); the ties are given (YthjdjgppghplgaaDoorTie.lean); close each card by the builder's one call (the guide's Derived/Test/ToyasCard.lean, 'card_holds'). Laid BY PROGRAM, IN A SANDBOX (cutbox-door.mjs). By AI agents, Wed Nov 11 2026. No macro, syntax, notation, axiom, sorry.
-/
import Derived.Test.YthjdjgppghplgaaDoorRows
import GoSem.ClaimSeven
namespace Go.Proofs.YthjdjgppghplgaaDoor
namespace Rows

/-- THE TIED CARD OF 'caesuralaw3.RangesCounts'. -/
def rangesCountsCard : Claim7 := { stood := { row := rangesCountsRow, standIns := [], harness := (true, "6e4e78758e2d200614ea1eead29837239fcf7df8b7e71991999cba75ef717f69"), looks := true }, kinds := [], alts := [], laidByText := true, laidKinds := [.sentinel], laidTests := true, laidLooks := .later }
def RangesCountsCardSaid : Prop := Claim7.holds Tryd.pinned (.plain (OpenSpec.ofChange rangesCountsSpec)) rangesCountsCard

/-- THE TIED CARD OF 'caesuralaw3.RangesAnswers'. -/
def rangesAnswersCard : Claim7 := { stood := { row := rangesAnswersRow, standIns := [], harness := (true, "6e4e78758e2d200614ea1eead29837239fcf7df8b7e71991999cba75ef717f69"), looks := true }, kinds := [], alts := [], laidByText := true, laidKinds := [.sentinel, .sentinel, .sentinel, .sentinel, .sentinel, .sentinel, .sentinel, .sentinel, .sentinel, .sentinel, .sentinel], laidTests := true, laidLooks := .later }
def RangesAnswersCardSaid : Prop := Claim7.holds Tryd.pinned (.plain (OpenSpec.ofChange rangesAnswersSpec)) rangesAnswersCard

/-- THE TIED CARD OF 'caesuralaw3.RangesOwn'. -/
def rangesOwnCard : Claim7 := { stood := { row := rangesOwnRow, standIns := [], harness := (true, "6e4e78758e2d200614ea1eead29837239fcf7df8b7e71991999cba75ef717f69"), looks := true }, kinds := [], alts := [], laidByText := true, laidKinds := [.sentinel, .sentinel, .sentinel, .sentinel, .sentinel, .sentinel, .sentinel, .sentinel, .sentinel, .sentinel, .sentinel], laidTests := true, laidLooks := .later }
def RangesOwnCardSaid : Prop := Claim7.holds Tryd.pinned (.plain (OpenSpec.ofChange rangesOwnSpec)) rangesOwnCard

/-- THE TIED CARD OF 'caesuralaw3.RangesPoints'. -/
def rangesPointsCard : Claim7 := { stood := { row := rangesPointsRow, standIns := [], harness := (true, "6e4e78758e2d200614ea1eead29837239fcf7df8b7e71991999cba75ef717f69"), looks := true }, kinds := [], alts := [], laidByText := true, laidKinds := [.sentinel], laidTests := true, laidLooks := .later }
def RangesPointsCardSaid : Prop := Claim7.holds Tryd.pinned (.plain (OpenSpec.ofChange rangesPointsSpec)) rangesPointsCard

/-- THE TIED CARD OF 'caesuralaw3.RangesAlgebra'. -/
def rangesAlgebraCard : Claim7 := { stood := { row := rangesAlgebraRow, standIns := [], harness := (true, "6e4e78758e2d200614ea1eead29837239fcf7df8b7e71991999cba75ef717f69"), looks := true }, kinds := [], alts := [], laidByText := true, laidKinds := [.sentinel], laidTests := true, laidLooks := .later }
def RangesAlgebraCardSaid : Prop := Claim7.holds Tryd.pinned (.plain (OpenSpec.ofChange rangesAlgebraSpec)) rangesAlgebraCard

/-- THE SECOND FORM's CARD OF 'caesuralaw3.RangesCounts'. -/
def rangesCountsUptoCard : Claim7 := { stood := { row := rangesCountsUptoRow, standIns := [], harness := (true, "6e4e78758e2d200614ea1eead29837239fcf7df8b7e71991999cba75ef717f69"), looks := true }, kinds := [], alts := [], laidByText := true, laidKinds := [.sentinel], laidTests := true, laidLooks := .later }
def RangesCountsUptoCardSaid : Prop := Claim7.holds Tryd.pinned (.plain (OpenSpec.upto rangesCountsSpec)) rangesCountsUptoCard

/-- THE SECOND FORM's CARD OF 'caesuralaw3.RangesAnswers'. -/
def rangesAnswersUptoCard : Claim7 := { stood := { row := rangesAnswersUptoRow, standIns := [], harness := (true, "6e4e78758e2d200614ea1eead29837239fcf7df8b7e71991999cba75ef717f69"), looks := true }, kinds := [], alts := [], laidByText := true, laidKinds := [.sentinel, .sentinel, .sentinel, .sentinel, .sentinel, .sentinel, .sentinel, .sentinel, .sentinel, .sentinel, .sentinel], laidTests := true, laidLooks := .later }
def RangesAnswersUptoCardSaid : Prop := Claim7.holds Tryd.pinned (.plain (OpenSpec.upto rangesAnswersSpec)) rangesAnswersUptoCard

/-- THE SECOND FORM's CARD OF 'caesuralaw3.RangesOwn'. -/
def rangesOwnUptoCard : Claim7 := { stood := { row := rangesOwnUptoRow, standIns := [], harness := (true, "6e4e78758e2d200614ea1eead29837239fcf7df8b7e71991999cba75ef717f69"), looks := true }, kinds := [], alts := [], laidByText := true, laidKinds := [.sentinel, .sentinel, .sentinel, .sentinel, .sentinel, .sentinel, .sentinel, .sentinel, .sentinel, .sentinel, .sentinel], laidTests := true, laidLooks := .later }
def RangesOwnUptoCardSaid : Prop := Claim7.holds Tryd.pinned (.plain (OpenSpec.upto rangesOwnSpec)) rangesOwnUptoCard

/-- THE SECOND FORM's CARD OF 'caesuralaw3.RangesPoints'. -/
def rangesPointsUptoCard : Claim7 := { stood := { row := rangesPointsUptoRow, standIns := [], harness := (true, "6e4e78758e2d200614ea1eead29837239fcf7df8b7e71991999cba75ef717f69"), looks := true }, kinds := [], alts := [], laidByText := true, laidKinds := [.sentinel], laidTests := true, laidLooks := .later }
def RangesPointsUptoCardSaid : Prop := Claim7.holds Tryd.pinned (.plain (OpenSpec.upto rangesPointsSpec)) rangesPointsUptoCard

/-- THE SECOND FORM's CARD OF 'caesuralaw3.RangesAlgebra'. -/
def rangesAlgebraUptoCard : Claim7 := { stood := { row := rangesAlgebraUptoRow, standIns := [], harness := (true, "6e4e78758e2d200614ea1eead29837239fcf7df8b7e71991999cba75ef717f69"), looks := true }, kinds := [], alts := [], laidByText := true, laidKinds := [.sentinel], laidTests := true, laidLooks := .later }
def RangesAlgebraUptoCardSaid : Prop := Claim7.holds Tryd.pinned (.plain (OpenSpec.upto rangesAlgebraSpec)) rangesAlgebraUptoCard
end Rows
end Go.Proofs.YthjdjgppghplgaaDoor
