/-
  NARROWER THAN 'FOR EVERY INPUT', by the rows' own cells (each row's printed sentence says how): RangesCounts: laid · RangesAnswers: laid · RangesOwn: laid · RangesPoints: laid · RangesAlgebra: laid.
  DERIVED. THE GIVEN ROWS OF THIS SEAT. 5 by the template 'for every input the law returns true; each argument reads behind the call as it read before'; 0 by the template 'total and deterministic' (their statements: YthjdjgppghplgaaDoorTotals.lean).
  GIVEN WITH THE SEED: the statements are not yours to turn. If you find one false, say at which input.
  Laid BY PROGRAM, IN A SANDBOX (cutbox-rows.mjs): the forced cells as the released guide's own fill.sh prints them over the translation 69fb3eb50dc653e5… (all of the seat's roots in one cut). By AI agents, Wed Nov 11 2026. No macro, syntax, notation, axiom, sorry.
-/
import Derived.Test.YthjdjgppghplgaaDoorChecked
import GoSem.Claim
import GoSem.ClaimJoined
import GoSem.ClaimMapViews
import Derived.JoinedTies
import Derived.KernelRfl
namespace Go.Proofs.YthjdjgppghplgaaDoor
/- THE CELL 'sum', in the pinned program and in every row, IS THE sha256 OF THE DUMP (.gsa) THAT YthjdjgppghplgaaDoorProg.lean LOADS. Nothing in Lean hashes anything: it is a label: what it is worth is what the hold of that sum in a sandbox is worth. -/
noncomputable def Tryd.pinned : Pinned := { name := "ythjdjgppghplgaadoor", sum := "69fb3eb50dc653e51dbe00a8591a9d8d0661549ec499d66d0efb1bb6e0ff5636", checked := Tryd.checked }
namespace Rows
def none {H : Type} : Left H := { results := [], args := [] }

/- WHAT THE LISTED PACKAGE-LEVEL VARIABLES READ AS WHEN THE CALL BEGINS. Each datum BY PROGRAM (the guide's laid-datum.mjs) off the statement by which the dump's own 'gosem.cut.vars' lays the variable. In a bare row this is a premise. The card (YthjdjgppghplgaaDoorCards.lean) ties it to the program's text. -/
def laid_caesura_api_ErrArg {H : Type} : DataW H := .iface "*errors.errorString" (.ptr (.agg [.lit (.string [97, 32, 110, 117, 109, 98, 101, 114, 32, 111, 114, 32, 97, 110, 32, 97, 114, 103, 117, 109, 101, 110, 116, 32, 105, 115, 32, 111, 117, 116, 32, 111, 102, 32, 105, 116, 115, 32, 112, 108, 97, 99, 101])]))
def laid_caesura_api_ErrText {H : Type} : DataW H := .iface "*errors.errorString" (.ptr (.agg [.lit (.string [97, 32, 116, 101, 120, 116, 32, 111, 114, 32, 98, 121, 116, 101, 115, 32, 116, 104, 97, 116, 32, 99, 97, 110, 110, 111, 116, 32, 98, 101, 32, 114, 101, 97, 100])]))
def laid_caesura_api_ErrMany {H : Type} : DataW H := .iface "*errors.errorString" (.ptr (.agg [.lit (.string [97, 98, 111, 118, 101, 32, 97, 32, 108, 105, 109, 105, 116])]))
def laid_caesura_api_ErrShort {H : Type} : DataW H := .iface "*errors.errorString" (.ptr (.agg [.lit (.string [115, 111, 109, 101, 116, 104, 105, 110, 103, 32, 105, 115, 32, 109, 105, 115, 115, 105, 110, 103])]))
def laid_caesura_api_ErrTwice {H : Type} : DataW H := .iface "*errors.errorString" (.ptr (.agg [.lit (.string [116, 104, 101, 114, 101, 32, 116, 119, 105, 99, 101])]))
def laid_caesura_api_ErrLost {H : Type} : DataW H := .iface "*errors.errorString" (.ptr (.agg [.lit (.string [110, 111, 116, 32, 116, 104, 101, 114, 101])]))
def laid_caesura_api_ErrOrder {H : Type} : DataW H := .iface "*errors.errorString" (.ptr (.agg [.lit (.string [110, 111, 116, 32, 105, 110, 32, 111, 114, 100, 101, 114])]))
def laid_caesura_api_ErrCycle {H : Type} : DataW H := .iface "*errors.errorString" (.ptr (.agg [.lit (.string [103, 111, 101, 115, 32, 114, 111, 117, 110, 100, 32, 105, 110, 32, 97, 32, 99, 105, 114, 99, 108, 101])]))
def laid_caesura_api_ErrSum {H : Type} : DataW H := .iface "*errors.errorString" (.ptr (.agg [.lit (.string [116, 104, 101, 32, 115, 117, 109, 32, 100, 111, 101, 115, 32, 110, 111, 116, 32, 102, 105, 116])]))
def laid_caesura_api_ErrForm {H : Type} : DataW H := .iface "*errors.errorString" (.ptr (.agg [.lit (.string [110, 111, 116, 32, 116, 104, 101, 32, 111, 110, 101, 32, 102, 111, 114, 109, 32, 116, 104, 97, 116, 32, 105, 115, 32, 119, 114, 105, 116, 116, 101, 110])]))
def laid_caesura_api_ErrEnd {H : Type} : DataW H := .iface "*errors.errorString" (.ptr (.agg [.lit (.string [105, 116, 32, 104, 97, 115, 32, 101, 110, 100, 101, 100])]))

/-- 'caesuralaw3.RangesCounts': WHATEVER THE INPUT: true; the input reads as it did. -/
def rangesCountsSpec : ChangeSpec := { name := "rangesCounts", fn := fun _ => fun
  | [d] => { results := [.lit (.bool true)], args := [d] }
  | _ => none }
def rangesCountsRow : OpenClaim := { program := "ythjdjgppghplgaadoor", sum := "69fb3eb50dc653e51dbe00a8591a9d8d0661549ec499d66d0efb1bb6e0ff5636", func := "caesura/caesuralaw3.RangesCounts", spec := "rangesCounts", unfollowed := true, recurses := true, named := ["caesura/api.ErrArg"], apart := false, laid := [("caesura/api.ErrArg", laid_caesura_api_ErrArg)] }
def RangesCountsSaid : Prop := rangesCountsRow.holds Tryd.pinned (OpenSpec.ofChange rangesCountsSpec)

/-- ITS FALSE NEIGHBOUR: 'it returns false'. Refute it at one input. -/
def rangesCountsWrong : ChangeSpec := { name := "rangesCounts", fn := fun _ => fun
  | [d] => { results := [.lit (.bool false)], args := [d] }
  | _ => none }
def RangesCountsWrongFalsely : Prop := rangesCountsRow.holds Tryd.pinned (OpenSpec.ofChange rangesCountsWrong)

/-- 'caesuralaw3.RangesAnswers': WHATEVER THE INPUT: true; the input reads as it did. -/
def rangesAnswersSpec : ChangeSpec := { name := "rangesAnswers", fn := fun _ => fun
  | [d] => { results := [.lit (.bool true)], args := [d] }
  | _ => none }
def rangesAnswersRow : OpenClaim := { program := "ythjdjgppghplgaadoor", sum := "69fb3eb50dc653e51dbe00a8591a9d8d0661549ec499d66d0efb1bb6e0ff5636", func := "caesura/caesuralaw3.RangesAnswers", spec := "rangesAnswers", unfollowed := true, recurses := true, named := ["caesura/api.ErrArg", "caesura/api.ErrText", "caesura/api.ErrMany", "caesura/api.ErrShort", "caesura/api.ErrTwice", "caesura/api.ErrOrder", "caesura/api.ErrLost", "caesura/api.ErrCycle", "caesura/api.ErrSum", "caesura/api.ErrForm", "caesura/api.ErrEnd"], apart := false, laid := [("caesura/api.ErrArg", laid_caesura_api_ErrArg), ("caesura/api.ErrText", laid_caesura_api_ErrText), ("caesura/api.ErrMany", laid_caesura_api_ErrMany), ("caesura/api.ErrShort", laid_caesura_api_ErrShort), ("caesura/api.ErrTwice", laid_caesura_api_ErrTwice), ("caesura/api.ErrLost", laid_caesura_api_ErrLost), ("caesura/api.ErrOrder", laid_caesura_api_ErrOrder), ("caesura/api.ErrCycle", laid_caesura_api_ErrCycle), ("caesura/api.ErrSum", laid_caesura_api_ErrSum), ("caesura/api.ErrForm", laid_caesura_api_ErrForm), ("caesura/api.ErrEnd", laid_caesura_api_ErrEnd)] }
def RangesAnswersSaid : Prop := rangesAnswersRow.holds Tryd.pinned (OpenSpec.ofChange rangesAnswersSpec)

/-- ITS FALSE NEIGHBOUR: 'it returns false'. Refute it at one input. -/
def rangesAnswersWrong : ChangeSpec := { name := "rangesAnswers", fn := fun _ => fun
  | [d] => { results := [.lit (.bool false)], args := [d] }
  | _ => none }
def RangesAnswersWrongFalsely : Prop := rangesAnswersRow.holds Tryd.pinned (OpenSpec.ofChange rangesAnswersWrong)

/-- 'caesuralaw3.RangesOwn': WHATEVER THE INPUT: true; the input reads as it did. -/
def rangesOwnSpec : ChangeSpec := { name := "rangesOwn", fn := fun _ => fun
  | [d] => { results := [.lit (.bool true)], args := [d] }
  | _ => none }
def rangesOwnRow : OpenClaim := { program := "ythjdjgppghplgaadoor", sum := "69fb3eb50dc653e51dbe00a8591a9d8d0661549ec499d66d0efb1bb6e0ff5636", func := "caesura/caesuralaw3.RangesOwn", spec := "rangesOwn", unfollowed := true, recurses := true, named := ["caesura/api.ErrArg", "caesura/api.ErrText", "caesura/api.ErrMany", "caesura/api.ErrShort", "caesura/api.ErrTwice", "caesura/api.ErrOrder", "caesura/api.ErrLost", "caesura/api.ErrCycle", "caesura/api.ErrSum", "caesura/api.ErrForm", "caesura/api.ErrEnd"], apart := false, laid := [("caesura/api.ErrArg", laid_caesura_api_ErrArg), ("caesura/api.ErrText", laid_caesura_api_ErrText), ("caesura/api.ErrMany", laid_caesura_api_ErrMany), ("caesura/api.ErrShort", laid_caesura_api_ErrShort), ("caesura/api.ErrTwice", laid_caesura_api_ErrTwice), ("caesura/api.ErrLost", laid_caesura_api_ErrLost), ("caesura/api.ErrOrder", laid_caesura_api_ErrOrder), ("caesura/api.ErrCycle", laid_caesura_api_ErrCycle), ("caesura/api.ErrSum", laid_caesura_api_ErrSum), ("caesura/api.ErrForm", laid_caesura_api_ErrForm), ("caesura/api.ErrEnd", laid_caesura_api_ErrEnd)] }
def RangesOwnSaid : Prop := rangesOwnRow.holds Tryd.pinned (OpenSpec.ofChange rangesOwnSpec)

/-- ITS FALSE NEIGHBOUR: 'it returns false'. Refute it at one input. -/
def rangesOwnWrong : ChangeSpec := { name := "rangesOwn", fn := fun _ => fun
  | [d] => { results := [.lit (.bool false)], args := [d] }
  | _ => none }
def RangesOwnWrongFalsely : Prop := rangesOwnRow.holds Tryd.pinned (OpenSpec.ofChange rangesOwnWrong)

/-- 'caesuralaw3.RangesPoints': WHATEVER THE INPUT: true; the input reads as it did. -/
def rangesPointsSpec : ChangeSpec := { name := "rangesPoints", fn := fun _ => fun
  | [d] => { results := [.lit (.bool true)], args := [d] }
  | _ => none }
def rangesPointsRow : OpenClaim := { program := "ythjdjgppghplgaadoor", sum := "69fb3eb50dc653e51dbe00a8591a9d8d0661549ec499d66d0efb1bb6e0ff5636", func := "caesura/caesuralaw3.RangesPoints", spec := "rangesPoints", unfollowed := true, recurses := true, named := ["caesura/api.ErrArg"], apart := false, laid := [("caesura/api.ErrArg", laid_caesura_api_ErrArg)] }
def RangesPointsSaid : Prop := rangesPointsRow.holds Tryd.pinned (OpenSpec.ofChange rangesPointsSpec)

/-- ITS FALSE NEIGHBOUR: 'it returns false'. Refute it at one input. -/
def rangesPointsWrong : ChangeSpec := { name := "rangesPoints", fn := fun _ => fun
  | [d] => { results := [.lit (.bool false)], args := [d] }
  | _ => none }
def RangesPointsWrongFalsely : Prop := rangesPointsRow.holds Tryd.pinned (OpenSpec.ofChange rangesPointsWrong)

/-- 'caesuralaw3.RangesAlgebra': WHATEVER THE INPUT: true; the input reads as it did. -/
def rangesAlgebraSpec : ChangeSpec := { name := "rangesAlgebra", fn := fun _ => fun
  | [d] => { results := [.lit (.bool true)], args := [d] }
  | _ => none }
def rangesAlgebraRow : OpenClaim := { program := "ythjdjgppghplgaadoor", sum := "69fb3eb50dc653e51dbe00a8591a9d8d0661549ec499d66d0efb1bb6e0ff5636", func := "caesura/caesuralaw3.RangesAlgebra", spec := "rangesAlgebra", unfollowed := true, recurses := true, named := ["caesura/api.ErrArg"], apart := false, laid := [("caesura/api.ErrArg", laid_caesura_api_ErrArg)] }
def RangesAlgebraSaid : Prop := rangesAlgebraRow.holds Tryd.pinned (OpenSpec.ofChange rangesAlgebraSpec)

/-- ITS FALSE NEIGHBOUR: 'it returns false'. Refute it at one input. -/
def rangesAlgebraWrong : ChangeSpec := { name := "rangesAlgebra", fn := fun _ => fun
  | [d] => { results := [.lit (.bool false)], args := [d] }
  | _ => none }
def RangesAlgebraWrongFalsely : Prop := rangesAlgebraRow.holds Tryd.pinned (OpenSpec.ofChange rangesAlgebraWrong)

/- THE SECOND FORM. 'bulk': how many values and letters a reading holds, each counted each time it is reached (what is shared counts as often as it is met; a slice's spare places count too). A statement '..UptoSaid' is the law's where the arguments, and the package variables that the reading takes, are together of bulk at most 1048576: NARROWER than '..Said'. Prove '..Said' where nothing that the law and all that it calls make is longer than what came in: it says more and counts as full. Else prove '..UptoSaid'. A law counts once. -/
mutual
def uptoBulk {H : Type} : DataW H → Nat
  | .lit (.string bytes) => bytes.length + 1
  | .lit _ => 1
  | .nil => 1
  | .ptr d => uptoBulk d + 1
  | .slice elems spare => uptoBulkAll elems + uptoBulkAll spare + 1
  | .agg parts => uptoBulkAll parts + 1
  | .iface _ d => uptoBulk d + 1
  | .map entries => uptoBulkEntries entries + 1
  | .held _ => 1
def uptoBulkAll {H : Type} : List (DataW H) → Nat
  | [] => 0
  | d :: r => uptoBulk d + uptoBulkAll r
def uptoBulkEntries {H : Type} : List (Lit × DataW H) → Nat
  | [] => 0
  | x :: r => uptoBulkEntry x + uptoBulkEntries r
def uptoBulkEntry {H : Type} : Lit × DataW H → Nat
  | (.string bytes, d) => bytes.length + uptoBulk d + 1
  | (_, d) => uptoBulk d + 1
 end
def uptoSmall : (H : Type) → List (DataW H) → Bool := fun _ ds => decide (uptoBulkAll ds ≤ 1048576)
def OpenSpec.upto (s : _root_.Go.ChangeSpec) : _root_.Go.OpenSpec := { _root_.Go.OpenSpec.ofChange s with cond := some uptoSmall }

/-- 'caesuralaw3.RangesCounts', WHERE WHAT IT READS IS OF BULK AT MOST 1048576: true; the input reads as it did. -/
def rangesCountsUptoRow : OpenClaim := { program := "ythjdjgppghplgaadoor", sum := "69fb3eb50dc653e51dbe00a8591a9d8d0661549ec499d66d0efb1bb6e0ff5636", func := "caesura/caesuralaw3.RangesCounts", spec := "rangesCounts", unfollowed := true, recurses := true, named := ["caesura/api.ErrArg"], apart := false, laid := [("caesura/api.ErrArg", laid_caesura_api_ErrArg)], narrowed := true }
def RangesCountsUptoSaid : Prop := rangesCountsUptoRow.holds Tryd.pinned (OpenSpec.upto rangesCountsSpec)

/-- 'caesuralaw3.RangesAnswers', WHERE WHAT IT READS IS OF BULK AT MOST 1048576: true; the input reads as it did. -/
def rangesAnswersUptoRow : OpenClaim := { program := "ythjdjgppghplgaadoor", sum := "69fb3eb50dc653e51dbe00a8591a9d8d0661549ec499d66d0efb1bb6e0ff5636", func := "caesura/caesuralaw3.RangesAnswers", spec := "rangesAnswers", unfollowed := true, recurses := true, named := ["caesura/api.ErrArg", "caesura/api.ErrText", "caesura/api.ErrMany", "caesura/api.ErrShort", "caesura/api.ErrTwice", "caesura/api.ErrOrder", "caesura/api.ErrLost", "caesura/api.ErrCycle", "caesura/api.ErrSum", "caesura/api.ErrForm", "caesura/api.ErrEnd"], apart := false, laid := [("caesura/api.ErrArg", laid_caesura_api_ErrArg), ("caesura/api.ErrText", laid_caesura_api_ErrText), ("caesura/api.ErrMany", laid_caesura_api_ErrMany), ("caesura/api.ErrShort", laid_caesura_api_ErrShort), ("caesura/api.ErrTwice", laid_caesura_api_ErrTwice), ("caesura/api.ErrLost", laid_caesura_api_ErrLost), ("caesura/api.ErrOrder", laid_caesura_api_ErrOrder), ("caesura/api.ErrCycle", laid_caesura_api_ErrCycle), ("caesura/api.ErrSum", laid_caesura_api_ErrSum), ("caesura/api.ErrForm", laid_caesura_api_ErrForm), ("caesura/api.ErrEnd", laid_caesura_api_ErrEnd)], narrowed := true }
def RangesAnswersUptoSaid : Prop := rangesAnswersUptoRow.holds Tryd.pinned (OpenSpec.upto rangesAnswersSpec)

/-- 'caesuralaw3.RangesOwn', WHERE WHAT IT READS IS OF BULK AT MOST 1048576: true; the input reads as it did. -/
def rangesOwnUptoRow : OpenClaim := { program := "ythjdjgppghplgaadoor", sum := "69fb3eb50dc653e51dbe00a8591a9d8d0661549ec499d66d0efb1bb6e0ff5636", func := "caesura/caesuralaw3.RangesOwn", spec := "rangesOwn", unfollowed := true, recurses := true, named := ["caesura/api.ErrArg", "caesura/api.ErrText", "caesura/api.ErrMany", "caesura/api.ErrShort", "caesura/api.ErrTwice", "caesura/api.ErrOrder", "caesura/api.ErrLost", "caesura/api.ErrCycle", "caesura/api.ErrSum", "caesura/api.ErrForm", "caesura/api.ErrEnd"], apart := false, laid := [("caesura/api.ErrArg", laid_caesura_api_ErrArg), ("caesura/api.ErrText", laid_caesura_api_ErrText), ("caesura/api.ErrMany", laid_caesura_api_ErrMany), ("caesura/api.ErrShort", laid_caesura_api_ErrShort), ("caesura/api.ErrTwice", laid_caesura_api_ErrTwice), ("caesura/api.ErrLost", laid_caesura_api_ErrLost), ("caesura/api.ErrOrder", laid_caesura_api_ErrOrder), ("caesura/api.ErrCycle", laid_caesura_api_ErrCycle), ("caesura/api.ErrSum", laid_caesura_api_ErrSum), ("caesura/api.ErrForm", laid_caesura_api_ErrForm), ("caesura/api.ErrEnd", laid_caesura_api_ErrEnd)], narrowed := true }
def RangesOwnUptoSaid : Prop := rangesOwnUptoRow.holds Tryd.pinned (OpenSpec.upto rangesOwnSpec)

/-- 'caesuralaw3.RangesPoints', WHERE WHAT IT READS IS OF BULK AT MOST 1048576: true; the input reads as it did. -/
def rangesPointsUptoRow : OpenClaim := { program := "ythjdjgppghplgaadoor", sum := "69fb3eb50dc653e51dbe00a8591a9d8d0661549ec499d66d0efb1bb6e0ff5636", func := "caesura/caesuralaw3.RangesPoints", spec := "rangesPoints", unfollowed := true, recurses := true, named := ["caesura/api.ErrArg"], apart := false, laid := [("caesura/api.ErrArg", laid_caesura_api_ErrArg)], narrowed := true }
def RangesPointsUptoSaid : Prop := rangesPointsUptoRow.holds Tryd.pinned (OpenSpec.upto rangesPointsSpec)

/-- 'caesuralaw3.RangesAlgebra', WHERE WHAT IT READS IS OF BULK AT MOST 1048576: true; the input reads as it did. -/
def rangesAlgebraUptoRow : OpenClaim := { program := "ythjdjgppghplgaadoor", sum := "69fb3eb50dc653e51dbe00a8591a9d8d0661549ec499d66d0efb1bb6e0ff5636", func := "caesura/caesuralaw3.RangesAlgebra", spec := "rangesAlgebra", unfollowed := true, recurses := true, named := ["caesura/api.ErrArg"], apart := false, laid := [("caesura/api.ErrArg", laid_caesura_api_ErrArg)], narrowed := true }
def RangesAlgebraUptoSaid : Prop := rangesAlgebraUptoRow.holds Tryd.pinned (OpenSpec.upto rangesAlgebraSpec)

end Rows
end Go.Proofs.YthjdjgppghplgaaDoor
