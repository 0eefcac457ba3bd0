/-
  NARROWER THAN 'FOR EVERY INPUT', by the rows' own cells (each row's printed sentence says how): UnitsEncodes: laid · UnitsCuts: laid · UnitsSplits: laid · UnitsMemory: laid · UnitsSteps: laid · UnitsPieces: laid · UnitsHeld: laid · UnitsBack: laid · UnitsCover: laid.
  DERIVED. THE GIVEN ROWS OF THIS SEAT. 9 by the template 'for every input the law returns true; each argument reads behind the call as it read before'; 0 by the template 'total and deterministic' (their statements: YtfiahgahphammaaDoorTotals.lean).
  GIVEN WITH THE SEED: the statements are not yours to turn. If you find one false, say at which input.
  Laid BY PROGRAM, IN A SANDBOX (cutbox-rows.mjs): the forced cells as the released guide's own fill.sh prints them over the translation f653a0549e5bccdd… (all of the seat's roots in one cut). By AI agents, Wed Nov 11 2026. No macro, syntax, notation, axiom, sorry.
-/
import Derived.Test.YtfiahgahphammaaDoorChecked
import GoSem.Claim
import GoSem.ClaimJoined
import GoSem.ClaimMapViews
import Derived.JoinedTies
import Derived.KernelRfl
namespace Go.Proofs.YtfiahgahphammaaDoor
/- THE CELL 'sum', in the pinned program and in every row, IS THE sha256 OF THE DUMP (.gsa) THAT YtfiahgahphammaaDoorProg.lean LOADS. Nothing in Lean hashes anything: it is a label: what it is worth is what the hold of that sum in a sandbox is worth. -/
noncomputable def Tryd.pinned : Pinned := { name := "ytfiahgahphammaadoor", sum := "f653a0549e5bccddffa955d562fdd0bbe32c453b6d5e36e85a153fff5f309ce7", checked := Tryd.checked }
namespace Rows
def none {H : Type} : Left H := { results := [], args := [] }

/- WHAT THE LISTED PACKAGE-LEVEL VARIABLES READ AS WHEN THE CALL BEGINS. Each datum BY PROGRAM (the guide's laid-datum.mjs) off the statement by which the dump's own 'gosem.cut.vars' lays the variable. In a bare row this is a premise. The card (YtfiahgahphammaaDoorCards.lean) ties it to the program's text. -/
def laid_caesura_api_ErrArg {H : Type} : DataW H := .iface "*errors.errorString" (.ptr (.agg [.lit (.string [97, 32, 110, 117, 109, 98, 101, 114, 32, 111, 114, 32, 97, 110, 32, 97, 114, 103, 117, 109, 101, 110, 116, 32, 105, 115, 32, 111, 117, 116, 32, 111, 102, 32, 105, 116, 115, 32, 112, 108, 97, 99, 101])]))
def laid_caesura_api_ErrText {H : Type} : DataW H := .iface "*errors.errorString" (.ptr (.agg [.lit (.string [97, 32, 116, 101, 120, 116, 32, 111, 114, 32, 98, 121, 116, 101, 115, 32, 116, 104, 97, 116, 32, 99, 97, 110, 110, 111, 116, 32, 98, 101, 32, 114, 101, 97, 100])]))
def laid_caesura_api_ErrMany {H : Type} : DataW H := .iface "*errors.errorString" (.ptr (.agg [.lit (.string [97, 98, 111, 118, 101, 32, 97, 32, 108, 105, 109, 105, 116])]))
def laid_caesura_api_ErrShort {H : Type} : DataW H := .iface "*errors.errorString" (.ptr (.agg [.lit (.string [115, 111, 109, 101, 116, 104, 105, 110, 103, 32, 105, 115, 32, 109, 105, 115, 115, 105, 110, 103])]))
def laid_caesura_api_ErrTwice {H : Type} : DataW H := .iface "*errors.errorString" (.ptr (.agg [.lit (.string [116, 104, 101, 114, 101, 32, 116, 119, 105, 99, 101])]))
def laid_caesura_api_ErrLost {H : Type} : DataW H := .iface "*errors.errorString" (.ptr (.agg [.lit (.string [110, 111, 116, 32, 116, 104, 101, 114, 101])]))
def laid_caesura_api_ErrOrder {H : Type} : DataW H := .iface "*errors.errorString" (.ptr (.agg [.lit (.string [110, 111, 116, 32, 105, 110, 32, 111, 114, 100, 101, 114])]))
def laid_caesura_api_ErrCycle {H : Type} : DataW H := .iface "*errors.errorString" (.ptr (.agg [.lit (.string [103, 111, 101, 115, 32, 114, 111, 117, 110, 100, 32, 105, 110, 32, 97, 32, 99, 105, 114, 99, 108, 101])]))
def laid_caesura_api_ErrSum {H : Type} : DataW H := .iface "*errors.errorString" (.ptr (.agg [.lit (.string [116, 104, 101, 32, 115, 117, 109, 32, 100, 111, 101, 115, 32, 110, 111, 116, 32, 102, 105, 116])]))
def laid_caesura_api_ErrForm {H : Type} : DataW H := .iface "*errors.errorString" (.ptr (.agg [.lit (.string [110, 111, 116, 32, 116, 104, 101, 32, 111, 110, 101, 32, 102, 111, 114, 109, 32, 116, 104, 97, 116, 32, 105, 115, 32, 119, 114, 105, 116, 116, 101, 110])]))
def laid_caesura_api_ErrEnd {H : Type} : DataW H := .iface "*errors.errorString" (.ptr (.agg [.lit (.string [105, 116, 32, 104, 97, 115, 32, 101, 110, 100, 101, 100])]))
def laid_caesura_units_forms {H : Type} : DataW H := .agg [.agg [.lit (.int .u8 194), .lit (.int .u8 223), .lit (.int .u8 128), .lit (.int .u8 191), .lit (.int .i64 2), .lit (.int .u8 31)], .agg [.lit (.int .u8 224), .lit (.int .u8 224), .lit (.int .u8 160), .lit (.int .u8 191), .lit (.int .i64 3), .lit (.int .u8 15)], .agg [.lit (.int .u8 225), .lit (.int .u8 236), .lit (.int .u8 128), .lit (.int .u8 191), .lit (.int .i64 3), .lit (.int .u8 15)], .agg [.lit (.int .u8 237), .lit (.int .u8 237), .lit (.int .u8 128), .lit (.int .u8 159), .lit (.int .i64 3), .lit (.int .u8 15)], .agg [.lit (.int .u8 238), .lit (.int .u8 239), .lit (.int .u8 128), .lit (.int .u8 191), .lit (.int .i64 3), .lit (.int .u8 15)], .agg [.lit (.int .u8 240), .lit (.int .u8 240), .lit (.int .u8 144), .lit (.int .u8 191), .lit (.int .i64 4), .lit (.int .u8 7)], .agg [.lit (.int .u8 241), .lit (.int .u8 243), .lit (.int .u8 128), .lit (.int .u8 191), .lit (.int .i64 4), .lit (.int .u8 7)], .agg [.lit (.int .u8 244), .lit (.int .u8 244), .lit (.int .u8 128), .lit (.int .u8 143), .lit (.int .i64 4), .lit (.int .u8 7)]]

/-- 'caesuralaw2.UnitsEncodes': WHATEVER THE INPUT: true; the input reads as it did. -/
def unitsEncodesSpec : ChangeSpec := { name := "unitsEncodes", fn := fun _ => fun
  | [d] => { results := [.lit (.bool true)], args := [d] }
  | _ => none }
def unitsEncodesRow : OpenClaim := { program := "ytfiahgahphammaadoor", sum := "f653a0549e5bccddffa955d562fdd0bbe32c453b6d5e36e85a153fff5f309ce7", func := "caesura/caesuralaw2.UnitsEncodes", spec := "unitsEncodes", named := ["caesura/api.ErrArg", "caesura/api.ErrText", "caesura/api.ErrMany", "caesura/api.ErrShort", "caesura/api.ErrTwice", "caesura/api.ErrOrder", "caesura/api.ErrLost", "caesura/api.ErrCycle", "caesura/api.ErrSum", "caesura/api.ErrForm", "caesura/api.ErrEnd"], apart := false, laid := [("caesura/api.ErrArg", laid_caesura_api_ErrArg), ("caesura/api.ErrText", laid_caesura_api_ErrText), ("caesura/api.ErrMany", laid_caesura_api_ErrMany), ("caesura/api.ErrShort", laid_caesura_api_ErrShort), ("caesura/api.ErrTwice", laid_caesura_api_ErrTwice), ("caesura/api.ErrLost", laid_caesura_api_ErrLost), ("caesura/api.ErrOrder", laid_caesura_api_ErrOrder), ("caesura/api.ErrCycle", laid_caesura_api_ErrCycle), ("caesura/api.ErrSum", laid_caesura_api_ErrSum), ("caesura/api.ErrForm", laid_caesura_api_ErrForm), ("caesura/api.ErrEnd", laid_caesura_api_ErrEnd)] }
def UnitsEncodesSaid : Prop := unitsEncodesRow.holds Tryd.pinned (OpenSpec.ofChange unitsEncodesSpec)

/-- ITS FALSE NEIGHBOUR: 'it returns false'. Refute it at one input. -/
def unitsEncodesWrong : ChangeSpec := { name := "unitsEncodes", fn := fun _ => fun
  | [d] => { results := [.lit (.bool false)], args := [d] }
  | _ => none }
def UnitsEncodesWrongFalsely : Prop := unitsEncodesRow.holds Tryd.pinned (OpenSpec.ofChange unitsEncodesWrong)

/-- 'caesuralaw2.UnitsCuts': WHATEVER THE INPUT: true; the input reads as it did. -/
def unitsCutsSpec : ChangeSpec := { name := "unitsCuts", fn := fun _ => fun
  | [d] => { results := [.lit (.bool true)], args := [d] }
  | _ => none }
def unitsCutsRow : OpenClaim := { program := "ytfiahgahphammaadoor", sum := "f653a0549e5bccddffa955d562fdd0bbe32c453b6d5e36e85a153fff5f309ce7", func := "caesura/caesuralaw2.UnitsCuts", spec := "unitsCuts", named := ["caesura/units.forms"], apart := false, laid := [("caesura/units.forms", laid_caesura_units_forms)] }
def UnitsCutsSaid : Prop := unitsCutsRow.holds Tryd.pinned (OpenSpec.ofChange unitsCutsSpec)

/-- ITS FALSE NEIGHBOUR: 'it returns false'. Refute it at one input. -/
def unitsCutsWrong : ChangeSpec := { name := "unitsCuts", fn := fun _ => fun
  | [d] => { results := [.lit (.bool false)], args := [d] }
  | _ => none }
def UnitsCutsWrongFalsely : Prop := unitsCutsRow.holds Tryd.pinned (OpenSpec.ofChange unitsCutsWrong)

/-- 'caesuralaw2.UnitsSplits': WHATEVER THE INPUT: true; the input reads as it did. -/
def unitsSplitsSpec : ChangeSpec := { name := "unitsSplits", fn := fun _ => fun
  | [d] => { results := [.lit (.bool true)], args := [d] }
  | _ => none }
def unitsSplitsRow : OpenClaim := { program := "ytfiahgahphammaadoor", sum := "f653a0549e5bccddffa955d562fdd0bbe32c453b6d5e36e85a153fff5f309ce7", func := "caesura/caesuralaw2.UnitsSplits", spec := "unitsSplits", unfollowed := true, recurses := true, named := ["caesura/units.forms"], apart := false, laid := [("caesura/units.forms", laid_caesura_units_forms)] }
def UnitsSplitsSaid : Prop := unitsSplitsRow.holds Tryd.pinned (OpenSpec.ofChange unitsSplitsSpec)

/-- ITS FALSE NEIGHBOUR: 'it returns false'. Refute it at one input. -/
def unitsSplitsWrong : ChangeSpec := { name := "unitsSplits", fn := fun _ => fun
  | [d] => { results := [.lit (.bool false)], args := [d] }
  | _ => none }
def UnitsSplitsWrongFalsely : Prop := unitsSplitsRow.holds Tryd.pinned (OpenSpec.ofChange unitsSplitsWrong)

/-- 'caesuralaw2.UnitsMemory': WHATEVER THE INPUT: true; the input reads as it did. -/
def unitsMemorySpec : ChangeSpec := { name := "unitsMemory", fn := fun _ => fun
  | [d] => { results := [.lit (.bool true)], args := [d] }
  | _ => none }
def unitsMemoryRow : OpenClaim := { program := "ytfiahgahphammaadoor", sum := "f653a0549e5bccddffa955d562fdd0bbe32c453b6d5e36e85a153fff5f309ce7", func := "caesura/caesuralaw2.UnitsMemory", spec := "unitsMemory", unfollowed := true, recurses := true, named := ["caesura/units.forms"], apart := false, laid := [("caesura/units.forms", laid_caesura_units_forms)] }
def UnitsMemorySaid : Prop := unitsMemoryRow.holds Tryd.pinned (OpenSpec.ofChange unitsMemorySpec)

/-- ITS FALSE NEIGHBOUR: 'it returns false'. Refute it at one input. -/
def unitsMemoryWrong : ChangeSpec := { name := "unitsMemory", fn := fun _ => fun
  | [d] => { results := [.lit (.bool false)], args := [d] }
  | _ => none }
def UnitsMemoryWrongFalsely : Prop := unitsMemoryRow.holds Tryd.pinned (OpenSpec.ofChange unitsMemoryWrong)

/-- 'caesuralaw2.UnitsSteps': WHATEVER THE INPUT: true; the input reads as it did. -/
def unitsStepsSpec : ChangeSpec := { name := "unitsSteps", fn := fun _ => fun
  | [d] => { results := [.lit (.bool true)], args := [d] }
  | _ => none }
def unitsStepsRow : OpenClaim := { program := "ytfiahgahphammaadoor", sum := "f653a0549e5bccddffa955d562fdd0bbe32c453b6d5e36e85a153fff5f309ce7", func := "caesura/caesuralaw2.UnitsSteps", spec := "unitsSteps", named := ["caesura/units.forms"], apart := false, laid := [("caesura/units.forms", laid_caesura_units_forms)] }
def UnitsStepsSaid : Prop := unitsStepsRow.holds Tryd.pinned (OpenSpec.ofChange unitsStepsSpec)

/-- ITS FALSE NEIGHBOUR: 'it returns false'. Refute it at one input. -/
def unitsStepsWrong : ChangeSpec := { name := "unitsSteps", fn := fun _ => fun
  | [d] => { results := [.lit (.bool false)], args := [d] }
  | _ => none }
def UnitsStepsWrongFalsely : Prop := unitsStepsRow.holds Tryd.pinned (OpenSpec.ofChange unitsStepsWrong)

/-- 'caesuralaw2.UnitsPieces': WHATEVER THE INPUT: true; the input reads as it did. -/
def unitsPiecesSpec : ChangeSpec := { name := "unitsPieces", fn := fun _ => fun
  | [d] => { results := [.lit (.bool true)], args := [d] }
  | _ => none }
def unitsPiecesRow : OpenClaim := { program := "ytfiahgahphammaadoor", sum := "f653a0549e5bccddffa955d562fdd0bbe32c453b6d5e36e85a153fff5f309ce7", func := "caesura/caesuralaw2.UnitsPieces", spec := "unitsPieces", unfollowed := true, recurses := true, named := ["caesura/units.forms"], apart := false, laid := [("caesura/units.forms", laid_caesura_units_forms)] }
def UnitsPiecesSaid : Prop := unitsPiecesRow.holds Tryd.pinned (OpenSpec.ofChange unitsPiecesSpec)

/-- ITS FALSE NEIGHBOUR: 'it returns false'. Refute it at one input. -/
def unitsPiecesWrong : ChangeSpec := { name := "unitsPieces", fn := fun _ => fun
  | [d] => { results := [.lit (.bool false)], args := [d] }
  | _ => none }
def UnitsPiecesWrongFalsely : Prop := unitsPiecesRow.holds Tryd.pinned (OpenSpec.ofChange unitsPiecesWrong)

/-- 'caesuralaw2.UnitsHeld': WHATEVER THE INPUT: true; the input reads as it did. -/
def unitsHeldSpec : ChangeSpec := { name := "unitsHeld", fn := fun _ => fun
  | [d] => { results := [.lit (.bool true)], args := [d] }
  | _ => none }
def unitsHeldRow : OpenClaim := { program := "ytfiahgahphammaadoor", sum := "f653a0549e5bccddffa955d562fdd0bbe32c453b6d5e36e85a153fff5f309ce7", func := "caesura/caesuralaw2.UnitsHeld", spec := "unitsHeld", unfollowed := true, recurses := true, named := ["caesura/units.forms"], apart := false, laid := [("caesura/units.forms", laid_caesura_units_forms)] }
def UnitsHeldSaid : Prop := unitsHeldRow.holds Tryd.pinned (OpenSpec.ofChange unitsHeldSpec)

/-- ITS FALSE NEIGHBOUR: 'it returns false'. Refute it at one input. -/
def unitsHeldWrong : ChangeSpec := { name := "unitsHeld", fn := fun _ => fun
  | [d] => { results := [.lit (.bool false)], args := [d] }
  | _ => none }
def UnitsHeldWrongFalsely : Prop := unitsHeldRow.holds Tryd.pinned (OpenSpec.ofChange unitsHeldWrong)

/-- 'caesuralaw2.UnitsBack': WHATEVER THE INPUT: true; the input reads as it did. -/
def unitsBackSpec : ChangeSpec := { name := "unitsBack", fn := fun _ => fun
  | [d] => { results := [.lit (.bool true)], args := [d] }
  | _ => none }
def unitsBackRow : OpenClaim := { program := "ytfiahgahphammaadoor", sum := "f653a0549e5bccddffa955d562fdd0bbe32c453b6d5e36e85a153fff5f309ce7", func := "caesura/caesuralaw2.UnitsBack", spec := "unitsBack", unfollowed := true, recurses := true, named := ["caesura/api.ErrArg", "caesura/units.forms"], apart := false, laid := [("caesura/api.ErrArg", laid_caesura_api_ErrArg), ("caesura/units.forms", laid_caesura_units_forms)] }
def UnitsBackSaid : Prop := unitsBackRow.holds Tryd.pinned (OpenSpec.ofChange unitsBackSpec)

/-- ITS FALSE NEIGHBOUR: 'it returns false'. Refute it at one input. -/
def unitsBackWrong : ChangeSpec := { name := "unitsBack", fn := fun _ => fun
  | [d] => { results := [.lit (.bool false)], args := [d] }
  | _ => none }
def UnitsBackWrongFalsely : Prop := unitsBackRow.holds Tryd.pinned (OpenSpec.ofChange unitsBackWrong)

/-- 'caesuralaw2.UnitsCover': WHATEVER THE INPUT: true; the input reads as it did. -/
def unitsCoverSpec : ChangeSpec := { name := "unitsCover", fn := fun _ => fun
  | [d] => { results := [.lit (.bool true)], args := [d] }
  | _ => none }
def unitsCoverRow : OpenClaim := { program := "ytfiahgahphammaadoor", sum := "f653a0549e5bccddffa955d562fdd0bbe32c453b6d5e36e85a153fff5f309ce7", func := "caesura/caesuralaw2.UnitsCover", spec := "unitsCover", unfollowed := true, recurses := true, named := ["caesura/units.forms", "caesura/api.ErrArg"], apart := false, laid := [("caesura/api.ErrArg", laid_caesura_api_ErrArg), ("caesura/units.forms", laid_caesura_units_forms)] }
def UnitsCoverSaid : Prop := unitsCoverRow.holds Tryd.pinned (OpenSpec.ofChange unitsCoverSpec)

/-- ITS FALSE NEIGHBOUR: 'it returns false'. Refute it at one input. -/
def unitsCoverWrong : ChangeSpec := { name := "unitsCover", fn := fun _ => fun
  | [d] => { results := [.lit (.bool false)], args := [d] }
  | _ => none }
def UnitsCoverWrongFalsely : Prop := unitsCoverRow.holds Tryd.pinned (OpenSpec.ofChange unitsCoverWrong)

/- THE SECOND FORM. 'bulk': how many values and letters a reading holds, each counted each time it is reached (what is shared counts as often as it is met; a slice's spare places count too). A statement '..UptoSaid' is the law's where the arguments, and the package variables that the reading takes, are together of bulk at most 1048576: NARROWER than '..Said'. Prove '..Said' where nothing that the law and all that it calls make is longer than what came in: it says more and counts as full. Else prove '..UptoSaid'. A law counts once. -/
mutual
def uptoBulk {H : Type} : DataW H → Nat
  | .lit (.string bytes) => bytes.length + 1
  | .lit _ => 1
  | .nil => 1
  | .ptr d => uptoBulk d + 1
  | .slice elems spare => uptoBulkAll elems + uptoBulkAll spare + 1
  | .agg parts => uptoBulkAll parts + 1
  | .iface _ d => uptoBulk d + 1
  | .map entries => uptoBulkEntries entries + 1
  | .held _ => 1
def uptoBulkAll {H : Type} : List (DataW H) → Nat
  | [] => 0
  | d :: r => uptoBulk d + uptoBulkAll r
def uptoBulkEntries {H : Type} : List (Lit × DataW H) → Nat
  | [] => 0
  | x :: r => uptoBulkEntry x + uptoBulkEntries r
def uptoBulkEntry {H : Type} : Lit × DataW H → Nat
  | (.string bytes, d) => bytes.length + uptoBulk d + 1
  | (_, d) => uptoBulk d + 1
 end
def uptoSmall : (H : Type) → List (DataW H) → Bool := fun _ ds => decide (uptoBulkAll ds ≤ 1048576)
def OpenSpec.upto (s : _root_.Go.ChangeSpec) : _root_.Go.OpenSpec := { _root_.Go.OpenSpec.ofChange s with cond := some uptoSmall }

/-- 'caesuralaw2.UnitsEncodes', WHERE WHAT IT READS IS OF BULK AT MOST 1048576: true; the input reads as it did. -/
def unitsEncodesUptoRow : OpenClaim := { program := "ytfiahgahphammaadoor", sum := "f653a0549e5bccddffa955d562fdd0bbe32c453b6d5e36e85a153fff5f309ce7", func := "caesura/caesuralaw2.UnitsEncodes", spec := "unitsEncodes", named := ["caesura/api.ErrArg", "caesura/api.ErrText", "caesura/api.ErrMany", "caesura/api.ErrShort", "caesura/api.ErrTwice", "caesura/api.ErrOrder", "caesura/api.ErrLost", "caesura/api.ErrCycle", "caesura/api.ErrSum", "caesura/api.ErrForm", "caesura/api.ErrEnd"], apart := false, laid := [("caesura/api.ErrArg", laid_caesura_api_ErrArg), ("caesura/api.ErrText", laid_caesura_api_ErrText), ("caesura/api.ErrMany", laid_caesura_api_ErrMany), ("caesura/api.ErrShort", laid_caesura_api_ErrShort), ("caesura/api.ErrTwice", laid_caesura_api_ErrTwice), ("caesura/api.ErrLost", laid_caesura_api_ErrLost), ("caesura/api.ErrOrder", laid_caesura_api_ErrOrder), ("caesura/api.ErrCycle", laid_caesura_api_ErrCycle), ("caesura/api.ErrSum", laid_caesura_api_ErrSum), ("caesura/api.ErrForm", laid_caesura_api_ErrForm), ("caesura/api.ErrEnd", laid_caesura_api_ErrEnd)], narrowed := true }
def UnitsEncodesUptoSaid : Prop := unitsEncodesUptoRow.holds Tryd.pinned (OpenSpec.upto unitsEncodesSpec)

/-- 'caesuralaw2.UnitsCuts', WHERE WHAT IT READS IS OF BULK AT MOST 1048576: true; the input reads as it did. -/
def unitsCutsUptoRow : OpenClaim := { program := "ytfiahgahphammaadoor", sum := "f653a0549e5bccddffa955d562fdd0bbe32c453b6d5e36e85a153fff5f309ce7", func := "caesura/caesuralaw2.UnitsCuts", spec := "unitsCuts", named := ["caesura/units.forms"], apart := false, laid := [("caesura/units.forms", laid_caesura_units_forms)], narrowed := true }
def UnitsCutsUptoSaid : Prop := unitsCutsUptoRow.holds Tryd.pinned (OpenSpec.upto unitsCutsSpec)

/-- 'caesuralaw2.UnitsSplits', WHERE WHAT IT READS IS OF BULK AT MOST 1048576: true; the input reads as it did. -/
def unitsSplitsUptoRow : OpenClaim := { program := "ytfiahgahphammaadoor", sum := "f653a0549e5bccddffa955d562fdd0bbe32c453b6d5e36e85a153fff5f309ce7", func := "caesura/caesuralaw2.UnitsSplits", spec := "unitsSplits", unfollowed := true, recurses := true, named := ["caesura/units.forms"], apart := false, laid := [("caesura/units.forms", laid_caesura_units_forms)], narrowed := true }
def UnitsSplitsUptoSaid : Prop := unitsSplitsUptoRow.holds Tryd.pinned (OpenSpec.upto unitsSplitsSpec)

/-- 'caesuralaw2.UnitsMemory', WHERE WHAT IT READS IS OF BULK AT MOST 1048576: true; the input reads as it did. -/
def unitsMemoryUptoRow : OpenClaim := { program := "ytfiahgahphammaadoor", sum := "f653a0549e5bccddffa955d562fdd0bbe32c453b6d5e36e85a153fff5f309ce7", func := "caesura/caesuralaw2.UnitsMemory", spec := "unitsMemory", unfollowed := true, recurses := true, named := ["caesura/units.forms"], apart := false, laid := [("caesura/units.forms", laid_caesura_units_forms)], narrowed := true }
def UnitsMemoryUptoSaid : Prop := unitsMemoryUptoRow.holds Tryd.pinned (OpenSpec.upto unitsMemorySpec)

/-- 'caesuralaw2.UnitsSteps', WHERE WHAT IT READS IS OF BULK AT MOST 1048576: true; the input reads as it did. -/
def unitsStepsUptoRow : OpenClaim := { program := "ytfiahgahphammaadoor", sum := "f653a0549e5bccddffa955d562fdd0bbe32c453b6d5e36e85a153fff5f309ce7", func := "caesura/caesuralaw2.UnitsSteps", spec := "unitsSteps", named := ["caesura/units.forms"], apart := false, laid := [("caesura/units.forms", laid_caesura_units_forms)], narrowed := true }
def UnitsStepsUptoSaid : Prop := unitsStepsUptoRow.holds Tryd.pinned (OpenSpec.upto unitsStepsSpec)

/-- 'caesuralaw2.UnitsPieces', WHERE WHAT IT READS IS OF BULK AT MOST 1048576: true; the input reads as it did. -/
def unitsPiecesUptoRow : OpenClaim := { program := "ytfiahgahphammaadoor", sum := "f653a0549e5bccddffa955d562fdd0bbe32c453b6d5e36e85a153fff5f309ce7", func := "caesura/caesuralaw2.UnitsPieces", spec := "unitsPieces", unfollowed := true, recurses := true, named := ["caesura/units.forms"], apart := false, laid := [("caesura/units.forms", laid_caesura_units_forms)], narrowed := true }
def UnitsPiecesUptoSaid : Prop := unitsPiecesUptoRow.holds Tryd.pinned (OpenSpec.upto unitsPiecesSpec)

/-- 'caesuralaw2.UnitsHeld', WHERE WHAT IT READS IS OF BULK AT MOST 1048576: true; the input reads as it did. -/
def unitsHeldUptoRow : OpenClaim := { program := "ytfiahgahphammaadoor", sum := "f653a0549e5bccddffa955d562fdd0bbe32c453b6d5e36e85a153fff5f309ce7", func := "caesura/caesuralaw2.UnitsHeld", spec := "unitsHeld", unfollowed := true, recurses := true, named := ["caesura/units.forms"], apart := false, laid := [("caesura/units.forms", laid_caesura_units_forms)], narrowed := true }
def UnitsHeldUptoSaid : Prop := unitsHeldUptoRow.holds Tryd.pinned (OpenSpec.upto unitsHeldSpec)

/-- 'caesuralaw2.UnitsBack', WHERE WHAT IT READS IS OF BULK AT MOST 1048576: true; the input reads as it did. -/
def unitsBackUptoRow : OpenClaim := { program := "ytfiahgahphammaadoor", sum := "f653a0549e5bccddffa955d562fdd0bbe32c453b6d5e36e85a153fff5f309ce7", func := "caesura/caesuralaw2.UnitsBack", spec := "unitsBack", unfollowed := true, recurses := true, named := ["caesura/api.ErrArg", "caesura/units.forms"], apart := false, laid := [("caesura/api.ErrArg", laid_caesura_api_ErrArg), ("caesura/units.forms", laid_caesura_units_forms)], narrowed := true }
def UnitsBackUptoSaid : Prop := unitsBackUptoRow.holds Tryd.pinned (OpenSpec.upto unitsBackSpec)

/-- 'caesuralaw2.UnitsCover', WHERE WHAT IT READS IS OF BULK AT MOST 1048576: true; the input reads as it did. -/
def unitsCoverUptoRow : OpenClaim := { program := "ytfiahgahphammaadoor", sum := "f653a0549e5bccddffa955d562fdd0bbe32c453b6d5e36e85a153fff5f309ce7", func := "caesura/caesuralaw2.UnitsCover", spec := "unitsCover", unfollowed := true, recurses := true, named := ["caesura/units.forms", "caesura/api.ErrArg"], apart := false, laid := [("caesura/api.ErrArg", laid_caesura_api_ErrArg), ("caesura/units.forms", laid_caesura_units_forms)], narrowed := true }
def UnitsCoverUptoSaid : Prop := unitsCoverUptoRow.holds Tryd.pinned (OpenSpec.upto unitsCoverSpec)

end Rows
end Go.Proofs.YtfiahgahphammaaDoor
