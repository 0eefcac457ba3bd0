/-
  NARROWER THAN 'FOR EVERY INPUT', by the rows' own cells (each row's printed sentence says how): Names: laid · CodecSums: laid · CodecParts: laid · CodecBursts: laid · CodecLike: laid · CodecOne: laid · CodecPlays: laid · CodecBack: laid.
  DERIVED. THE GIVEN ROWS OF THIS SEAT. 8 by the template 'for every input the law returns true; each argument reads behind the call as it read before'; 0 by the template 'total and deterministic' (their statements: YtlhnajgckdeedaaDoorTotals.lean).
  GIVEN WITH THE SEED: the statements are not yours to turn. If you find one false, say at which input.
  Laid BY PROGRAM, IN A SANDBOX (cutbox-rows.mjs): the forced cells as the released guide's own fill.sh prints them over the translation b5169cffe4ed3f37… (all of the seat's roots in one cut). By AI agents, Wed Nov 11 2026. No macro, syntax, notation, axiom, sorry.
-/
import Derived.Test.YtlhnajgckdeedaaDoorChecked
import GoSem.Claim
import GoSem.ClaimJoined
import GoSem.ClaimMapViews
import Derived.JoinedTies
import Derived.KernelRfl
namespace Go.Proofs.YtlhnajgckdeedaaDoor
/- THE CELL 'sum', in the pinned program and in every row, IS THE sha256 OF THE DUMP (.gsa) THAT YtlhnajgckdeedaaDoorProg.lean LOADS. Nothing in Lean hashes anything: it is a label: what it is worth is what the hold of that sum in a sandbox is worth. -/
noncomputable def Tryd.pinned : Pinned := { name := "ytlhnajgckdeedaadoor", sum := "b5169cffe4ed3f37201dcb7965a4489d41472f4c7db652a396aabcde375ea494", checked := Tryd.checked }
namespace Rows
def none {H : Type} : Left H := { results := [], args := [] }

/- WHAT THE LISTED PACKAGE-LEVEL VARIABLES READ AS WHEN THE CALL BEGINS. Each datum BY PROGRAM (the guide's laid-datum.mjs) off the statement by which the dump's own 'gosem.cut.vars' lays the variable. In a bare row this is a premise. The card (YtlhnajgckdeedaaDoorCards.lean) ties it to the program's text. -/
def laid_caesura_api_ErrArg {H : Type} : DataW H := .iface "*errors.errorString" (.ptr (.agg [.lit (.string [97, 32, 110, 117, 109, 98, 101, 114, 32, 111, 114, 32, 97, 110, 32, 97, 114, 103, 117, 109, 101, 110, 116, 32, 105, 115, 32, 111, 117, 116, 32, 111, 102, 32, 105, 116, 115, 32, 112, 108, 97, 99, 101])]))
def laid_caesura_api_ErrText {H : Type} : DataW H := .iface "*errors.errorString" (.ptr (.agg [.lit (.string [97, 32, 116, 101, 120, 116, 32, 111, 114, 32, 98, 121, 116, 101, 115, 32, 116, 104, 97, 116, 32, 99, 97, 110, 110, 111, 116, 32, 98, 101, 32, 114, 101, 97, 100])]))
def laid_caesura_api_ErrMany {H : Type} : DataW H := .iface "*errors.errorString" (.ptr (.agg [.lit (.string [97, 98, 111, 118, 101, 32, 97, 32, 108, 105, 109, 105, 116])]))
def laid_caesura_api_ErrShort {H : Type} : DataW H := .iface "*errors.errorString" (.ptr (.agg [.lit (.string [115, 111, 109, 101, 116, 104, 105, 110, 103, 32, 105, 115, 32, 109, 105, 115, 115, 105, 110, 103])]))
def laid_caesura_api_ErrTwice {H : Type} : DataW H := .iface "*errors.errorString" (.ptr (.agg [.lit (.string [116, 104, 101, 114, 101, 32, 116, 119, 105, 99, 101])]))
def laid_caesura_api_ErrLost {H : Type} : DataW H := .iface "*errors.errorString" (.ptr (.agg [.lit (.string [110, 111, 116, 32, 116, 104, 101, 114, 101])]))
def laid_caesura_api_ErrOrder {H : Type} : DataW H := .iface "*errors.errorString" (.ptr (.agg [.lit (.string [110, 111, 116, 32, 105, 110, 32, 111, 114, 100, 101, 114])]))
def laid_caesura_api_ErrCycle {H : Type} : DataW H := .iface "*errors.errorString" (.ptr (.agg [.lit (.string [103, 111, 101, 115, 32, 114, 111, 117, 110, 100, 32, 105, 110, 32, 97, 32, 99, 105, 114, 99, 108, 101])]))
def laid_caesura_api_ErrSum {H : Type} : DataW H := .iface "*errors.errorString" (.ptr (.agg [.lit (.string [116, 104, 101, 32, 115, 117, 109, 32, 100, 111, 101, 115, 32, 110, 111, 116, 32, 102, 105, 116])]))
def laid_caesura_api_ErrForm {H : Type} : DataW H := .iface "*errors.errorString" (.ptr (.agg [.lit (.string [110, 111, 116, 32, 116, 104, 101, 32, 111, 110, 101, 32, 102, 111, 114, 109, 32, 116, 104, 97, 116, 32, 105, 115, 32, 119, 114, 105, 116, 116, 101, 110])]))
def laid_caesura_api_ErrEnd {H : Type} : DataW H := .iface "*errors.errorString" (.ptr (.agg [.lit (.string [105, 116, 32, 104, 97, 115, 32, 101, 110, 100, 101, 100])]))
def laid_caesura_caesuralaw0_limits {H : Type} : DataW H := .agg [.lit (.int .i64 1114111), .lit (.int .i64 1048576), .lit (.int .i64 62), .lit (.int .i64 32), .lit (.int .i64 65536), .lit (.int .i64 500), .lit (.int .i64 20000), .lit (.int .i64 32), .lit (.int .i64 2000), .lit (.int .i64 64), .lit (.int .i64 16), .lit (.int .i64 64), .lit (.int .i64 64), .lit (.int .i64 32), .lit (.int .i64 4000), .lit (.int .i64 4096), .lit (.int .i64 16384), .lit (.int .i64 16384), .lit (.int .i64 20000), .lit (.int .i64 1048576), .lit (.int .i64 4194304), .lit (.int .i64 1048576), .lit (.int .i64 64), .lit (.int .i64 262144), .lit (.int .i64 16777216)]
def laid_caesura_caesuralaw0_wanted {H : Type} : DataW H := .agg [.lit (.int .i64 1114111), .lit (.int .i64 1048576), .lit (.int .i64 62), .lit (.int .i64 32), .lit (.int .i64 65536), .lit (.int .i64 500), .lit (.int .i64 20000), .lit (.int .i64 32), .lit (.int .i64 2000), .lit (.int .i64 64), .lit (.int .i64 16), .lit (.int .i64 64), .lit (.int .i64 64), .lit (.int .i64 32), .lit (.int .i64 4000), .lit (.int .i64 4096), .lit (.int .i64 16384), .lit (.int .i64 16384), .lit (.int .i64 20000), .lit (.int .i64 1048576), .lit (.int .i64 4194304), .lit (.int .i64 1048576), .lit (.int .i64 64), .lit (.int .i64 262144), .lit (.int .i64 16777216)]
def laid_caesura_caesuralaw0_kinds {H : Type} : DataW H := .agg [.lit (.int .i64 (-1)), .lit (.int .i64 (-1)), .lit (.int .i64 1), .lit (.int .i64 2), .lit (.int .i64 3), .lit (.int .i64 4), .lit (.int .i64 5), .lit (.int .i64 6), .lit (.int .i64 7), .lit (.int .i64 1), .lit (.int .i64 2)]
def laid_caesura_caesuralaw0_numbers {H : Type} : DataW H := .agg [.lit (.int .i64 (-1)), .lit (.int .i64 (-1)), .lit (.int .i64 1), .lit (.int .i64 2), .lit (.int .i64 3), .lit (.int .i64 4), .lit (.int .i64 5), .lit (.int .i64 6), .lit (.int .i64 7), .lit (.int .i64 1), .lit (.int .i64 2)]
def laid_caesura_codec_table {H : Type} : DataW H := .agg [.lit (.int .u32 0), .lit (.int .u32 498536548), .lit (.int .u32 997073096), .lit (.int .u32 651767980), .lit (.int .u32 1994146192), .lit (.int .u32 1802195444), .lit (.int .u32 1303535960), .lit (.int .u32 1342533948), .lit (.int .u32 3988292384), .lit (.int .u32 4027552580), .lit (.int .u32 3604390888), .lit (.int .u32 3412177804), .lit (.int .u32 2607071920), .lit (.int .u32 2262029012), .lit (.int .u32 2685067896), .lit (.int .u32 3183342108)]

/-- 'caesuralaw0.Names': WHATEVER THE INPUT: true; the input reads as it did. -/
def namesSpec : ChangeSpec := { name := "names", fn := fun _ => fun
  | [] => { results := [.lit (.bool true)], args := [] }
  | _ => none }
def namesRow : OpenClaim := { program := "ytlhnajgckdeedaadoor", sum := "b5169cffe4ed3f37201dcb7965a4489d41472f4c7db652a396aabcde375ea494", func := "caesura/caesuralaw0.Names", spec := "names", named := ["caesura/caesuralaw0.limits", "caesura/caesuralaw0.wanted", "caesura/caesuralaw0.kinds", "caesura/caesuralaw0.numbers", "caesura/api.ErrArg", "caesura/api.ErrText", "caesura/api.ErrMany", "caesura/api.ErrShort", "caesura/api.ErrTwice", "caesura/api.ErrOrder", "caesura/api.ErrLost", "caesura/api.ErrCycle", "caesura/api.ErrSum", "caesura/api.ErrForm", "caesura/api.ErrEnd"], apart := false, laid := [("caesura/api.ErrArg", laid_caesura_api_ErrArg), ("caesura/api.ErrText", laid_caesura_api_ErrText), ("caesura/api.ErrMany", laid_caesura_api_ErrMany), ("caesura/api.ErrShort", laid_caesura_api_ErrShort), ("caesura/api.ErrTwice", laid_caesura_api_ErrTwice), ("caesura/api.ErrLost", laid_caesura_api_ErrLost), ("caesura/api.ErrOrder", laid_caesura_api_ErrOrder), ("caesura/api.ErrCycle", laid_caesura_api_ErrCycle), ("caesura/api.ErrSum", laid_caesura_api_ErrSum), ("caesura/api.ErrForm", laid_caesura_api_ErrForm), ("caesura/api.ErrEnd", laid_caesura_api_ErrEnd), ("caesura/caesuralaw0.limits", laid_caesura_caesuralaw0_limits), ("caesura/caesuralaw0.wanted", laid_caesura_caesuralaw0_wanted), ("caesura/caesuralaw0.kinds", laid_caesura_caesuralaw0_kinds), ("caesura/caesuralaw0.numbers", laid_caesura_caesuralaw0_numbers)] }
def NamesSaid : Prop := namesRow.holds Tryd.pinned (OpenSpec.ofChange namesSpec)

/-- ITS FALSE NEIGHBOUR: 'it returns false'. Refute it at one input. -/
def namesWrong : ChangeSpec := { name := "names", fn := fun _ => fun
  | [] => { results := [.lit (.bool false)], args := [] }
  | _ => none }
def NamesWrongFalsely : Prop := namesRow.holds Tryd.pinned (OpenSpec.ofChange namesWrong)

/-- 'caesuralaw1.CodecSums': WHATEVER THE INPUT: true; the input reads as it did. -/
def codecSumsSpec : ChangeSpec := { name := "codecSums", fn := fun _ => fun
  | [d] => { results := [.lit (.bool true)], args := [d] }
  | _ => none }
def codecSumsRow : OpenClaim := { program := "ytlhnajgckdeedaadoor", sum := "b5169cffe4ed3f37201dcb7965a4489d41472f4c7db652a396aabcde375ea494", func := "caesura/caesuralaw1.CodecSums", spec := "codecSums", named := ["caesura/codec.table"], apart := false, laid := [("caesura/codec.table", laid_caesura_codec_table)] }
def CodecSumsSaid : Prop := codecSumsRow.holds Tryd.pinned (OpenSpec.ofChange codecSumsSpec)

/-- ITS FALSE NEIGHBOUR: 'it returns false'. Refute it at one input. -/
def codecSumsWrong : ChangeSpec := { name := "codecSums", fn := fun _ => fun
  | [d] => { results := [.lit (.bool false)], args := [d] }
  | _ => none }
def CodecSumsWrongFalsely : Prop := codecSumsRow.holds Tryd.pinned (OpenSpec.ofChange codecSumsWrong)

/-- 'caesuralaw1.CodecParts': WHATEVER THE INPUT: true; the input reads as it did. -/
def codecPartsSpec : ChangeSpec := { name := "codecParts", fn := fun _ => fun
  | [d] => { results := [.lit (.bool true)], args := [d] }
  | _ => none }
def codecPartsRow : OpenClaim := { program := "ytlhnajgckdeedaadoor", sum := "b5169cffe4ed3f37201dcb7965a4489d41472f4c7db652a396aabcde375ea494", func := "caesura/caesuralaw1.CodecParts", spec := "codecParts", inPlace := ["internal/abi.NoEscape"], named := ["caesura/codec.table", "caesura/api.ErrArg"], apart := false, laid := [("caesura/api.ErrArg", laid_caesura_api_ErrArg), ("caesura/codec.table", laid_caesura_codec_table)] }
def CodecPartsSaid : Prop := codecPartsRow.holds Tryd.pinned (OpenSpec.ofChange codecPartsSpec)

/-- ITS FALSE NEIGHBOUR: 'it returns false'. Refute it at one input. -/
def codecPartsWrong : ChangeSpec := { name := "codecParts", fn := fun _ => fun
  | [d] => { results := [.lit (.bool false)], args := [d] }
  | _ => none }
def CodecPartsWrongFalsely : Prop := codecPartsRow.holds Tryd.pinned (OpenSpec.ofChange codecPartsWrong)

/-- 'caesuralaw1.CodecBursts': WHATEVER THE INPUT: true; the input reads as it did. -/
def codecBurstsSpec : ChangeSpec := { name := "codecBursts", fn := fun _ => fun
  | [d] => { results := [.lit (.bool true)], args := [d] }
  | _ => none }
def codecBurstsRow : OpenClaim := { program := "ytlhnajgckdeedaadoor", sum := "b5169cffe4ed3f37201dcb7965a4489d41472f4c7db652a396aabcde375ea494", func := "caesura/caesuralaw1.CodecBursts", spec := "codecBursts", inPlace := ["internal/abi.NoEscape"], named := ["caesura/codec.table", "caesura/api.ErrArg"], apart := false, laid := [("caesura/api.ErrArg", laid_caesura_api_ErrArg), ("caesura/codec.table", laid_caesura_codec_table)] }
def CodecBurstsSaid : Prop := codecBurstsRow.holds Tryd.pinned (OpenSpec.ofChange codecBurstsSpec)

/-- ITS FALSE NEIGHBOUR: 'it returns false'. Refute it at one input. -/
def codecBurstsWrong : ChangeSpec := { name := "codecBursts", fn := fun _ => fun
  | [d] => { results := [.lit (.bool false)], args := [d] }
  | _ => none }
def CodecBurstsWrongFalsely : Prop := codecBurstsRow.holds Tryd.pinned (OpenSpec.ofChange codecBurstsWrong)

/-- 'caesuralaw1.CodecLike': WHATEVER THE INPUT: true; the input reads as it did. -/
def codecLikeSpec : ChangeSpec := { name := "codecLike", fn := fun _ => fun
  | [d] => { results := [.lit (.bool true)], args := [d] }
  | _ => none }
def codecLikeRow : OpenClaim := { program := "ytlhnajgckdeedaadoor", sum := "b5169cffe4ed3f37201dcb7965a4489d41472f4c7db652a396aabcde375ea494", func := "caesura/caesuralaw1.CodecLike", spec := "codecLike", inPlace := ["internal/abi.NoEscape"], named := ["caesura/codec.table", "caesura/api.ErrArg"], apart := false, laid := [("caesura/api.ErrArg", laid_caesura_api_ErrArg), ("caesura/codec.table", laid_caesura_codec_table)] }
def CodecLikeSaid : Prop := codecLikeRow.holds Tryd.pinned (OpenSpec.ofChange codecLikeSpec)

/-- ITS FALSE NEIGHBOUR: 'it returns false'. Refute it at one input. -/
def codecLikeWrong : ChangeSpec := { name := "codecLike", fn := fun _ => fun
  | [d] => { results := [.lit (.bool false)], args := [d] }
  | _ => none }
def CodecLikeWrongFalsely : Prop := codecLikeRow.holds Tryd.pinned (OpenSpec.ofChange codecLikeWrong)

/-- 'caesuralaw1.CodecOne': WHATEVER THE INPUT: true; the input reads as it did. -/
def codecOneSpec : ChangeSpec := { name := "codecOne", fn := fun _ => fun
  | [d] => { results := [.lit (.bool true)], args := [d] }
  | _ => none }
def codecOneRow : OpenClaim := { program := "ytlhnajgckdeedaadoor", sum := "b5169cffe4ed3f37201dcb7965a4489d41472f4c7db652a396aabcde375ea494", func := "caesura/caesuralaw1.CodecOne", spec := "codecOne", inPlace := ["internal/abi.NoEscape"], named := ["caesura/codec.table", "caesura/api.ErrArg", "caesura/api.ErrShort", "caesura/api.ErrForm"], apart := false, laid := [("caesura/api.ErrArg", laid_caesura_api_ErrArg), ("caesura/api.ErrShort", laid_caesura_api_ErrShort), ("caesura/api.ErrForm", laid_caesura_api_ErrForm), ("caesura/codec.table", laid_caesura_codec_table)] }
def CodecOneSaid : Prop := codecOneRow.holds Tryd.pinned (OpenSpec.ofChange codecOneSpec)

/-- ITS FALSE NEIGHBOUR: 'it returns false'. Refute it at one input. -/
def codecOneWrong : ChangeSpec := { name := "codecOne", fn := fun _ => fun
  | [d] => { results := [.lit (.bool false)], args := [d] }
  | _ => none }
def CodecOneWrongFalsely : Prop := codecOneRow.holds Tryd.pinned (OpenSpec.ofChange codecOneWrong)

/-- 'caesuralaw1.CodecPlays': WHATEVER THE INPUT: true; the input reads as it did. -/
def codecPlaysSpec : ChangeSpec := { name := "codecPlays", fn := fun _ => fun
  | [d] => { results := [.lit (.bool true)], args := [d] }
  | _ => none }
def codecPlaysRow : OpenClaim := { program := "ytlhnajgckdeedaadoor", sum := "b5169cffe4ed3f37201dcb7965a4489d41472f4c7db652a396aabcde375ea494", func := "caesura/caesuralaw1.CodecPlays", spec := "codecPlays", inPlace := ["internal/abi.NoEscape"], named := ["caesura/api.ErrArg", "caesura/api.ErrText", "caesura/api.ErrMany", "caesura/api.ErrShort", "caesura/api.ErrTwice", "caesura/api.ErrOrder", "caesura/api.ErrLost", "caesura/api.ErrCycle", "caesura/api.ErrSum", "caesura/api.ErrForm", "caesura/api.ErrEnd"], apart := false, laid := [("caesura/api.ErrArg", laid_caesura_api_ErrArg), ("caesura/api.ErrText", laid_caesura_api_ErrText), ("caesura/api.ErrMany", laid_caesura_api_ErrMany), ("caesura/api.ErrShort", laid_caesura_api_ErrShort), ("caesura/api.ErrTwice", laid_caesura_api_ErrTwice), ("caesura/api.ErrLost", laid_caesura_api_ErrLost), ("caesura/api.ErrOrder", laid_caesura_api_ErrOrder), ("caesura/api.ErrCycle", laid_caesura_api_ErrCycle), ("caesura/api.ErrSum", laid_caesura_api_ErrSum), ("caesura/api.ErrForm", laid_caesura_api_ErrForm), ("caesura/api.ErrEnd", laid_caesura_api_ErrEnd)] }
def CodecPlaysSaid : Prop := codecPlaysRow.holds Tryd.pinned (OpenSpec.ofChange codecPlaysSpec)

/-- ITS FALSE NEIGHBOUR: 'it returns false'. Refute it at one input. -/
def codecPlaysWrong : ChangeSpec := { name := "codecPlays", fn := fun _ => fun
  | [d] => { results := [.lit (.bool false)], args := [d] }
  | _ => none }
def CodecPlaysWrongFalsely : Prop := codecPlaysRow.holds Tryd.pinned (OpenSpec.ofChange codecPlaysWrong)

/-- 'caesuralaw1.CodecBack': WHATEVER THE INPUT: true; the input reads as it did. -/
def codecBackSpec : ChangeSpec := { name := "codecBack", fn := fun _ => fun
  | [d] => { results := [.lit (.bool true)], args := [d] }
  | _ => none }
def codecBackRow : OpenClaim := { program := "ytlhnajgckdeedaadoor", sum := "b5169cffe4ed3f37201dcb7965a4489d41472f4c7db652a396aabcde375ea494", func := "caesura/caesuralaw1.CodecBack", spec := "codecBack", inPlace := ["internal/abi.NoEscape"], named := ["caesura/codec.table", "caesura/api.ErrArg", "caesura/api.ErrMany", "caesura/api.ErrShort", "caesura/api.ErrForm"], apart := false, laid := [("caesura/api.ErrArg", laid_caesura_api_ErrArg), ("caesura/api.ErrMany", laid_caesura_api_ErrMany), ("caesura/api.ErrShort", laid_caesura_api_ErrShort), ("caesura/api.ErrForm", laid_caesura_api_ErrForm), ("caesura/codec.table", laid_caesura_codec_table)] }
def CodecBackSaid : Prop := codecBackRow.holds Tryd.pinned (OpenSpec.ofChange codecBackSpec)

/-- ITS FALSE NEIGHBOUR: 'it returns false'. Refute it at one input. -/
def codecBackWrong : ChangeSpec := { name := "codecBack", fn := fun _ => fun
  | [d] => { results := [.lit (.bool false)], args := [d] }
  | _ => none }
def CodecBackWrongFalsely : Prop := codecBackRow.holds Tryd.pinned (OpenSpec.ofChange codecBackWrong)

/- THE SECOND FORM. 'bulk': how many values and letters a reading holds, each counted each time it is reached (what is shared counts as often as it is met; a slice's spare places count too). A statement '..UptoSaid' is the law's where the arguments, and the package variables that the reading takes, are together of bulk at most 1048576: NARROWER than '..Said'. Prove '..Said' where nothing that the law and all that it calls make is longer than what came in: it says more and counts as full. Else prove '..UptoSaid'. A law counts once. -/
mutual
def uptoBulk {H : Type} : DataW H → Nat
  | .lit (.string bytes) => bytes.length + 1
  | .lit _ => 1
  | .nil => 1
  | .ptr d => uptoBulk d + 1
  | .slice elems spare => uptoBulkAll elems + uptoBulkAll spare + 1
  | .agg parts => uptoBulkAll parts + 1
  | .iface _ d => uptoBulk d + 1
  | .map entries => uptoBulkEntries entries + 1
  | .held _ => 1
def uptoBulkAll {H : Type} : List (DataW H) → Nat
  | [] => 0
  | d :: r => uptoBulk d + uptoBulkAll r
def uptoBulkEntries {H : Type} : List (Lit × DataW H) → Nat
  | [] => 0
  | x :: r => uptoBulkEntry x + uptoBulkEntries r
def uptoBulkEntry {H : Type} : Lit × DataW H → Nat
  | (.string bytes, d) => bytes.length + uptoBulk d + 1
  | (_, d) => uptoBulk d + 1
 end
def uptoSmall : (H : Type) → List (DataW H) → Bool := fun _ ds => decide (uptoBulkAll ds ≤ 1048576)
def OpenSpec.upto (s : _root_.Go.ChangeSpec) : _root_.Go.OpenSpec := { _root_.Go.OpenSpec.ofChange s with cond := some uptoSmall }

/-- 'caesuralaw0.Names', WHERE WHAT IT READS IS OF BULK AT MOST 1048576: true; the input reads as it did. -/
def namesUptoRow : OpenClaim := { program := "ytlhnajgckdeedaadoor", sum := "b5169cffe4ed3f37201dcb7965a4489d41472f4c7db652a396aabcde375ea494", func := "caesura/caesuralaw0.Names", spec := "names", named := ["caesura/caesuralaw0.limits", "caesura/caesuralaw0.wanted", "caesura/caesuralaw0.kinds", "caesura/caesuralaw0.numbers", "caesura/api.ErrArg", "caesura/api.ErrText", "caesura/api.ErrMany", "caesura/api.ErrShort", "caesura/api.ErrTwice", "caesura/api.ErrOrder", "caesura/api.ErrLost", "caesura/api.ErrCycle", "caesura/api.ErrSum", "caesura/api.ErrForm", "caesura/api.ErrEnd"], apart := false, laid := [("caesura/api.ErrArg", laid_caesura_api_ErrArg), ("caesura/api.ErrText", laid_caesura_api_ErrText), ("caesura/api.ErrMany", laid_caesura_api_ErrMany), ("caesura/api.ErrShort", laid_caesura_api_ErrShort), ("caesura/api.ErrTwice", laid_caesura_api_ErrTwice), ("caesura/api.ErrLost", laid_caesura_api_ErrLost), ("caesura/api.ErrOrder", laid_caesura_api_ErrOrder), ("caesura/api.ErrCycle", laid_caesura_api_ErrCycle), ("caesura/api.ErrSum", laid_caesura_api_ErrSum), ("caesura/api.ErrForm", laid_caesura_api_ErrForm), ("caesura/api.ErrEnd", laid_caesura_api_ErrEnd), ("caesura/caesuralaw0.limits", laid_caesura_caesuralaw0_limits), ("caesura/caesuralaw0.wanted", laid_caesura_caesuralaw0_wanted), ("caesura/caesuralaw0.kinds", laid_caesura_caesuralaw0_kinds), ("caesura/caesuralaw0.numbers", laid_caesura_caesuralaw0_numbers)], narrowed := true }
def NamesUptoSaid : Prop := namesUptoRow.holds Tryd.pinned (OpenSpec.upto namesSpec)

/-- 'caesuralaw1.CodecSums', WHERE WHAT IT READS IS OF BULK AT MOST 1048576: true; the input reads as it did. -/
def codecSumsUptoRow : OpenClaim := { program := "ytlhnajgckdeedaadoor", sum := "b5169cffe4ed3f37201dcb7965a4489d41472f4c7db652a396aabcde375ea494", func := "caesura/caesuralaw1.CodecSums", spec := "codecSums", named := ["caesura/codec.table"], apart := false, laid := [("caesura/codec.table", laid_caesura_codec_table)], narrowed := true }
def CodecSumsUptoSaid : Prop := codecSumsUptoRow.holds Tryd.pinned (OpenSpec.upto codecSumsSpec)

/-- 'caesuralaw1.CodecParts', WHERE WHAT IT READS IS OF BULK AT MOST 1048576: true; the input reads as it did. -/
def codecPartsUptoRow : OpenClaim := { program := "ytlhnajgckdeedaadoor", sum := "b5169cffe4ed3f37201dcb7965a4489d41472f4c7db652a396aabcde375ea494", func := "caesura/caesuralaw1.CodecParts", spec := "codecParts", inPlace := ["internal/abi.NoEscape"], named := ["caesura/codec.table", "caesura/api.ErrArg"], apart := false, laid := [("caesura/api.ErrArg", laid_caesura_api_ErrArg), ("caesura/codec.table", laid_caesura_codec_table)], narrowed := true }
def CodecPartsUptoSaid : Prop := codecPartsUptoRow.holds Tryd.pinned (OpenSpec.upto codecPartsSpec)

/-- 'caesuralaw1.CodecBursts', WHERE WHAT IT READS IS OF BULK AT MOST 1048576: true; the input reads as it did. -/
def codecBurstsUptoRow : OpenClaim := { program := "ytlhnajgckdeedaadoor", sum := "b5169cffe4ed3f37201dcb7965a4489d41472f4c7db652a396aabcde375ea494", func := "caesura/caesuralaw1.CodecBursts", spec := "codecBursts", inPlace := ["internal/abi.NoEscape"], named := ["caesura/codec.table", "caesura/api.ErrArg"], apart := false, laid := [("caesura/api.ErrArg", laid_caesura_api_ErrArg), ("caesura/codec.table", laid_caesura_codec_table)], narrowed := true }
def CodecBurstsUptoSaid : Prop := codecBurstsUptoRow.holds Tryd.pinned (OpenSpec.upto codecBurstsSpec)

/-- 'caesuralaw1.CodecLike', WHERE WHAT IT READS IS OF BULK AT MOST 1048576: true; the input reads as it did. -/
def codecLikeUptoRow : OpenClaim := { program := "ytlhnajgckdeedaadoor", sum := "b5169cffe4ed3f37201dcb7965a4489d41472f4c7db652a396aabcde375ea494", func := "caesura/caesuralaw1.CodecLike", spec := "codecLike", inPlace := ["internal/abi.NoEscape"], named := ["caesura/codec.table", "caesura/api.ErrArg"], apart := false, laid := [("caesura/api.ErrArg", laid_caesura_api_ErrArg), ("caesura/codec.table", laid_caesura_codec_table)], narrowed := true }
def CodecLikeUptoSaid : Prop := codecLikeUptoRow.holds Tryd.pinned (OpenSpec.upto codecLikeSpec)

/-- 'caesuralaw1.CodecOne', WHERE WHAT IT READS IS OF BULK AT MOST 1048576: true; the input reads as it did. -/
def codecOneUptoRow : OpenClaim := { program := "ytlhnajgckdeedaadoor", sum := "b5169cffe4ed3f37201dcb7965a4489d41472f4c7db652a396aabcde375ea494", func := "caesura/caesuralaw1.CodecOne", spec := "codecOne", inPlace := ["internal/abi.NoEscape"], named := ["caesura/codec.table", "caesura/api.ErrArg", "caesura/api.ErrShort", "caesura/api.ErrForm"], apart := false, laid := [("caesura/api.ErrArg", laid_caesura_api_ErrArg), ("caesura/api.ErrShort", laid_caesura_api_ErrShort), ("caesura/api.ErrForm", laid_caesura_api_ErrForm), ("caesura/codec.table", laid_caesura_codec_table)], narrowed := true }
def CodecOneUptoSaid : Prop := codecOneUptoRow.holds Tryd.pinned (OpenSpec.upto codecOneSpec)

/-- 'caesuralaw1.CodecPlays', WHERE WHAT IT READS IS OF BULK AT MOST 1048576: true; the input reads as it did. -/
def codecPlaysUptoRow : OpenClaim := { program := "ytlhnajgckdeedaadoor", sum := "b5169cffe4ed3f37201dcb7965a4489d41472f4c7db652a396aabcde375ea494", func := "caesura/caesuralaw1.CodecPlays", spec := "codecPlays", inPlace := ["internal/abi.NoEscape"], named := ["caesura/api.ErrArg", "caesura/api.ErrText", "caesura/api.ErrMany", "caesura/api.ErrShort", "caesura/api.ErrTwice", "caesura/api.ErrOrder", "caesura/api.ErrLost", "caesura/api.ErrCycle", "caesura/api.ErrSum", "caesura/api.ErrForm", "caesura/api.ErrEnd"], apart := false, laid := [("caesura/api.ErrArg", laid_caesura_api_ErrArg), ("caesura/api.ErrText", laid_caesura_api_ErrText), ("caesura/api.ErrMany", laid_caesura_api_ErrMany), ("caesura/api.ErrShort", laid_caesura_api_ErrShort), ("caesura/api.ErrTwice", laid_caesura_api_ErrTwice), ("caesura/api.ErrLost", laid_caesura_api_ErrLost), ("caesura/api.ErrOrder", laid_caesura_api_ErrOrder), ("caesura/api.ErrCycle", laid_caesura_api_ErrCycle), ("caesura/api.ErrSum", laid_caesura_api_ErrSum), ("caesura/api.ErrForm", laid_caesura_api_ErrForm), ("caesura/api.ErrEnd", laid_caesura_api_ErrEnd)], narrowed := true }
def CodecPlaysUptoSaid : Prop := codecPlaysUptoRow.holds Tryd.pinned (OpenSpec.upto codecPlaysSpec)

/-- 'caesuralaw1.CodecBack', WHERE WHAT IT READS IS OF BULK AT MOST 1048576: true; the input reads as it did. -/
def codecBackUptoRow : OpenClaim := { program := "ytlhnajgckdeedaadoor", sum := "b5169cffe4ed3f37201dcb7965a4489d41472f4c7db652a396aabcde375ea494", func := "caesura/caesuralaw1.CodecBack", spec := "codecBack", inPlace := ["internal/abi.NoEscape"], named := ["caesura/codec.table", "caesura/api.ErrArg", "caesura/api.ErrMany", "caesura/api.ErrShort", "caesura/api.ErrForm"], apart := false, laid := [("caesura/api.ErrArg", laid_caesura_api_ErrArg), ("caesura/api.ErrMany", laid_caesura_api_ErrMany), ("caesura/api.ErrShort", laid_caesura_api_ErrShort), ("caesura/api.ErrForm", laid_caesura_api_ErrForm), ("caesura/codec.table", laid_caesura_codec_table)], narrowed := true }
def CodecBackUptoSaid : Prop := codecBackUptoRow.holds Tryd.pinned (OpenSpec.upto codecBackSpec)

end Rows
end Go.Proofs.YtlhnajgckdeedaaDoor
