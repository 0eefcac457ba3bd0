/-
caesuralaw0.Names answers true in whatever world in which the listed variables read as listed; the card ties the list to the program's text. Conditions: those of the row alone.
-/
import Derived.Test.YtlhnajgckdeedaaDoorCards
import Derived.Test.YtlhnajgckdeedaaDoorTie
import Derived.Test.YtlhnajgckdeedaaDoorNamesW
import Derived.WalkKit
import Derived.ProofKit
import Derived.OpenShut
import Derived.Deep.DeepHandedRow
import Derived.Deep.DeepWitnessRowRef
import Derived.LaidMore
import Derived.LaidHandle
import Derived.MakeChecks
namespace Go.Proofs.YtlhnajgckdeedaaDoor.names
open Go.ChangeShapes Go.WideShapes Go.ChangeAt Go.RowKit
theorem own : ownKnob Tryd.prog.godebug = none := by kernel_rfl

theorem laid_met (os : Os) (args : Array Value) : laidMetH Tryd.prog Rows.namesRow.laid ((World.doorLaid Tryd.prog 243 os).forCall (fun _ _ => 0) ⟨#[], args, []⟩).memory :=
  laidMetH_of_parts3 (fuel := 8) (laidMet_of_run' 8 (by kernel_rfl) (by kernel_rfl)) (by kernel_rfl) (by kernel_rfl)
theorem reads (os : Os) {H : Type} (enc : TypeId × Value → H) : ∃ places, DataW.whole enc Tryd.prog ((World.doorLaid Tryd.prog 243 os).forCall (fun _ _ => 0) ⟨#[], #[], []⟩).memory Tryd.f3.params.toList Rows.namesSpec.vars false (#[] : Array Value).toList 8 = some ([], [], places) :=
  ⟨[], by kernel_rfl⟩
theorem wit (os : Os) {H : Type} (enc : TypeId × Value → H) : ∃ (w : World) (tape : Tape) (i : Input), w.os = os ∧ (w.forCall tape i).Shaped Tryd.checked.prog ∧ i.vars = [] ∧ Input.okWide Tryd.checked.prog (w.forCall tape i) .any w.heap.size 3 i ∧
      (OpenSpec.ofChange Rows.namesSpec).preRow enc Tryd.checked.prog Tryd.f3 Rows.namesRow.domain false Rows.namesRow.laid (w.forCall tape i).memory i.args ∧ ({ modest := false } : Assume).holds Tryd.checked.prog (lone (Frame.enter Tryd.checked.prog 3 i.args .normal) [] (w.forCall tape i)) := by
  obtain ⟨places, hx⟩ := reads os enc
  exact witness_row_atRef (enc := enc) (C := Tryd.checked) false (World.doorLaid Tryd.prog 243 os) #[] rfl (by kernel_rfl) (by kernel_rfl) (by kernel_rfl)
    (OpenSpec.preRow_of_cond 8 hx (by kernel_rfl) (fun k hk => by cases hk) (by kernel_rfl) (laid_met os _))

theorem limits_list {H : Type} : (Rows.laid_caesura_caesuralaw0_limits : DataW H) = Lib.tabData .i64 [1114111, 1048576, 62, 32, 65536, 500, 20000, 32, 2000, 64, 16, 64, 64, 32, 4000, 4096, 16384, 16384, 20000, 1048576, 4194304, 1048576, 64, 262144, 16777216] := rfl

theorem gs {W : World} (h : laidMet Tryd.prog Rows.namesRow.laid W) : ∃ E, GS allS E W := by
  refine gs_of h allS ?_
  intro g hg
  simp only [allS, List.mem_cons, List.not_mem_nil, or_false] at hg
  rcases hg with rfl | rfl | rfl | rfl | rfl | rfl | rfl | rfl | rfl | rfl | rfl
  · exact ⟨0, _, _, rfl, by kernel_rfl, by kernel_rfl⟩
  · exact ⟨1, _, _, rfl, by kernel_rfl, by kernel_rfl⟩
  · exact ⟨2, _, _, rfl, by kernel_rfl, by kernel_rfl⟩
  · exact ⟨3, _, _, rfl, by kernel_rfl, by kernel_rfl⟩
  · exact ⟨4, _, _, rfl, by kernel_rfl, by kernel_rfl⟩
  · exact ⟨6, _, _, rfl, by kernel_rfl, by kernel_rfl⟩
  · exact ⟨5, _, _, rfl, by kernel_rfl, by kernel_rfl⟩
  · exact ⟨7, _, _, rfl, by kernel_rfl, by kernel_rfl⟩
  · exact ⟨8, _, _, rfl, by kernel_rfl, by kernel_rfl⟩
  · exact ⟨9, _, _, rfl, by kernel_rfl, by kernel_rfl⟩
  · exact ⟨10, _, _, rfl, by kernel_rfl, by kernel_rfl⟩

def zs : List Int := [1114111, 1048576, 62, 32, 65536, 500, 20000, 32, 2000, 64, 16, 64, 64, 32, 4000, 4096, 16384, 16384, 20000, 1048576, 4194304, 1048576, 64, 262144, 16777216]
def ks : List Int := [-1, -1, 1, 2, 3, 4, 5, 6, 7, 1, 2]

theorem contract (H : Type) (enc : TypeId × Value → H) (W : World) (args : Array Value) (ds gs : List (DataW H)) (before : List MemPlace)
    (hW : DataW.Whole enc Tryd.prog Tryd.f3.params.toList Rows.namesSpec.vars false W args.toList ds gs before) (hL : laidMetH Tryd.prog Rows.namesRow.laid W) :
    Calls Tryd.prog 3 args W fun e W' => ∃ v, e = .returned v ∧ Rows.namesSpec.post enc Tryd.prog Tryd.f3 false true false false W args v W' := by
  have hL' : laidMet Tryd.prog Rows.namesRow.laid W := by rw [MakeChecks.laidMetH_plain _ _ _ (by kernel_rfl)] at hL; exact hL
  have hW' := hW
  obtain ⟨p, q, hA0, hV, rfl, hfz, hnd⟩ := hW
  have hA : DataW.TrodAll enc Tryd.prog W 0 (fun _ => true) true Tryd.f3.params.toList args.toList ds p := hA0
  rw [Tryd.params3] at hA
  obtain ⟨hargs, rfl, rfl⟩ := trodAll_nil hA
  obtain rfl : args = #[] := by cases args; simp_all
  obtain ⟨rfl, rfl⟩ := trodVars_none hV
  clear hA0
  simp only [List.append_nil] at hW'
  obtain ⟨E, hE⟩ := names.gs hL'
  have h0 : TabAt 0 zs W := tab_of hL' (i := 11) (k := .i64) (zs := zs) rfl (by kernel_rfl) (by kernel_rfl) Tryd.underlying23 Tryd.underlying3 (by kernel_rfl) (by kernel_rfl)
  have h1 : TabAt 1 zs W := tab_of hL' (i := 12) (k := .i64) (zs := zs) rfl (by kernel_rfl) (by kernel_rfl) Tryd.underlying23 Tryd.underlying3 (by kernel_rfl) (by kernel_rfl)
  have h2 : TabAt 2 ks W := tab_of hL' (i := 13) (k := .i64) (zs := ks) rfl (by kernel_rfl) (by kernel_rfl) Tryd.underlying24 Tryd.underlying3 (by kernel_rfl) (by kernel_rfl)
  have h3 : TabAt 3 ks W := tab_of hL' (i := 14) (k := .i64) (zs := ks) rfl (by kernel_rfl) (by kernel_rfl) Tryd.underlying24 Tryd.underlying3 (by kernel_rfl) (by kernel_rfl)
  refine (names_any E zs ks rfl rfl W hE h0 h1 h2 h3).mono fun e W' ⟨he, bel⟩ => ?_
  subst he
  exact ⟨_, rfl, _, _, _, [], _, [], hW', trodAll_mk1 (shut_bool Tryd.underlying4 _), trodAll_mk0, rfl, bel.frame _, fun h => by cases h⟩

set_option maxRecDepth 100000 in
theorem lifted (os : Os) (started : os.Started) (H : Type) (enc : TypeId × Value → H) (F : Stop.Interp) :
    ReturnsInHanded {} Tryd.checked os 3 .any ((OpenSpec.ofChange Rows.namesSpec).preRow enc Tryd.prog Tryd.f3 Rows.namesRow.domain false Rows.namesRow.laid) (((OpenSpec.ofChange Rows.namesSpec).at F).post enc Tryd.prog Tryd.f3 false true false false) := by
  refine returnsInHanded_of_row (C := Tryd.checked) (s := OpenSpec.ofChange Rows.namesSpec) own started (by kernel_rfl) Tryd.func3 (wit os enc) ?_
  intro W base args ds gs before hval hW _ _ _ hL _ _
  exact contract H enc W args ds gs before hW hL

theorem said : Rows.NamesSaid :=
  OpenClaim.holds_of_cond 3 Tryd.f3 rfl rfl rfl rfl rfl rfl rfl ⟨rfl, rfl, rfl, rfl, rfl⟩ rfl rfl rfl rfl rfl (by kernel_rfl) Tryd.func3 (by kernel_rfl)
    (of_decide_eq_true (by kernel_rfl)) (by unfold Func.isWrapper; first | (rw [if_pos (by decide +kernel)]; kernel_rfl) | (rw [if_neg (by decide +kernel)]; exact ⟨rfl, rfl⟩))
    (fun os started H enc _ F => by rw [OpenClaim.pre_eq_preRow]; exact lifted os started H enc F)

theorem plain (f : FuncId) (fn : Func) (hf : Tryd.pinned.checked.prog.funcNamed "caesura/caesuralaw0.Names" = some f) (hfn : Tryd.pinned.checked.prog.funcs[f]? = some fn) :
    true = Tryd.pinned.checked.prog.looks [] ∧ ∀ (j : Nat) t, fn.params[j]? = some t → Tryd.pinned.checked.prog.wantsStandIn t = false := by
  obtain rfl : f = 3 := Option.some.inj ((show Tryd.prog.funcNamed "caesura/caesuralaw0.Names" = some 3 by kernel_rfl).symm.trans hf) |>.symm
  obtain rfl : fn = Tryd.f3 := (Option.some.inj (Tryd.func3.symm.trans hfn)).symm
  refine ⟨by kernel_rfl, fun j t ht => ?_⟩
  rw [Tryd.params3] at ht
  simp at ht

theorem card : Rows.NamesCardSaid :=
  Claim7.holds_tied_plain_at .later [] _ _ _ _ said (fun _ h => by cases h) (by kernel_rfl) (fun _ h => by cases h) names_row_tie rfl ⟨rfl, rfl⟩ (by kernel_rfl) rfl plain (by kernel_rfl)
end Go.Proofs.YtlhnajgckdeedaaDoor.names
