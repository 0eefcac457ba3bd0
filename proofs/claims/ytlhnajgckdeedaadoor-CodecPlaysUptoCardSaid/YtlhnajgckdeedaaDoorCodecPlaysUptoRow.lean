/-
caesuralaw1.CodecPlays answers true for every script of bulk at most 1048576: every answer of a writer and of a reader over any bytes is the document's; memory of their own.
Condition: what comes in is of bulk at most 1048576.
-/
import Derived.Test.YtlhnajgckdeedaaDoorRows
import Derived.Test.YtlhnajgckdeedaaDoorCards
import Derived.Test.YtlhnajgckdeedaaDoorTie
import Derived.Test.YtlhnajgckdeedaaDoorPlaysW
import Derived.Test.YtlhnajgckdeedaaDoorOpenB
import Derived.WalkKit
import Derived.ProofKit
import Derived.OpenShut
import Derived.ShutString
import Derived.ChangeOld
import Derived.Below
import Derived.SizedLaws
import Derived.JoinedCond
import Derived.Deep.DeepHandedRow
import Derived.Deep.DeepWitnessRowRef
import Derived.Deep.Slices
import Derived.LaidMore
import Derived.LaidHandle
import Derived.MakeChecks
import Derived.Lib.SmallJoins
namespace Go.Proofs.YtlhnajgckdeedaaDoor.codecPlaysUpto
open Go.ChangeShapes Go.WideShapes Go.ChangeAt Go.RowKit Go.Joins Go.Deep
open Go.ChangeMaps (open_string shut_string)
open Go.Proofs.YtlhnajgckdeedaaDoorW.PrintWords Go.Proofs.YtlhnajgckdeedaaDoorW.PrintLast Go.Proofs.YtlhnajgckdeedaaDoorW.PrintMore
set_option linter.unusedVariables false
theorem own : ownKnob Tryd.prog.godebug = none := by kernel_rfl
theorem laidOut : laidOutB Tryd.prog = true := by kernel_rfl
theorem laid_met (os : Os) : laidMetH Tryd.prog Rows.codecPlaysUptoRow.laid ((World.doorLaid Tryd.prog 243 os).forCall (fun _ _ => 0) ⟨#[], #[.agg #[.slice none 0 0, .string ByteArray.empty, .slice none 0 0]], []⟩).memory :=
  laidMetH_of_parts3 (fuel := 8) (laidMet_of_run' 8 (by kernel_rfl) (by kernel_rfl)) (by kernel_rfl) (by kernel_rfl)
theorem reads (os : Os) {H : Type} (enc : TypeId × Value → H) : ∃ places, DataW.whole enc Tryd.prog ((World.doorLaid Tryd.prog 243 os).forCall (fun _ _ => 0) ⟨#[], #[.agg #[.slice none 0 0, .string ByteArray.empty, .slice none 0 0]], []⟩).memory Tryd.f9.params.toList Rows.codecPlaysSpec.vars false (#[.agg #[.slice none 0 0, .string ByteArray.empty, .slice none 0 0]]).toList 8 = some ([.agg [.nil, .lit (.string []), .nil]], [], places) :=
  ⟨[], by kernel_rfl⟩
set_option maxRecDepth 100000 in
theorem wit (os : Os) {H : Type} (enc : TypeId × Value → H) : ∃ (w : World) (tape : Tape) (i : Input), w.os = os ∧ (w.forCall tape i).Shaped Tryd.checked.prog ∧ i.vars = [] ∧ Input.okWide Tryd.checked.prog (w.forCall tape i) .any w.heap.size 9 i ∧
      (Rows.OpenSpec.upto Rows.codecPlaysSpec).preRow enc Tryd.checked.prog Tryd.f9 Rows.codecPlaysUptoRow.domain false Rows.codecPlaysUptoRow.laid (w.forCall tape i).memory i.args ∧ ({ modest := false } : Assume).holds Tryd.checked.prog (lone (Frame.enter Tryd.checked.prog 9 i.args .normal) [] (w.forCall tape i)) := by
  obtain ⟨places, hx⟩ := reads os enc
  exact witness_row_atRef (enc := enc) (C := Tryd.checked) false (World.doorLaid Tryd.prog 243 os) #[.agg #[.slice none 0 0, .string ByteArray.empty, .slice none 0 0]] rfl (by kernel_rfl) (by kernel_rfl) (by kernel_rfl)
    (OpenSpec.preRow_of_cond 8 hx (by kernel_rfl) (fun k hk => by cases hk; kernel_rfl) (by kernel_rfl) (laid_met os))
theorem inj_of {S : List Nat} (h : (S.all fun g => S.all fun g' => g == g' || errG g != errG g') = true) : ∀ g g', g ∈ S → g' ∈ S → errG g = errG g' → g = g' := by
  intro g g' hg hg' e
  have h1 := List.all_eq_true.1 (List.all_eq_true.1 h g hg) g' hg'
  simpa [e] using h1
theorem gs {W : World} (h : laidMet Tryd.prog Rows.codecPlaysUptoRow.laid W) : ∃ E, GS [1, 2, 3, 4, 5, 6, 7, 8, 9, 10, 11] E W := by
  refine gs_of h [1, 2, 3, 4, 5, 6, 7, 8, 9, 10, 11] (inj_of (by decide)) ?_
  intro g hg
  simp only [List.mem_cons, List.not_mem_nil, or_false] at hg
  rcases hg with rfl | rfl | rfl | rfl | rfl | rfl | rfl | rfl | rfl | rfl | rfl
  · exact ⟨0, _, _, rfl, by kernel_rfl, by kernel_rfl⟩
  · exact ⟨1, _, _, rfl, by kernel_rfl, by kernel_rfl⟩
  · exact ⟨2, _, _, rfl, by kernel_rfl, by kernel_rfl⟩
  · exact ⟨3, _, _, rfl, by kernel_rfl, by kernel_rfl⟩
  · exact ⟨4, _, _, rfl, by kernel_rfl, by kernel_rfl⟩
  · exact ⟨6, _, _, rfl, by kernel_rfl, by kernel_rfl⟩
  · exact ⟨5, _, _, rfl, by kernel_rfl, by kernel_rfl⟩
  · exact ⟨7, _, _, rfl, by kernel_rfl, by kernel_rfl⟩
  · exact ⟨8, _, _, rfl, by kernel_rfl, by kernel_rfl⟩
  · exact ⟨9, _, _, rfl, by kernel_rfl, by kernel_rfl⟩
  · exact ⟨10, _, _, rfl, by kernel_rfl, by kernel_rfl⟩
set_option maxRecDepth 100000 in
theorem contract (H : Type) (enc : TypeId × Value → H) (W : World) (base : Nat) (args : Array Value) (ds gs : List (DataW H)) (before : List MemPlace)
    (hval0 : ∀ (j : Nat) t v, Tryd.f9.params[j]? = some t → args[j]? = some v → Value.okWide Tryd.prog W .any base t v)
    (hW : DataW.Whole enc Tryd.prog Tryd.f9.params.toList Rows.codecPlaysSpec.vars false W args.toList ds gs before) (hk : Rows.uptoSmall H (ds ++ gs) = true) (hL : laidMetH Tryd.prog Rows.codecPlaysUptoRow.laid W) :
    Calls Tryd.prog 9 args W fun e W' => ∃ v, e = .returned v ∧ Rows.codecPlaysSpec.post enc Tryd.prog Tryd.f9 false true false false W args v W' := by
  have hL' : laidMet Tryd.prog Rows.codecPlaysUptoRow.laid W := by rw [MakeChecks.laidMetH_plain _ _ _ (by kernel_rfl)] at hL; exact hL
  have hval : ∀ (j : Nat) t v, Tryd.f9.params[j]? = some t → args[j]? = some v → Value.okWide Tryd.prog W .any base t v := hval0
  have hW' := hW
  obtain ⟨p, q, hA0, hV, rfl, hfz, hnd⟩ := hW
  have hA : DataW.TrodAll enc Tryd.prog W 0 (fun _ => true) true Tryd.f9.params.toList args.toList ds p := hA0
  rw [Tryd.params9] at hA hval
  obtain ⟨v0, vs0, d0, ds0, p0, q0, hargs, rfl, rfl, h0, r0⟩ := trodAll_cons hA
  obtain ⟨rfl, rfl, rfl⟩ := trodAll_nil r0
  obtain rfl : args = #[v0] := by cases args; simp_all
  obtain ⟨rfl, rfl⟩ := trodVars_none hV
  have k0 := h0
  have lt0 : ∀ x ∈ p0, x.block < W.heap.size := by obtain ⟨m, hm⟩ := k0; exact DataW.trod_lt m _ _ _ hm
  clear hA0 hval0
  obtain ⟨E, hE⟩ := gs hL'
  have oStep : OpensB Tryd.prog 67 stepK _ _ := OpensB.struct3 Tryd.underlying67 (OpensB.bool Tryd.underlying4) (OpensB.int Tryd.underlying3) (OpensB.string Tryd.underlying9) (by kernel_rfl) (by kernel_rfl) (by kernel_rfl) rfl rfl rfl (by kernel_rfl)
  have oSteps := OpensB.slice Tryd.underlying60 (by kernel_rfl) oStep
  have oScript : OpensB Tryd.prog 62 (Kd.pair (Kd.slice 67 stepK) (Kd.pair Kd.string (Kd.slice 67 stepK))) _ _ := OpensB.struct3 Tryd.underlying62 oSteps (OpensB.string Tryd.underlying9) oSteps (by kernel_rfl) (by kernel_rfl) (by kernel_rfl) rfl rfl rfl (by kernel_rfl)
  obtain ⟨cs, a, rfl, hK, hTT, hB⟩ := open_struct_par oScript Tryd.underlying62 (hval 0 62 v0 rfl rfl) h0
  obtain ⟨xs, P, ys⟩ := a
  obtain ⟨e0, e1, rfl, ⟨A, c, rfl, hAc, hC⟩, e2, e3, rfl, hP, ⟨A2, c2, rfl, hAc2, hC2⟩⟩ := hK
  obtain rfl : e2 = [.string P] := hP
  have hb := bulk_one hk
  dsimp only at hB hTT hAc hC hAc2 hC2
  have hsum : (xs.map fun x : Stp => 1 + (1 + (x.2.2.size + 1)) + 1).sum ≤ 1048576 := part_le _ _ _ _ (Nat.le_trans hB hb)
  have hN : ∀ s ∈ xs, -9223372036854775808 ≤ s.2.1 ∧ s.2.1 ≤ 9223372036854775807 := fun s hs => bounds_i64 (hTT.1 s hs).2.1
  have hS : ∀ s ∈ xs, s.2.2.size ≤ 1048576 := fun s hs => by
    have := sum_ge_mem (fun x : Stp => 1 + (1 + (x.2.2.size + 1)) + 1) xs s hs
    omega
  have hPs : P.size ≤ 1048576 := by omega
  refine (plays_any E A A2 c c2 xs.length ys.length P xs ys W hE hC hC2 hPs hN hS (puts_bound xs hN hsum)).mono fun e W' ⟨he, bel⟩ => ?_
  subst he
  exact ⟨_, rfl, _, _, _, [], _, [], hW', trodAll_mk1 (shut_bool Tryd.underlying4 _), (trodAll_cons_mk (Below.trod laidOut (by kernel_rfl) (of_decide_eq_true (by kernel_rfl)) k0 bel lt0) trodAll_mk0), rfl, bel.frame _, fun h => by cases h⟩
set_option maxRecDepth 100000 in
theorem lifted (os : Os) (started : os.Started) (H : Type) (enc : TypeId × Value → H) (F : Stop.Interp) :
    ReturnsInHanded {} Tryd.checked os 9 .any ((Rows.OpenSpec.upto Rows.codecPlaysSpec).preRow enc Tryd.prog Tryd.f9 Rows.codecPlaysUptoRow.domain false Rows.codecPlaysUptoRow.laid) (((Rows.OpenSpec.upto Rows.codecPlaysSpec).at F).post enc Tryd.prog Tryd.f9 false true false false) := by
  refine returnsInHanded_of_row (C := Tryd.checked) (s := (Rows.OpenSpec.upto Rows.codecPlaysSpec)) own started (by kernel_rfl) Tryd.func9 (wit os enc) ?_
  intro W base args ds gs before hval hW _ hcond hsz hL _ _
  exact contract H enc W base args ds gs before hval hW (hcond _ rfl) hL
theorem said : Rows.CodecPlaysUptoSaid :=
  OpenClaim.holds_of_cond 9 Tryd.f9 rfl rfl rfl rfl rfl rfl rfl ⟨rfl, rfl, rfl, rfl, rfl⟩ rfl rfl rfl rfl rfl (by kernel_rfl) Tryd.func9 (by kernel_rfl)
    (of_decide_eq_true (by kernel_rfl)) (by unfold Func.isWrapper; first | (rw [if_pos (by decide +kernel)]; kernel_rfl) | (rw [if_neg (by decide +kernel)]; exact ⟨rfl, rfl⟩))
    (fun os started H enc _ F => by rw [OpenClaim.pre_eq_preRow]; exact lifted os started H enc F)
theorem plain (f : FuncId) (fn : Func) (hf : Tryd.pinned.checked.prog.funcNamed "caesura/caesuralaw1.CodecPlays" = some f) (hfn : Tryd.pinned.checked.prog.funcs[f]? = some fn) :
    true = Tryd.pinned.checked.prog.looks [] ∧ ∀ (j : Nat) t, fn.params[j]? = some t → Tryd.pinned.checked.prog.wantsStandIn t = false := by
  obtain rfl : f = 9 := Option.some.inj ((show Tryd.prog.funcNamed "caesura/caesuralaw1.CodecPlays" = some 9 by kernel_rfl).symm.trans hf) |>.symm
  obtain rfl : fn = Tryd.f9 := (Option.some.inj (Tryd.func9.symm.trans hfn)).symm
  refine ⟨by kernel_rfl, fun j t ht => ?_⟩
  rw [Tryd.params9] at ht
  have ht' := Array.mem_of_getElem? ht
  simp only [List.mem_toArray, List.mem_cons, List.not_mem_nil, or_false] at ht'
  subst ht'
  exact (show Tryd.prog.wantsStandIn 62 = false by kernel_rfl)
theorem card : Rows.CodecPlaysUptoCardSaid :=
  Claim7.holds_tied_plain_at .later [] _ _ _ _ said (fun _ h => by cases h) (by kernel_rfl) (fun _ h => by cases h) codecPlaysUpto_row_tie rfl ⟨rfl, rfl⟩ (by kernel_rfl) rfl plain (by kernel_rfl)
end Go.Proofs.YtlhnajgckdeedaaDoor.codecPlaysUpto
