/-
caesuralaw3.same and answers: all that the calls answer of two lists is the document's. Conditions: lists of at most 2^20 ranges; the refusals read as listed.
-/
import Derived.Test.YthjdjgppghplgaaDoorRgRef
import Derived.Test.YthjdjgppghplgaaDoorRgBegun
namespace Go.Proofs.YthjdjgppghplgaaDoor
open Go Go.RowKit Go.Proofs.YthjdjgppghplgaaDoorW.PrintWords Go.Proofs.YthjdjgppghplgaaDoorW.PrintLast Go.Proofs.YthjdjgppghplgaaDoorW.PrintMore
set_option maxHeartbeats 4000000 in
set_option maxRecDepth 100000 in
theorem samec_nil (E : Nat → Addr) (A B : Option Addr) (cA cB nA nB : Nat) (la lb : List Rg) (w : World) (hE : GS allS E w) (hA : rgK.C w A nA la) (hB : rgK.C w B nB lb) (hcA : nA ≤ cA) (hcB : nB ≤ cB) (hn : nA ≤ 1073741824) (he : la = lb) :
    Calls Tryd.prog 33 #[.slice A nA cA, .nilIface, .slice B nB cB, .int .i64 0] w fun e w' => e = .returned (.bool true) ∧ Below w.heap.size w w' := by
  have HE := Sh.mk hE
  have HS := Sh.mk (same_any A B cA cB nA nB la lb w hA hB hcA hcB hn)
  have HQ := Sh.mk he
  clear hE hA hB he
  go_enter Tryd.func33, Tryd.ntmps33
  go_wp2_with fail
  refine (num_nil w).mono ?_
  rintro e w1 ⟨rfl, rfl⟩
  go_wp2_with fail
  refine HS.out.mono ?_
  rw [decide_eq_true HQ.out]
  rintro e w1 ⟨rfl, hd⟩
  have HB := Sh.mk hd.below
  clear hd
  go_wp2
  go_ret
  exact ⟨rfl, HB.out⟩
set_option maxHeartbeats 4000000 in
set_option maxRecDepth 100000 in
theorem samec_arg (E : Nat → Addr) (A B : Option Addr) (cA cB nA nB : Nat) (la lb : List Rg) (w : World) (hE : GS allS E w) (hA : rgK.C w A nA la) (hB : rgK.C w B nB lb) (hcA : nA ≤ cA) (hcB : nB ≤ cB) (hn : nA ≤ 1073741824) (he : la = lb) :
    Calls Tryd.prog 33 #[.slice A nA cA, errA E, .slice B nB cB, .int .i64 1] w fun e w' => e = .returned (.bool true) ∧ Below w.heap.size w w' := by
  have HE := Sh.mk hE
  have HS := Sh.mk (same_any A B cA cB nA nB la lb w hA hB hcA hcB hn)
  have HQ := Sh.mk he
  clear hE hA hB he
  go_enter Tryd.func33, Tryd.ntmps33
  go_wp2_with fail
  refine (num_any E w HE.out (some 1) (by intro g h; cases h; decide)).mono ?_
  rintro e w1 ⟨rfl, rfl⟩
  rw [show numOf (some 1) = 1 from rfl]
  go_wp2_with fail
  refine HS.out.mono ?_
  rw [decide_eq_true HQ.out]
  rintro e w1 ⟨rfl, hd⟩
  have HB := Sh.mk hd.below
  clear hd
  go_wp2
  go_ret
  exact ⟨rfl, HB.out⟩
section
variable (E : Nat → Addr) (A B : Option Addr) (cA cB nA nB : Nat) (la lb : List Rg) (pt : Int) (w : World) (hE : GS allS E w) (hA : rgK.C w A nA la) (hB : rgK.C w B nB lb) (hcA : nA ≤ cA) (hcB : nB ≤ cB) (hna : nA ≤ 1048576) (hnb : nB ≤ 1048576)
include hE hA hB hcA hcB hna hnb
set_option maxHeartbeats 64000000 in
set_option maxRecDepth 100000 in
theorem ans_none (hma : mayL la = false) :
    Calls Tryd.prog 17 #[.slice A nA cA, .slice B nB cB, .int .i64 pt] w fun e w' => e = .returned (.bool true) ∧ Below w.heap.size w w' := by
  have HE := Sh.mk hE
  have HMa := Sh.mk hma
  have HCa := Sh.mk hA
  have HCb := Sh.mk hB
  have HLa := Sh.mk hA.1
  have HLb := Sh.mk hB.1
  have HS := Sh.mk (Below.refl w.heap.size w)
  clear hE hA hB hma
  go_enter Tryd.func17, Tryd.ntmps17
  go_wp2_with fail
  refine (own_any A cA nA la w HCa.out hcA (by omega)).mono ?_
  rintro e w1 ⟨v, rfl, hR, hb⟩
  obtain ⟨Ap, cp, rfl, hcp, hC⟩ := R_open hR nA HLa.out
  have HCp := Sh.mk hC
  replace HCa := Sh.mk (Kd.C_below HCa.out hb)
  replace HCb := Sh.mk (Kd.C_below HCb.out hb)
  replace HS := Sh.mk (below_of HS.out hb)
  clear hR hb hC
  go_wp2_with fail
  refine (own_any B cB nB lb w1 HCb.out hcB (by omega)).mono ?_
  rintro e w2 ⟨v, rfl, hR, hb⟩
  obtain ⟨Aq, cq, rfl, hcq, hC⟩ := R_open hR nB HLb.out
  have HCq := Sh.mk hC
  replace HCa := Sh.mk (Kd.C_below HCa.out hb)
  replace HCb := Sh.mk (Kd.C_below HCb.out hb)
  replace HCp := Sh.mk (Kd.C_below HCp.out hb)
  replace HS := Sh.mk (below_of HS.out hb)
  clear hR hb hC
  go_wp2_with fail
  have hc := normal_any E A cA nA la w2 ((HE.out.below HS.out).sub (by decide)) HCa.out hcA hna
  rw [HMa.out] at hc
  refine hc.mono ?_
  clear hc
  rintro e w3 ⟨rfl, hb⟩
  replace HCa := Sh.mk (Kd.C_below HCa.out hb)
  replace HCb := Sh.mk (Kd.C_below HCb.out hb)
  replace HCp := Sh.mk (Kd.C_below HCp.out hb)
  replace HCq := Sh.mk (Kd.C_below HCq.out hb)
  replace HS := Sh.mk (below_of HS.out hb)
  clear hb
  go_wp2_with fail
  have hc := refNormal_any Ap cp nA la w3 HCp.out hcp hna
  rw [HMa.out] at hc
  refine hc.mono ?_
  clear hc
  rintro e w4 ⟨v, rfl, hR, hb⟩
  obtain ⟨A2, c2, rfl, hc2, hC⟩ := R_open hR 0 rfl
  have HC2 := Sh.mk hC
  replace HCa := Sh.mk (Kd.C_below HCa.out hb)
  replace HCb := Sh.mk (Kd.C_below HCb.out hb)
  replace HCp := Sh.mk (Kd.C_below HCp.out hb)
  replace HCq := Sh.mk (Kd.C_below HCq.out hb)
  replace HS := Sh.mk (below_of HS.out hb)
  clear hR hb hC
  go_wp2_with fail
  refine (samec_arg E none A2 0 c2 0 0 [] [] w4 (HE.out.below HS.out) (C_nilR _) HC2.out (by omega) hc2 (by omega) rfl).mono ?_
  rintro e w5 ⟨rfl, hb⟩
  replace HCa := Sh.mk (Kd.C_below HCa.out hb)
  replace HCb := Sh.mk (Kd.C_below HCb.out hb)
  replace HCp := Sh.mk (Kd.C_below HCp.out hb)
  replace HCq := Sh.mk (Kd.C_below HCq.out hb)
  replace HS := Sh.mk (below_of HS.out hb)
  clear hb HC2 hc2
  go_wp2_with fail
  refine (has_any A cA nA la pt w5 HCa.out hna).mono ?_
  rintro e w6 ⟨rfl, hb⟩
  replace HCa := Sh.mk (Kd.C_below HCa.out hb)
  replace HCb := Sh.mk (Kd.C_below HCb.out hb)
  replace HCp := Sh.mk (Kd.C_below HCp.out hb)
  replace HCq := Sh.mk (Kd.C_below HCq.out hb)
  replace HS := Sh.mk (below_of HS.out hb)
  clear hb
  go_wp2_with fail
  refine (refHas_any Ap cp nA la pt w6 HCp.out hcp (by omega)).mono ?_
  rintro e w7 ⟨rfl, hd⟩
  have hb := hd.below
  replace HCa := Sh.mk (Kd.C_below HCa.out hb)
  replace HCb := Sh.mk (Kd.C_below HCb.out hb)
  replace HCp := Sh.mk (Kd.C_below HCp.out hb)
  replace HCq := Sh.mk (Kd.C_below HCq.out hb)
  replace HS := Sh.mk (below_of HS.out hb)
  clear hb hd
  generalize inL la pt = x
  go_wp2_with fail
  have hc := union_any E A B cA cB nA nB la lb w7 ((HE.out.below HS.out).sub (by decide)) HCa.out hcA hna HCb.out hcB hnb
  rw [show (mayL la && mayL lb) = false by rw [HMa.out]; rfl] at hc
  refine hc.mono ?_
  clear hc
  rintro e w8 ⟨rfl, hb⟩
  replace HCa := Sh.mk (Kd.C_below HCa.out hb)
  replace HCb := Sh.mk (Kd.C_below HCb.out hb)
  replace HCp := Sh.mk (Kd.C_below HCp.out hb)
  replace HCq := Sh.mk (Kd.C_below HCq.out hb)
  replace HS := Sh.mk (below_of HS.out hb)
  clear hb
  go_wp2_with fail
  have hc := refUnion_any Ap Aq cp cq nA nB la lb w8 HCp.out hcp hna HCq.out hcq hnb
  rw [show (mayL la && mayL lb) = false by rw [HMa.out]; rfl] at hc
  refine hc.mono ?_
  clear hc
  rintro e w9 ⟨v, rfl, hR, hb⟩
  obtain ⟨A2, c2, rfl, hc2, hC⟩ := R_open hR 0 rfl
  have HC2 := Sh.mk hC
  replace HCa := Sh.mk (Kd.C_below HCa.out hb)
  replace HCb := Sh.mk (Kd.C_below HCb.out hb)
  replace HCp := Sh.mk (Kd.C_below HCp.out hb)
  replace HCq := Sh.mk (Kd.C_below HCq.out hb)
  replace HS := Sh.mk (below_of HS.out hb)
  clear hR hb hC
  go_wp2_with fail
  refine (samec_arg E none A2 0 c2 0 0 [] [] w9 (HE.out.below HS.out) (C_nilR _) HC2.out (by omega) hc2 (by omega) rfl).mono ?_
  rintro e w10 ⟨rfl, hb⟩
  replace HCa := Sh.mk (Kd.C_below HCa.out hb)
  replace HCb := Sh.mk (Kd.C_below HCb.out hb)
  replace HCp := Sh.mk (Kd.C_below HCp.out hb)
  replace HCq := Sh.mk (Kd.C_below HCq.out hb)
  replace HS := Sh.mk (below_of HS.out hb)
  clear hb HC2 hc2
  go_wp2_with fail
  have hc := inter_any E A B cA cB nA nB la lb w10 ((HE.out.below HS.out).sub (by decide)) HCa.out hcA hna HCb.out hcB hnb
  rw [show (mayL la && mayL lb) = false by rw [HMa.out]; rfl] at hc
  refine hc.mono ?_
  clear hc
  rintro e w11 ⟨rfl, hb⟩
  replace HCa := Sh.mk (Kd.C_below HCa.out hb)
  replace HCb := Sh.mk (Kd.C_below HCb.out hb)
  replace HCp := Sh.mk (Kd.C_below HCp.out hb)
  replace HCq := Sh.mk (Kd.C_below HCq.out hb)
  replace HS := Sh.mk (below_of HS.out hb)
  clear hb
  go_wp2_with fail
  have hc := refInter_any Ap Aq cp cq nA nB la lb w11 HCp.out hcp hna HCq.out hcq hnb
  rw [show (mayL la && mayL lb) = false by rw [HMa.out]; rfl] at hc
  refine hc.mono ?_
  clear hc
  rintro e w12 ⟨v, rfl, hR, hb⟩
  obtain ⟨A2, c2, rfl, hc2, hC⟩ := R_open hR 0 rfl
  have HC2 := Sh.mk hC
  replace HCa := Sh.mk (Kd.C_below HCa.out hb)
  replace HCb := Sh.mk (Kd.C_below HCb.out hb)
  replace HCp := Sh.mk (Kd.C_below HCp.out hb)
  replace HCq := Sh.mk (Kd.C_below HCq.out hb)
  replace HS := Sh.mk (below_of HS.out hb)
  clear hR hb hC
  go_wp2_with fail
  refine (samec_arg E none A2 0 c2 0 0 [] [] w12 (HE.out.below HS.out) (C_nilR _) HC2.out (by omega) hc2 (by omega) rfl).mono ?_
  rintro e w13 ⟨rfl, hb⟩
  replace HCa := Sh.mk (Kd.C_below HCa.out hb)
  replace HCb := Sh.mk (Kd.C_below HCb.out hb)
  replace HCp := Sh.mk (Kd.C_below HCp.out hb)
  replace HCq := Sh.mk (Kd.C_below HCq.out hb)
  replace HS := Sh.mk (below_of HS.out hb)
  clear hb HC2 hc2
  go_wp2_with fail
  have hc := minus_any E A B cA cB nA nB la lb w13 ((HE.out.below HS.out).sub (by decide)) HCa.out hcA hna HCb.out hcB hnb
  rw [show (mayL la && mayL lb) = false by rw [HMa.out]; rfl] at hc
  refine hc.mono ?_
  clear hc
  rintro e w14 ⟨rfl, hb⟩
  replace HCa := Sh.mk (Kd.C_below HCa.out hb)
  replace HCb := Sh.mk (Kd.C_below HCb.out hb)
  replace HCp := Sh.mk (Kd.C_below HCp.out hb)
  replace HCq := Sh.mk (Kd.C_below HCq.out hb)
  replace HS := Sh.mk (below_of HS.out hb)
  clear hb
  go_wp2_with fail
  have hc := refMinus_any Ap Aq cp cq nA nB la lb w14 HCp.out hcp hna HCq.out hcq hnb
  rw [show (mayL la && mayL lb) = false by rw [HMa.out]; rfl] at hc
  refine hc.mono ?_
  clear hc
  rintro e w15 ⟨v, rfl, hR, hb⟩
  obtain ⟨A2, c2, rfl, hc2, hC⟩ := R_open hR 0 rfl
  have HC2 := Sh.mk hC
  replace HCa := Sh.mk (Kd.C_below HCa.out hb)
  replace HCb := Sh.mk (Kd.C_below HCb.out hb)
  replace HCp := Sh.mk (Kd.C_below HCp.out hb)
  replace HCq := Sh.mk (Kd.C_below HCq.out hb)
  replace HS := Sh.mk (below_of HS.out hb)
  clear hR hb hC
  go_wp2_with fail
  refine (samec_arg E none A2 0 c2 0 0 [] [] w15 (HE.out.below HS.out) (C_nilR _) HC2.out (by omega) hc2 (by omega) rfl).mono ?_
  rintro e w16 ⟨rfl, hb⟩
  replace HCa := Sh.mk (Kd.C_below HCa.out hb)
  replace HCb := Sh.mk (Kd.C_below HCb.out hb)
  replace HCp := Sh.mk (Kd.C_below HCp.out hb)
  replace HCq := Sh.mk (Kd.C_below HCq.out hb)
  replace HS := Sh.mk (below_of HS.out hb)
  clear hb HC2 hc2
  go_wp2_with fail
  have hc := not_any E A cA nA la w16 ((HE.out.below HS.out).sub (by decide)) HCa.out hcA hna
  rw [HMa.out] at hc
  refine hc.mono ?_
  clear hc
  rintro e w17 ⟨rfl, hb⟩
  replace HCa := Sh.mk (Kd.C_below HCa.out hb)
  replace HCb := Sh.mk (Kd.C_below HCb.out hb)
  replace HCp := Sh.mk (Kd.C_below HCp.out hb)
  replace HCq := Sh.mk (Kd.C_below HCq.out hb)
  replace HS := Sh.mk (below_of HS.out hb)
  clear hb
  go_wp2_with fail
  have hc := refNot_any Ap cp nA la w17 HCp.out hcp hna
  rw [HMa.out] at hc
  refine hc.mono ?_
  clear hc
  rintro e w18 ⟨v, rfl, hR, hb⟩
  obtain ⟨A2, c2, rfl, hc2, hC⟩ := R_open hR 0 rfl
  have HC2 := Sh.mk hC
  replace HCa := Sh.mk (Kd.C_below HCa.out hb)
  replace HCb := Sh.mk (Kd.C_below HCb.out hb)
  replace HCp := Sh.mk (Kd.C_below HCp.out hb)
  replace HCq := Sh.mk (Kd.C_below HCq.out hb)
  replace HS := Sh.mk (below_of HS.out hb)
  clear hR hb hC
  go_wp2_with fail
  have hc := count_any E A cA nA la w18 ((HE.out.below HS.out).sub (by decide)) HCa.out hcA hna
  rw [HMa.out] at hc
  refine hc.mono ?_
  clear hc
  rintro e w19 ⟨rfl, hb⟩
  replace HCa := Sh.mk (Kd.C_below HCa.out hb)
  replace HCb := Sh.mk (Kd.C_below HCb.out hb)
  replace HCp := Sh.mk (Kd.C_below HCp.out hb)
  replace HCq := Sh.mk (Kd.C_below HCq.out hb)
  replace HC2 := Sh.mk (Kd.C_below HC2.out hb)
  replace HS := Sh.mk (below_of HS.out hb)
  clear hb
  go_wp2_with fail
  have hc := refCount_any Ap cp nA la w19 HCp.out hcp hna
  rw [HMa.out] at hc
  refine hc.mono ?_
  clear hc
  rintro e w20 ⟨rfl, hb⟩
  replace HCa := Sh.mk (Kd.C_below HCa.out hb)
  replace HCb := Sh.mk (Kd.C_below HCb.out hb)
  replace HCp := Sh.mk (Kd.C_below HCp.out hb)
  replace HCq := Sh.mk (Kd.C_below HCq.out hb)
  replace HC2 := Sh.mk (Kd.C_below HC2.out hb)
  replace HS := Sh.mk (below_of HS.out hb)
  clear hb
  go_wp2_with fail
  refine (samec_arg E none A2 0 c2 0 0 [] [] w20 (HE.out.below HS.out) (C_nilR _) HC2.out (by omega) hc2 (by omega) rfl).mono ?_
  rintro e w21 ⟨rfl, hb⟩
  replace HCa := Sh.mk (Kd.C_below HCa.out hb)
  replace HCb := Sh.mk (Kd.C_below HCb.out hb)
  replace HCp := Sh.mk (Kd.C_below HCp.out hb)
  replace HCq := Sh.mk (Kd.C_below HCq.out hb)
  replace HS := Sh.mk (below_of HS.out hb)
  clear hb HC2 hc2
  go_wp2_with fail
  refine (num_any E w21 (HE.out.below HS.out) (some 1) (by intro g h; cases h; decide)).mono ?_
  rintro e w22 ⟨rfl, hw⟩
  rw [show numOf (some 1) = 1 from rfl]
  have hb : Below w21.heap.size w21 w22 := by rw [← hw]; exact Below.refl _ _
  replace HCa := Sh.mk (Kd.C_below HCa.out hb)
  replace HCb := Sh.mk (Kd.C_below HCb.out hb)
  replace HCp := Sh.mk (Kd.C_below HCp.out hb)
  replace HCq := Sh.mk (Kd.C_below HCq.out hb)
  replace HS := Sh.mk (below_of HS.out hb)
  clear hb hw
  go_wp2
  go_ret
  exact ⟨rfl, HS.out⟩
set_option maxHeartbeats 64000000 in
set_option maxRecDepth 100000 in
theorem ans_one (hma : mayL la = true) (hmb : mayL lb = false) :
    Calls Tryd.prog 17 #[.slice A nA cA, .slice B nB cB, .int .i64 pt] w fun e w' => e = .returned (.bool true) ∧ Below w.heap.size w w' := by
  have HE := Sh.mk hE
  have HMa := Sh.mk hma
  have HMb := Sh.mk hmb
  have HCa := Sh.mk hA
  have HCb := Sh.mk hB
  have HLa := Sh.mk hA.1
  have HLb := Sh.mk hB.1
  have HS := Sh.mk (Below.refl w.heap.size w)
  clear hE hA hB hma hmb
  go_enter Tryd.func17, Tryd.ntmps17
  go_wp2_with fail
  refine (own_any A cA nA la w HCa.out hcA (by omega)).mono ?_
  rintro e w1 ⟨v, rfl, hR, hb⟩
  obtain ⟨Ap, cp, rfl, hcp, hC⟩ := R_open hR nA HLa.out
  have HCp := Sh.mk hC
  replace HCa := Sh.mk (Kd.C_below HCa.out hb)
  replace HCb := Sh.mk (Kd.C_below HCb.out hb)
  replace HS := Sh.mk (below_of HS.out hb)
  clear hR hb hC
  go_wp2_with fail
  refine (own_any B cB nB lb w1 HCb.out hcB (by omega)).mono ?_
  rintro e w2 ⟨v, rfl, hR, hb⟩
  obtain ⟨Aq, cq, rfl, hcq, hC⟩ := R_open hR nB HLb.out
  have HCq := Sh.mk hC
  replace HCa := Sh.mk (Kd.C_below HCa.out hb)
  replace HCb := Sh.mk (Kd.C_below HCb.out hb)
  replace HCp := Sh.mk (Kd.C_below HCp.out hb)
  replace HS := Sh.mk (below_of HS.out hb)
  clear hR hb hC
  go_wp2_with fail
  have hc := normal_any E A cA nA la w2 ((HE.out.below HS.out).sub (by decide)) HCa.out hcA hna
  rw [HMa.out] at hc
  refine hc.mono ?_
  clear hc
  rintro e w3 ⟨v, l1, rfl, hI, hR, hb⟩
  obtain ⟨A1, c1, rfl, hc1, hC⟩ := R_open hR l1.length rfl
  have hl1 := hI.len
  have HI1 := Sh.mk hI
  have HC1 := Sh.mk hC
  replace HCa := Sh.mk (Kd.C_below HCa.out hb)
  replace HCb := Sh.mk (Kd.C_below HCb.out hb)
  replace HCp := Sh.mk (Kd.C_below HCp.out hb)
  replace HCq := Sh.mk (Kd.C_below HCq.out hb)
  replace HS := Sh.mk (below_of HS.out hb)
  clear hI hR hb hC
  go_wp2_with fail
  have hc := refNormal_any Ap cp nA la w3 HCp.out hcp hna
  rw [HMa.out] at hc
  refine hc.mono ?_
  clear hc
  rintro e w4 ⟨v, l2, rfl, hI, hR, hb⟩
  obtain ⟨A2, c2, rfl, hc2, hC⟩ := R_open hR l2.length rfl
  have HI2 := Sh.mk hI
  have HC2 := Sh.mk hC
  replace HCa := Sh.mk (Kd.C_below HCa.out hb)
  replace HCb := Sh.mk (Kd.C_below HCb.out hb)
  replace HCp := Sh.mk (Kd.C_below HCp.out hb)
  replace HCq := Sh.mk (Kd.C_below HCq.out hb)
  replace HC1 := Sh.mk (Kd.C_below HC1.out hb)
  replace HS := Sh.mk (below_of HS.out hb)
  clear hI hR hb hC
  go_wp2_with fail
  refine (samec_nil E A1 A2 c1 c2 l1.length l2.length l1 l2 w4 (HE.out.below HS.out) HC1.out HC2.out hc1 hc2 (by omega) (HI1.out.same HI2.out)).mono ?_
  rintro e w5 ⟨rfl, hb⟩
  replace HCa := Sh.mk (Kd.C_below HCa.out hb)
  replace HCb := Sh.mk (Kd.C_below HCb.out hb)
  replace HCp := Sh.mk (Kd.C_below HCp.out hb)
  replace HCq := Sh.mk (Kd.C_below HCq.out hb)
  replace HS := Sh.mk (below_of HS.out hb)
  clear hb HC1 HI1 HI2 hl1 hc1 HC2 hc2
  go_wp2_with fail
  refine (has_any A cA nA la pt w5 HCa.out hna).mono ?_
  rintro e w6 ⟨rfl, hb⟩
  replace HCa := Sh.mk (Kd.C_below HCa.out hb)
  replace HCb := Sh.mk (Kd.C_below HCb.out hb)
  replace HCp := Sh.mk (Kd.C_below HCp.out hb)
  replace HCq := Sh.mk (Kd.C_below HCq.out hb)
  replace HS := Sh.mk (below_of HS.out hb)
  clear hb
  go_wp2_with fail
  refine (refHas_any Ap cp nA la pt w6 HCp.out hcp (by omega)).mono ?_
  rintro e w7 ⟨rfl, hd⟩
  have hb := hd.below
  replace HCa := Sh.mk (Kd.C_below HCa.out hb)
  replace HCb := Sh.mk (Kd.C_below HCb.out hb)
  replace HCp := Sh.mk (Kd.C_below HCp.out hb)
  replace HCq := Sh.mk (Kd.C_below HCq.out hb)
  replace HS := Sh.mk (below_of HS.out hb)
  clear hb hd
  generalize inL la pt = x
  go_wp2_with fail
  have hc := union_any E A B cA cB nA nB la lb w7 ((HE.out.below HS.out).sub (by decide)) HCa.out hcA hna HCb.out hcB hnb
  rw [HMa.out, HMb.out] at hc
  refine hc.mono ?_
  clear hc
  rintro e w8 ⟨rfl, hb⟩
  replace HCa := Sh.mk (Kd.C_below HCa.out hb)
  replace HCb := Sh.mk (Kd.C_below HCb.out hb)
  replace HCp := Sh.mk (Kd.C_below HCp.out hb)
  replace HCq := Sh.mk (Kd.C_below HCq.out hb)
  replace HS := Sh.mk (below_of HS.out hb)
  clear hb
  go_wp2_with fail
  have hc := refUnion_any Ap Aq cp cq nA nB la lb w8 HCp.out hcp hna HCq.out hcq hnb
  rw [HMa.out, HMb.out] at hc
  refine hc.mono ?_
  clear hc
  rintro e w9 ⟨v, rfl, hR, hb⟩
  obtain ⟨A2, c2, rfl, hc2, hC⟩ := R_open hR 0 rfl
  have HC2 := Sh.mk hC
  replace HCa := Sh.mk (Kd.C_below HCa.out hb)
  replace HCb := Sh.mk (Kd.C_below HCb.out hb)
  replace HCp := Sh.mk (Kd.C_below HCp.out hb)
  replace HCq := Sh.mk (Kd.C_below HCq.out hb)
  replace HS := Sh.mk (below_of HS.out hb)
  clear hR hb hC
  go_wp2_with fail
  refine (samec_arg E none A2 0 c2 0 0 [] [] w9 (HE.out.below HS.out) (C_nilR _) HC2.out (by omega) hc2 (by omega) rfl).mono ?_
  rintro e w10 ⟨rfl, hb⟩
  replace HCa := Sh.mk (Kd.C_below HCa.out hb)
  replace HCb := Sh.mk (Kd.C_below HCb.out hb)
  replace HCp := Sh.mk (Kd.C_below HCp.out hb)
  replace HCq := Sh.mk (Kd.C_below HCq.out hb)
  replace HS := Sh.mk (below_of HS.out hb)
  clear hb HC2 hc2
  go_wp2_with fail
  have hc := inter_any E A B cA cB nA nB la lb w10 ((HE.out.below HS.out).sub (by decide)) HCa.out hcA hna HCb.out hcB hnb
  rw [HMa.out, HMb.out] at hc
  refine hc.mono ?_
  clear hc
  rintro e w11 ⟨rfl, hb⟩
  replace HCa := Sh.mk (Kd.C_below HCa.out hb)
  replace HCb := Sh.mk (Kd.C_below HCb.out hb)
  replace HCp := Sh.mk (Kd.C_below HCp.out hb)
  replace HCq := Sh.mk (Kd.C_below HCq.out hb)
  replace HS := Sh.mk (below_of HS.out hb)
  clear hb
  go_wp2_with fail
  have hc := refInter_any Ap Aq cp cq nA nB la lb w11 HCp.out hcp hna HCq.out hcq hnb
  rw [HMa.out, HMb.out] at hc
  refine hc.mono ?_
  clear hc
  rintro e w12 ⟨v, rfl, hR, hb⟩
  obtain ⟨A2, c2, rfl, hc2, hC⟩ := R_open hR 0 rfl
  have HC2 := Sh.mk hC
  replace HCa := Sh.mk (Kd.C_below HCa.out hb)
  replace HCb := Sh.mk (Kd.C_below HCb.out hb)
  replace HCp := Sh.mk (Kd.C_below HCp.out hb)
  replace HCq := Sh.mk (Kd.C_below HCq.out hb)
  replace HS := Sh.mk (below_of HS.out hb)
  clear hR hb hC
  go_wp2_with fail
  refine (samec_arg E none A2 0 c2 0 0 [] [] w12 (HE.out.below HS.out) (C_nilR _) HC2.out (by omega) hc2 (by omega) rfl).mono ?_
  rintro e w13 ⟨rfl, hb⟩
  replace HCa := Sh.mk (Kd.C_below HCa.out hb)
  replace HCb := Sh.mk (Kd.C_below HCb.out hb)
  replace HCp := Sh.mk (Kd.C_below HCp.out hb)
  replace HCq := Sh.mk (Kd.C_below HCq.out hb)
  replace HS := Sh.mk (below_of HS.out hb)
  clear hb HC2 hc2
  go_wp2_with fail
  have hc := minus_any E A B cA cB nA nB la lb w13 ((HE.out.below HS.out).sub (by decide)) HCa.out hcA hna HCb.out hcB hnb
  rw [HMa.out, HMb.out] at hc
  refine hc.mono ?_
  clear hc
  rintro e w14 ⟨rfl, hb⟩
  replace HCa := Sh.mk (Kd.C_below HCa.out hb)
  replace HCb := Sh.mk (Kd.C_below HCb.out hb)
  replace HCp := Sh.mk (Kd.C_below HCp.out hb)
  replace HCq := Sh.mk (Kd.C_below HCq.out hb)
  replace HS := Sh.mk (below_of HS.out hb)
  clear hb
  go_wp2_with fail
  have hc := refMinus_any Ap Aq cp cq nA nB la lb w14 HCp.out hcp hna HCq.out hcq hnb
  rw [HMa.out, HMb.out] at hc
  refine hc.mono ?_
  clear hc
  rintro e w15 ⟨v, rfl, hR, hb⟩
  obtain ⟨A2, c2, rfl, hc2, hC⟩ := R_open hR 0 rfl
  have HC2 := Sh.mk hC
  replace HCa := Sh.mk (Kd.C_below HCa.out hb)
  replace HCb := Sh.mk (Kd.C_below HCb.out hb)
  replace HCp := Sh.mk (Kd.C_below HCp.out hb)
  replace HCq := Sh.mk (Kd.C_below HCq.out hb)
  replace HS := Sh.mk (below_of HS.out hb)
  clear hR hb hC
  go_wp2_with fail
  refine (samec_arg E none A2 0 c2 0 0 [] [] w15 (HE.out.below HS.out) (C_nilR _) HC2.out (by omega) hc2 (by omega) rfl).mono ?_
  rintro e w16 ⟨rfl, hb⟩
  replace HCa := Sh.mk (Kd.C_below HCa.out hb)
  replace HCb := Sh.mk (Kd.C_below HCb.out hb)
  replace HCp := Sh.mk (Kd.C_below HCp.out hb)
  replace HCq := Sh.mk (Kd.C_below HCq.out hb)
  replace HS := Sh.mk (below_of HS.out hb)
  clear hb HC2 hc2
  go_wp2_with fail
  have hc := not_any E A cA nA la w16 ((HE.out.below HS.out).sub (by decide)) HCa.out hcA hna
  rw [HMa.out] at hc
  refine hc.mono ?_
  clear hc
  rintro e w17 ⟨v, l1, rfl, hI, hR, hb⟩
  obtain ⟨A1, c1, rfl, hc1, hC⟩ := R_open hR l1.length rfl
  have hl1 := hI.len
  have HI1 := Sh.mk hI
  have HC1 := Sh.mk hC
  replace HCa := Sh.mk (Kd.C_below HCa.out hb)
  replace HCb := Sh.mk (Kd.C_below HCb.out hb)
  replace HCp := Sh.mk (Kd.C_below HCp.out hb)
  replace HCq := Sh.mk (Kd.C_below HCq.out hb)
  replace HS := Sh.mk (below_of HS.out hb)
  clear hI hR hb hC
  go_wp2_with fail
  have hc := refNot_any Ap cp nA la w17 HCp.out hcp hna
  rw [HMa.out] at hc
  refine hc.mono ?_
  clear hc
  rintro e w18 ⟨v, l2, rfl, hI, hR, hb⟩
  obtain ⟨A2, c2, rfl, hc2, hC⟩ := R_open hR l2.length rfl
  have HI2 := Sh.mk hI
  have HC2 := Sh.mk hC
  replace HCa := Sh.mk (Kd.C_below HCa.out hb)
  replace HCb := Sh.mk (Kd.C_below HCb.out hb)
  replace HCp := Sh.mk (Kd.C_below HCp.out hb)
  replace HCq := Sh.mk (Kd.C_below HCq.out hb)
  replace HC1 := Sh.mk (Kd.C_below HC1.out hb)
  replace HS := Sh.mk (below_of HS.out hb)
  clear hI hR hb hC
  go_wp2_with fail
  have hc := count_any E A cA nA la w18 ((HE.out.below HS.out).sub (by decide)) HCa.out hcA hna
  rw [HMa.out] at hc
  refine hc.mono ?_
  clear hc
  rintro e w19 ⟨l3, hI3, rfl, hb⟩
  have HI3 := Sh.mk hI3
  replace HCa := Sh.mk (Kd.C_below HCa.out hb)
  replace HCb := Sh.mk (Kd.C_below HCb.out hb)
  replace HCp := Sh.mk (Kd.C_below HCp.out hb)
  replace HCq := Sh.mk (Kd.C_below HCq.out hb)
  replace HC1 := Sh.mk (Kd.C_below HC1.out hb)
  replace HC2 := Sh.mk (Kd.C_below HC2.out hb)
  replace HS := Sh.mk (below_of HS.out hb)
  clear hb hI3
  go_wp2_with fail
  have hc := refCount_any Ap cp nA la w19 HCp.out hcp hna
  rw [HMa.out] at hc
  refine hc.mono ?_
  clear hc
  rintro e w20 ⟨l4, hI4, rfl, hb⟩
  obtain rfl := HI3.out.same hI4
  replace HCa := Sh.mk (Kd.C_below HCa.out hb)
  replace HCb := Sh.mk (Kd.C_below HCb.out hb)
  replace HCp := Sh.mk (Kd.C_below HCp.out hb)
  replace HCq := Sh.mk (Kd.C_below HCq.out hb)
  replace HC1 := Sh.mk (Kd.C_below HC1.out hb)
  replace HC2 := Sh.mk (Kd.C_below HC2.out hb)
  replace HS := Sh.mk (below_of HS.out hb)
  clear hb hI4
  generalize szL l3 = sz
  go_wp2_with fail
  refine (samec_nil E A1 A2 c1 c2 l1.length l2.length l1 l2 w20 (HE.out.below HS.out) HC1.out HC2.out hc1 hc2 (by omega) (HI1.out.same HI2.out)).mono ?_
  rintro e w21 ⟨rfl, hb⟩
  replace HCa := Sh.mk (Kd.C_below HCa.out hb)
  replace HCb := Sh.mk (Kd.C_below HCb.out hb)
  replace HCp := Sh.mk (Kd.C_below HCp.out hb)
  replace HCq := Sh.mk (Kd.C_below HCq.out hb)
  replace HS := Sh.mk (below_of HS.out hb)
  clear hb HC1 HI1 HI2 hl1 hc1 HC2 hc2
  go_wp2_with fail
  refine (num_nil w21).mono ?_
  rintro e w22 ⟨rfl, hw⟩
  have hb : Below w21.heap.size w21 w22 := by rw [← hw]; exact Below.refl _ _
  replace HCa := Sh.mk (Kd.C_below HCa.out hb)
  replace HCb := Sh.mk (Kd.C_below HCb.out hb)
  replace HCp := Sh.mk (Kd.C_below HCp.out hb)
  replace HCq := Sh.mk (Kd.C_below HCq.out hb)
  replace HS := Sh.mk (below_of HS.out hb)
  clear hb hw
  go_wp2
  go_ret
  exact ⟨rfl, HS.out⟩
set_option maxHeartbeats 64000000 in
set_option maxRecDepth 100000 in
theorem ans_both (hma : mayL la = true) (hmb : mayL lb = true) :
    Calls Tryd.prog 17 #[.slice A nA cA, .slice B nB cB, .int .i64 pt] w fun e w' => e = .returned (.bool true) ∧ Below w.heap.size w w' := by
  have HE := Sh.mk hE
  have HMa := Sh.mk hma
  have HMb := Sh.mk hmb
  have HCa := Sh.mk hA
  have HCb := Sh.mk hB
  have HLa := Sh.mk hA.1
  have HLb := Sh.mk hB.1
  have HS := Sh.mk (Below.refl w.heap.size w)
  clear hE hA hB hma hmb
  go_enter Tryd.func17, Tryd.ntmps17
  go_wp2_with fail
  refine (own_any A cA nA la w HCa.out hcA (by omega)).mono ?_
  rintro e w1 ⟨v, rfl, hR, hb⟩
  obtain ⟨Ap, cp, rfl, hcp, hC⟩ := R_open hR nA HLa.out
  have HCp := Sh.mk hC
  replace HCa := Sh.mk (Kd.C_below HCa.out hb)
  replace HCb := Sh.mk (Kd.C_below HCb.out hb)
  replace HS := Sh.mk (below_of HS.out hb)
  clear hR hb hC
  go_wp2_with fail
  refine (own_any B cB nB lb w1 HCb.out hcB (by omega)).mono ?_
  rintro e w2 ⟨v, rfl, hR, hb⟩
  obtain ⟨Aq, cq, rfl, hcq, hC⟩ := R_open hR nB HLb.out
  have HCq := Sh.mk hC
  replace HCa := Sh.mk (Kd.C_below HCa.out hb)
  replace HCb := Sh.mk (Kd.C_below HCb.out hb)
  replace HCp := Sh.mk (Kd.C_below HCp.out hb)
  replace HS := Sh.mk (below_of HS.out hb)
  clear hR hb hC
  go_wp2_with fail
  have hc := normal_any E A cA nA la w2 ((HE.out.below HS.out).sub (by decide)) HCa.out hcA hna
  rw [HMa.out] at hc
  refine hc.mono ?_
  clear hc
  rintro e w3 ⟨v, l1, rfl, hI, hR, hb⟩
  obtain ⟨A1, c1, rfl, hc1, hC⟩ := R_open hR l1.length rfl
  have hl1 := hI.len
  have HI1 := Sh.mk hI
  have HC1 := Sh.mk hC
  replace HCa := Sh.mk (Kd.C_below HCa.out hb)
  replace HCb := Sh.mk (Kd.C_below HCb.out hb)
  replace HCp := Sh.mk (Kd.C_below HCp.out hb)
  replace HCq := Sh.mk (Kd.C_below HCq.out hb)
  replace HS := Sh.mk (below_of HS.out hb)
  clear hI hR hb hC
  go_wp2_with fail
  have hc := refNormal_any Ap cp nA la w3 HCp.out hcp hna
  rw [HMa.out] at hc
  refine hc.mono ?_
  clear hc
  rintro e w4 ⟨v, l2, rfl, hI, hR, hb⟩
  obtain ⟨A2, c2, rfl, hc2, hC⟩ := R_open hR l2.length rfl
  have HI2 := Sh.mk hI
  have HC2 := Sh.mk hC
  replace HCa := Sh.mk (Kd.C_below HCa.out hb)
  replace HCb := Sh.mk (Kd.C_below HCb.out hb)
  replace HCp := Sh.mk (Kd.C_below HCp.out hb)
  replace HCq := Sh.mk (Kd.C_below HCq.out hb)
  replace HC1 := Sh.mk (Kd.C_below HC1.out hb)
  replace HS := Sh.mk (below_of HS.out hb)
  clear hI hR hb hC
  go_wp2_with fail
  refine (samec_nil E A1 A2 c1 c2 l1.length l2.length l1 l2 w4 (HE.out.below HS.out) HC1.out HC2.out hc1 hc2 (by omega) (HI1.out.same HI2.out)).mono ?_
  rintro e w5 ⟨rfl, hb⟩
  replace HCa := Sh.mk (Kd.C_below HCa.out hb)
  replace HCb := Sh.mk (Kd.C_below HCb.out hb)
  replace HCp := Sh.mk (Kd.C_below HCp.out hb)
  replace HCq := Sh.mk (Kd.C_below HCq.out hb)
  replace HS := Sh.mk (below_of HS.out hb)
  clear hb HC1 HI1 HI2 hl1 hc1 HC2 hc2
  go_wp2_with fail
  refine (has_any A cA nA la pt w5 HCa.out hna).mono ?_
  rintro e w6 ⟨rfl, hb⟩
  replace HCa := Sh.mk (Kd.C_below HCa.out hb)
  replace HCb := Sh.mk (Kd.C_below HCb.out hb)
  replace HCp := Sh.mk (Kd.C_below HCp.out hb)
  replace HCq := Sh.mk (Kd.C_below HCq.out hb)
  replace HS := Sh.mk (below_of HS.out hb)
  clear hb
  go_wp2_with fail
  refine (refHas_any Ap cp nA la pt w6 HCp.out hcp (by omega)).mono ?_
  rintro e w7 ⟨rfl, hd⟩
  have hb := hd.below
  replace HCa := Sh.mk (Kd.C_below HCa.out hb)
  replace HCb := Sh.mk (Kd.C_below HCb.out hb)
  replace HCp := Sh.mk (Kd.C_below HCp.out hb)
  replace HCq := Sh.mk (Kd.C_below HCq.out hb)
  replace HS := Sh.mk (below_of HS.out hb)
  clear hb hd
  generalize inL la pt = x
  go_wp2_with fail
  have hc := union_any E A B cA cB nA nB la lb w7 ((HE.out.below HS.out).sub (by decide)) HCa.out hcA hna HCb.out hcB hnb
  rw [HMa.out, HMb.out] at hc
  refine hc.mono ?_
  clear hc
  rintro e w8 ⟨v, l1, rfl, hI, hR, hb⟩
  obtain ⟨A1, c1, rfl, hc1, hC⟩ := R_open hR l1.length rfl
  have hl1 := hI.len
  have HI1 := Sh.mk hI
  have HC1 := Sh.mk hC
  replace HCa := Sh.mk (Kd.C_below HCa.out hb)
  replace HCb := Sh.mk (Kd.C_below HCb.out hb)
  replace HCp := Sh.mk (Kd.C_below HCp.out hb)
  replace HCq := Sh.mk (Kd.C_below HCq.out hb)
  replace HS := Sh.mk (below_of HS.out hb)
  clear hI hR hb hC
  go_wp2_with fail
  have hc := refUnion_any Ap Aq cp cq nA nB la lb w8 HCp.out hcp hna HCq.out hcq hnb
  rw [HMa.out, HMb.out] at hc
  refine hc.mono ?_
  clear hc
  rintro e w9 ⟨v, l2, rfl, hI, hR, hb⟩
  obtain ⟨A2, c2, rfl, hc2, hC⟩ := R_open hR l2.length rfl
  have HI2 := Sh.mk hI
  have HC2 := Sh.mk hC
  replace HCa := Sh.mk (Kd.C_below HCa.out hb)
  replace HCb := Sh.mk (Kd.C_below HCb.out hb)
  replace HCp := Sh.mk (Kd.C_below HCp.out hb)
  replace HCq := Sh.mk (Kd.C_below HCq.out hb)
  replace HC1 := Sh.mk (Kd.C_below HC1.out hb)
  replace HS := Sh.mk (below_of HS.out hb)
  clear hI hR hb hC
  go_wp2_with fail
  refine (samec_nil E A1 A2 c1 c2 l1.length l2.length l1 l2 w9 (HE.out.below HS.out) HC1.out HC2.out hc1 hc2 (by omega) (HI1.out.same HI2.out)).mono ?_
  rintro e w10 ⟨rfl, hb⟩
  replace HCa := Sh.mk (Kd.C_below HCa.out hb)
  replace HCb := Sh.mk (Kd.C_below HCb.out hb)
  replace HCp := Sh.mk (Kd.C_below HCp.out hb)
  replace HCq := Sh.mk (Kd.C_below HCq.out hb)
  replace HS := Sh.mk (below_of HS.out hb)
  clear hb HC1 HI1 HI2 hl1 hc1 HC2 hc2
  go_wp2_with fail
  have hc := inter_any E A B cA cB nA nB la lb w10 ((HE.out.below HS.out).sub (by decide)) HCa.out hcA hna HCb.out hcB hnb
  rw [HMa.out, HMb.out] at hc
  refine hc.mono ?_
  clear hc
  rintro e w11 ⟨v, l1, rfl, hI, hR, hb⟩
  obtain ⟨A1, c1, rfl, hc1, hC⟩ := R_open hR l1.length rfl
  have hl1 := hI.len
  have HI1 := Sh.mk hI
  have HC1 := Sh.mk hC
  replace HCa := Sh.mk (Kd.C_below HCa.out hb)
  replace HCb := Sh.mk (Kd.C_below HCb.out hb)
  replace HCp := Sh.mk (Kd.C_below HCp.out hb)
  replace HCq := Sh.mk (Kd.C_below HCq.out hb)
  replace HS := Sh.mk (below_of HS.out hb)
  clear hI hR hb hC
  go_wp2_with fail
  have hc := refInter_any Ap Aq cp cq nA nB la lb w11 HCp.out hcp hna HCq.out hcq hnb
  rw [HMa.out, HMb.out] at hc
  refine hc.mono ?_
  clear hc
  rintro e w12 ⟨v, l2, rfl, hI, hR, hb⟩
  obtain ⟨A2, c2, rfl, hc2, hC⟩ := R_open hR l2.length rfl
  have HI2 := Sh.mk hI
  have HC2 := Sh.mk hC
  replace HCa := Sh.mk (Kd.C_below HCa.out hb)
  replace HCb := Sh.mk (Kd.C_below HCb.out hb)
  replace HCp := Sh.mk (Kd.C_below HCp.out hb)
  replace HCq := Sh.mk (Kd.C_below HCq.out hb)
  replace HC1 := Sh.mk (Kd.C_below HC1.out hb)
  replace HS := Sh.mk (below_of HS.out hb)
  clear hI hR hb hC
  go_wp2_with fail
  refine (samec_nil E A1 A2 c1 c2 l1.length l2.length l1 l2 w12 (HE.out.below HS.out) HC1.out HC2.out hc1 hc2 (by omega) (HI1.out.same HI2.out)).mono ?_
  rintro e w13 ⟨rfl, hb⟩
  replace HCa := Sh.mk (Kd.C_below HCa.out hb)
  replace HCb := Sh.mk (Kd.C_below HCb.out hb)
  replace HCp := Sh.mk (Kd.C_below HCp.out hb)
  replace HCq := Sh.mk (Kd.C_below HCq.out hb)
  replace HS := Sh.mk (below_of HS.out hb)
  clear hb HC1 HI1 HI2 hl1 hc1 HC2 hc2
  go_wp2_with fail
  have hc := minus_any E A B cA cB nA nB la lb w13 ((HE.out.below HS.out).sub (by decide)) HCa.out hcA hna HCb.out hcB hnb
  rw [HMa.out, HMb.out] at hc
  refine hc.mono ?_
  clear hc
  rintro e w14 ⟨v, l1, rfl, hI, hR, hb⟩
  obtain ⟨A1, c1, rfl, hc1, hC⟩ := R_open hR l1.length rfl
  have hl1 := hI.len
  have HI1 := Sh.mk hI
  have HC1 := Sh.mk hC
  replace HCa := Sh.mk (Kd.C_below HCa.out hb)
  replace HCb := Sh.mk (Kd.C_below HCb.out hb)
  replace HCp := Sh.mk (Kd.C_below HCp.out hb)
  replace HCq := Sh.mk (Kd.C_below HCq.out hb)
  replace HS := Sh.mk (below_of HS.out hb)
  clear hI hR hb hC
  go_wp2_with fail
  have hc := refMinus_any Ap Aq cp cq nA nB la lb w14 HCp.out hcp hna HCq.out hcq hnb
  rw [HMa.out, HMb.out] at hc
  refine hc.mono ?_
  clear hc
  rintro e w15 ⟨v, l2, rfl, hI, hR, hb⟩
  obtain ⟨A2, c2, rfl, hc2, hC⟩ := R_open hR l2.length rfl
  have HI2 := Sh.mk hI
  have HC2 := Sh.mk hC
  replace HCa := Sh.mk (Kd.C_below HCa.out hb)
  replace HCb := Sh.mk (Kd.C_below HCb.out hb)
  replace HCp := Sh.mk (Kd.C_below HCp.out hb)
  replace HCq := Sh.mk (Kd.C_below HCq.out hb)
  replace HC1 := Sh.mk (Kd.C_below HC1.out hb)
  replace HS := Sh.mk (below_of HS.out hb)
  clear hI hR hb hC
  go_wp2_with fail
  refine (samec_nil E A1 A2 c1 c2 l1.length l2.length l1 l2 w15 (HE.out.below HS.out) HC1.out HC2.out hc1 hc2 (by omega) (HI1.out.same HI2.out)).mono ?_
  rintro e w16 ⟨rfl, hb⟩
  replace HCa := Sh.mk (Kd.C_below HCa.out hb)
  replace HCb := Sh.mk (Kd.C_below HCb.out hb)
  replace HCp := Sh.mk (Kd.C_below HCp.out hb)
  replace HCq := Sh.mk (Kd.C_below HCq.out hb)
  replace HS := Sh.mk (below_of HS.out hb)
  clear hb HC1 HI1 HI2 hl1 hc1 HC2 hc2
  go_wp2_with fail
  have hc := not_any E A cA nA la w16 ((HE.out.below HS.out).sub (by decide)) HCa.out hcA hna
  rw [HMa.out] at hc
  refine hc.mono ?_
  clear hc
  rintro e w17 ⟨v, l1, rfl, hI, hR, hb⟩
  obtain ⟨A1, c1, rfl, hc1, hC⟩ := R_open hR l1.length rfl
  have hl1 := hI.len
  have HI1 := Sh.mk hI
  have HC1 := Sh.mk hC
  replace HCa := Sh.mk (Kd.C_below HCa.out hb)
  replace HCb := Sh.mk (Kd.C_below HCb.out hb)
  replace HCp := Sh.mk (Kd.C_below HCp.out hb)
  replace HCq := Sh.mk (Kd.C_below HCq.out hb)
  replace HS := Sh.mk (below_of HS.out hb)
  clear hI hR hb hC
  go_wp2_with fail
  have hc := refNot_any Ap cp nA la w17 HCp.out hcp hna
  rw [HMa.out] at hc
  refine hc.mono ?_
  clear hc
  rintro e w18 ⟨v, l2, rfl, hI, hR, hb⟩
  obtain ⟨A2, c2, rfl, hc2, hC⟩ := R_open hR l2.length rfl
  have HI2 := Sh.mk hI
  have HC2 := Sh.mk hC
  replace HCa := Sh.mk (Kd.C_below HCa.out hb)
  replace HCb := Sh.mk (Kd.C_below HCb.out hb)
  replace HCp := Sh.mk (Kd.C_below HCp.out hb)
  replace HCq := Sh.mk (Kd.C_below HCq.out hb)
  replace HC1 := Sh.mk (Kd.C_below HC1.out hb)
  replace HS := Sh.mk (below_of HS.out hb)
  clear hI hR hb hC
  go_wp2_with fail
  have hc := count_any E A cA nA la w18 ((HE.out.below HS.out).sub (by decide)) HCa.out hcA hna
  rw [HMa.out] at hc
  refine hc.mono ?_
  clear hc
  rintro e w19 ⟨l3, hI3, rfl, hb⟩
  have HI3 := Sh.mk hI3
  replace HCa := Sh.mk (Kd.C_below HCa.out hb)
  replace HCb := Sh.mk (Kd.C_below HCb.out hb)
  replace HCp := Sh.mk (Kd.C_below HCp.out hb)
  replace HCq := Sh.mk (Kd.C_below HCq.out hb)
  replace HC1 := Sh.mk (Kd.C_below HC1.out hb)
  replace HC2 := Sh.mk (Kd.C_below HC2.out hb)
  replace HS := Sh.mk (below_of HS.out hb)
  clear hb hI3
  go_wp2_with fail
  have hc := refCount_any Ap cp nA la w19 HCp.out hcp hna
  rw [HMa.out] at hc
  refine hc.mono ?_
  clear hc
  rintro e w20 ⟨l4, hI4, rfl, hb⟩
  obtain rfl := HI3.out.same hI4
  replace HCa := Sh.mk (Kd.C_below HCa.out hb)
  replace HCb := Sh.mk (Kd.C_below HCb.out hb)
  replace HCp := Sh.mk (Kd.C_below HCp.out hb)
  replace HCq := Sh.mk (Kd.C_below HCq.out hb)
  replace HC1 := Sh.mk (Kd.C_below HC1.out hb)
  replace HC2 := Sh.mk (Kd.C_below HC2.out hb)
  replace HS := Sh.mk (below_of HS.out hb)
  clear hb hI4
  generalize szL l3 = sz
  go_wp2_with fail
  refine (samec_nil E A1 A2 c1 c2 l1.length l2.length l1 l2 w20 (HE.out.below HS.out) HC1.out HC2.out hc1 hc2 (by omega) (HI1.out.same HI2.out)).mono ?_
  rintro e w21 ⟨rfl, hb⟩
  replace HCa := Sh.mk (Kd.C_below HCa.out hb)
  replace HCb := Sh.mk (Kd.C_below HCb.out hb)
  replace HCp := Sh.mk (Kd.C_below HCp.out hb)
  replace HCq := Sh.mk (Kd.C_below HCq.out hb)
  replace HS := Sh.mk (below_of HS.out hb)
  clear hb HC1 HI1 HI2 hl1 hc1 HC2 hc2
  go_wp2_with fail
  refine (num_nil w21).mono ?_
  rintro e w22 ⟨rfl, hw⟩
  have hb : Below w21.heap.size w21 w22 := by rw [← hw]; exact Below.refl _ _
  replace HCa := Sh.mk (Kd.C_below HCa.out hb)
  replace HCb := Sh.mk (Kd.C_below HCb.out hb)
  replace HCp := Sh.mk (Kd.C_below HCp.out hb)
  replace HCq := Sh.mk (Kd.C_below HCq.out hb)
  replace HS := Sh.mk (below_of HS.out hb)
  clear hb hw
  go_wp2
  go_ret
  exact ⟨rfl, HS.out⟩
theorem ans_any :
    Calls Tryd.prog 17 #[.slice A nA cA, .slice B nB cB, .int .i64 pt] w fun e w' => e = .returned (.bool true) ∧ Below w.heap.size w w' := by
  cases hma : mayL la with
  | false => exact ans_none E A B cA cB nA nB la lb pt w hE hA hB hcA hcB hna hnb hma
  | true =>
    cases hmb : mayL lb with
    | false => exact ans_one E A B cA cB nA nB la lb pt w hE hA hB hcA hcB hna hnb hma hmb
    | true => exact ans_both E A B cA cB nA nB la lb pt w hE hA hB hcA hcB hna hnb hma hmb
end
end Go.Proofs.YthjdjgppghplgaaDoor
