/-
The walk of caesuralaw3.RangesPoints. Conditions: lists of at most 2^20 ranges; ErrArg reads as listed.
-/
import Derived.Test.YthjdjgppghplgaaDoorRgCountsW
namespace Go.Proofs.YthjdjgppghplgaaDoor
open Go Go.RowKit Go.Proofs.YthjdjgppghplgaaDoorW.PrintWords Go.Proofs.YthjdjgppghplgaaDoorW.PrintLast Go.Proofs.YthjdjgppghplgaaDoorW.PrintMore
/-- What lies in memory between two rounds. -/
structure PQ (w W : World) (g : Nat) (A B : Option Addr) (cA cB nA nB : Nat) (la lb : List Rg) (pt : Int) (An At Au Ai Am : Option Addr) (nn nt nu ni nm : Nat) (ln lt lu li lm : List Rg) (Al : Option Addr) (nl : Nat) (r : List Int) : Prop where
  rq : RQ w W g A B cA cB nA nB la lb pt
  n : rgK.C W An nn ln
  t : rgK.C W At nt lt
  u : rgK.C W Au nu lu
  i : rgK.C W Ai ni li
  m : rgK.C W Am nm lm
  l : (Kd.int .i64).C W Al nl r
theorem PQ.below {w W W1 : World} {g : Nat} {A B : Option Addr} {cA cB nA nB : Nat} {la lb : List Rg} {pt : Int} {An At Au Ai Am : Option Addr} {nn nt nu ni nm : Nat} {ln lt lu li lm : List Rg} {Al : Option Addr} {nl : Nat} {r : List Int}
    (h : PQ w W g A B cA cB nA nB la lb pt An At Au Ai Am nn nt nu ni nm ln lt lu li lm Al nl r) (hb : Below W.heap.size W W1) : PQ w W1 g A B cA cB nA nB la lb pt An At Au Ai Am nn nt nu ni nm ln lt lu li lm Al nl r :=
  ⟨h.rq.below hb, Kd.C_below h.n hb, Kd.C_below h.t hb, Kd.C_below h.u hb, Kd.C_below h.i hb, Kd.C_below h.m hb, Kd.C_below h.l hb⟩
theorem is_in {q : Int → Bool} {l : List Rg} (h : Is q l) (p : Int) : inL l p = (decide (0 ≤ p ∧ p ≤ 1114111) && q p) := h.2 p
theorem out_may {l : List Rg} (h : mayL l = true) {p : Int} (hp : ¬ (0 ≤ p ∧ p ≤ 1114111)) : inL l p = false := by
  cases hh : inL l p with
  | false => rfl
  | true => exact absurd (may_in h hh) hp
section
variable (E : Nat → Addr) (A B : Option Addr) (cA cB nA nB : Nat) (la lb : List Rg) (pt : Int) (w : World) (hE : GS [1] E w) (hA : rgK.C w A nA la) (hB : rgK.C w B nB lb) (hcA : nA ≤ cA) (hcB : nB ≤ cB) (hna : nA ≤ 1048576) (hnb : nB ≤ 1048576)
include hE hA hB hcA hcB hna hnb
set_option maxHeartbeats 64000000 in
set_option maxRecDepth 100000 in
theorem points_none (hma : mayL la = false) :
    Calls Tryd.prog 6 #[.agg #[.slice A nA cA, .slice B nB cB, .int .i64 pt]] w fun e w' => e = .returned (.bool true) ∧ Below w.heap.size w w' := by
  have HE := Sh.mk hE
  have HMa := Sh.mk hma
  obtain ⟨W0, hW0⟩ : ∃ W0, W0 = w.alloc (.cells #[.slice A nA cA, .slice B nB cB, .int .i64 pt] TwT) := ⟨_, rfl⟩
  obtain ⟨g, hg⟩ : ∃ g, g = w.heap.size := ⟨_, rfl⟩
  have hb0 : Below w.heap.size w W0 := by rw [hW0]; exact (Below.refl _ _).alloc (Nat.le_refl _) _
  have HS := Sh.mk (show RQ w W0 g A B cA cB nA nB la lb pt from ⟨hb0, by rw [hW0, hg]; exact blk_new _ _, Kd.C_below hA hb0, Kd.C_below hB hb0⟩)
  have HW := Sh.mk hW0
  have HG := Sh.mk hg
  clear hE hA hB hW0 hg hb0 hma
  go_enter Tryd.func6, Tryd.ntmps6
  go_wp2_with fail
  rw [← HW.out, ← HG.out]
  clear HW
  refine (begun_any E W0 (HE.out.below HS.out.bel)).mono ?_
  rintro e w1 ⟨rfl, hb⟩
  replace HS := Sh.mk (HS.out.below hb)
  clear hb
  obtain ⟨z0, z1, z2⟩ := HS.out.cells
  go_wp2_with fail
  have hc := normal_any E A cA nA la w1 (HE.out.below HS.out.bel) HS.out.a hcA hna
  rw [HMa.out] at hc
  refine hc.mono ?_
  clear hc z0 z1 z2
  rintro e w2 ⟨rfl, hb⟩
  replace HS := Sh.mk (HS.out.below hb)
  clear hb
  obtain ⟨z0, z1, z2⟩ := HS.out.cells
  go_wp2_with fail
  have hc := not_any E A cA nA la w2 (HE.out.below HS.out.bel) HS.out.a hcA hna
  rw [HMa.out] at hc
  refine hc.mono ?_
  clear hc z0 z1 z2
  rintro e w3 ⟨rfl, hb⟩
  replace HS := Sh.mk (HS.out.below hb)
  clear hb
  obtain ⟨z0, z1, z2⟩ := HS.out.cells
  go_wp2_with fail
  have hc := union_any E A B cA cB nA nB la lb w3 (HE.out.below HS.out.bel) HS.out.a hcA hna HS.out.b hcB hnb
  rw [show (mayL la && mayL lb) = false by rw [HMa.out]; rfl] at hc
  refine hc.mono ?_
  clear hc z0 z1 z2
  rintro e w4 ⟨rfl, hb⟩
  replace HS := Sh.mk (HS.out.below hb)
  clear hb
  obtain ⟨z0, z1, z2⟩ := HS.out.cells
  go_wp2_with fail
  have hc := inter_any E A B cA cB nA nB la lb w4 (HE.out.below HS.out.bel) HS.out.a hcA hna HS.out.b hcB hnb
  rw [show (mayL la && mayL lb) = false by rw [HMa.out]; rfl] at hc
  refine hc.mono ?_
  clear hc z0 z1 z2
  rintro e w5 ⟨rfl, hb⟩
  replace HS := Sh.mk (HS.out.below hb)
  clear hb
  obtain ⟨z0, z1, z2⟩ := HS.out.cells
  go_wp2_with fail
  have hc := minus_any E A B cA cB nA nB la lb w5 (HE.out.below HS.out.bel) HS.out.a hcA hna HS.out.b hcB hnb
  rw [show (mayL la && mayL lb) = false by rw [HMa.out]; rfl] at hc
  refine hc.mono ?_
  clear hc z0 z1 z2
  rintro e w6 ⟨rfl, hb⟩
  replace HS := Sh.mk (HS.out.below hb)
  clear hb
  obtain ⟨z0, z1, z2⟩ := HS.out.cells
  go_wp2_with fail
  refine (may3_any A cA nA la w6 HS.out.a hcA (by omega)).mono ?_
  rw [HMa.out]
  rintro e w7 ⟨rfl, hd⟩
  replace HS := Sh.mk (HS.out.below hd.below)
  clear hd
  clear z0 z1 z2
  go_wp2_with fail
  refine (normal3_any none 0 0 [] w7 trivial (C_nilR _) (by omega) (by omega)).mono ?_
  rintro e w8 ⟨rfl, hd⟩
  replace HS := Sh.mk (HS.out.below hd.below)
  clear hd
  go_wp2_with fail
  refine (normal3_any none 0 0 [] w8 trivial (C_nilR _) (by omega) (by omega)).mono ?_
  rintro e w9 ⟨rfl, hd⟩
  replace HS := Sh.mk (HS.out.below hd.below)
  clear hd
  go_wp2_with fail
  refine (normal3_any none 0 0 [] w9 trivial (C_nilR _) (by omega) (by omega)).mono ?_
  rintro e w10 ⟨rfl, hd⟩
  replace HS := Sh.mk (HS.out.below hd.below)
  clear hd
  go_wp2_with fail
  refine (normal3_any none 0 0 [] w10 trivial (C_nilR _) (by omega) (by omega)).mono ?_
  rintro e w11 ⟨rfl, hd⟩
  replace HS := Sh.mk (HS.out.below hd.below)
  clear hd
  go_wp2_with fail
  refine (normal3_any none 0 0 [] w11 trivial (C_nilR _) (by omega) (by omega)).mono ?_
  rintro e w12 ⟨rfl, hd⟩
  replace HS := Sh.mk (HS.out.below hd.below)
  clear hd
  obtain ⟨z0, z1, z2⟩ := HS.out.cells
  go_wp2_with fail
  refine (edges3_any A B cA cB nA nB la lb pt w12 HS.out.a HS.out.b hcA hcB hna hnb).mono ?_
  rintro e w13 ⟨v, r, rfl, hR, hrl, hb⟩
  obtain ⟨nl, hnl⟩ : ∃ n, n = r.length := ⟨_, rfl⟩
  obtain ⟨Al, cl, rfl, hcl, hC⟩ := R_open hR nl hnl.symm
  rw [← hnl] at hrl
  have HP := Sh.mk (show PQ w w13 g A B cA cB nA nB la lb pt none none none none none 0 0 0 0 0 [] [] [] [] [] Al nl r from ⟨HS.out.below hb, C_nilR _, C_nilR _, C_nilR _, C_nilR _, C_nilR _, hC⟩)
  clear hR hb hC hnl HS z0 z1 z2 
  go_wp2
  go_loopw [16] (fun i wr => ∃ k : Nat, k ≤ nl ∧ i = .int .i64 k ∧ Sh (PQ w wr g A B cA cB nA nB la lb pt none none none none none 0 0 0 0 0 [] [] [] [] [] Al nl r)) (fun i _ => nl - (intOf i).toNat)
  case atStart => exact ⟨0, by omega, rfl, HP⟩
  case round =>
    obtain ⟨k, hk, rfl, HP⟩ := hrel
    by_cases hlt : k < nl
    case neg =>
      obtain rfl : k = nl := by omega
      go_wp2
      go_ret
      exact ⟨rfl, HP.out.rq.bel⟩
    case pos =>
      obtain ⟨ad, e1, hx⟩ := C_at HP.out.l k hlt
      cases e1
      obtain ⟨q, hq⟩ : ∃ q, q = rd r k := ⟨_, rfl⟩
      rw [← hq] at hx
      clear hq
      obtain ⟨x, hxx⟩ : ∃ x, x = inL la q := ⟨_, rfl⟩
      obtain ⟨y, hyy⟩ : ∃ y, y = inL lb q := ⟨_, rfl⟩
      have HqA := Sh.mk (fun n => quiet_dr (in3_any A cA nA la q (wr.drewN n) (Kd.C_drewN HP.out.rq.a n) hcA (by omega)))
      have HqB := Sh.mk (fun n => quiet_dr (in3_any B cB nB lb q (wr.drewN n) (Kd.C_drewN HP.out.rq.b n) hcB (by omega)))
      rw [← hxx] at HqA
      rw [← hyy] at HqB
      have HX := Sh.mk hxx
      have HY := Sh.mk hyy
      clear hxx hyy
      rcases (show (decide (0 ≤ q) = true ∧ decide (q ≤ 1114111) = true) ∨ (decide (0 ≤ q) = true ∧ decide (q ≤ 1114111) = false) ∨ decide (0 ≤ q) = false by simp only [decide_eq_true_eq, decide_eq_false_iff_not]; omega) with ⟨q0, q1⟩ | ⟨q0, q1⟩ | q0
      all_goals
        obtain ⟨z0, z1, z2⟩ := HP.out.rq.cells
        go_wp2
        go_quiet ((go_at_call 25; first | (with_reducible exact HqA.out _) | (with_reducible exact HqB.out _)))
        go_wp2_with fail
        refine (has_any A cA nA la q _ (Kd.C_drewN HP.out.rq.a _) (by omega)).mono ?_
        rw [← HX.out]
        rintro e x1 ⟨rfl, hb⟩
        replace HP := Sh.mk ((HP.out.below (pw_below_drewN (Below.refl _ _) _)).below hb)
        clear hb z0 z1 z2 HqA HqB hx
        go_wp2
        go_roundw
        case rel => exact ⟨k + 1, by omega, by go_num, HP⟩
        case measure => simp [intOf] <;> omega
set_option maxHeartbeats 64000000 in
set_option maxRecDepth 100000 in
theorem points_one (hma : mayL la = true) (hmb : mayL lb = false) :
    Calls Tryd.prog 6 #[.agg #[.slice A nA cA, .slice B nB cB, .int .i64 pt]] w fun e w' => e = .returned (.bool true) ∧ Below w.heap.size w w' := by
  have HE := Sh.mk hE
  have HMa := Sh.mk hma
  have HMb := Sh.mk hmb
  obtain ⟨W0, hW0⟩ : ∃ W0, W0 = w.alloc (.cells #[.slice A nA cA, .slice B nB cB, .int .i64 pt] TwT) := ⟨_, rfl⟩
  obtain ⟨g, hg⟩ : ∃ g, g = w.heap.size := ⟨_, rfl⟩
  have hb0 : Below w.heap.size w W0 := by rw [hW0]; exact (Below.refl _ _).alloc (Nat.le_refl _) _
  have HS := Sh.mk (show RQ w W0 g A B cA cB nA nB la lb pt from ⟨hb0, by rw [hW0, hg]; exact blk_new _ _, Kd.C_below hA hb0, Kd.C_below hB hb0⟩)
  have HW := Sh.mk hW0
  have HG := Sh.mk hg
  clear hE hA hB hW0 hg hb0 hma hmb
  go_enter Tryd.func6, Tryd.ntmps6
  go_wp2_with fail
  rw [← HW.out, ← HG.out]
  clear HW
  refine (begun_any E W0 (HE.out.below HS.out.bel)).mono ?_
  rintro e w1 ⟨rfl, hb⟩
  replace HS := Sh.mk (HS.out.below hb)
  clear hb
  obtain ⟨z0, z1, z2⟩ := HS.out.cells
  go_wp2_with fail
  have hc := normal_any E A cA nA la w1 (HE.out.below HS.out.bel) HS.out.a hcA hna
  rw [HMa.out] at hc
  refine hc.mono ?_
  clear hc z0 z1 z2
  rintro e w2 ⟨v, ln, rfl, hI, hR, hb⟩
  obtain ⟨An, cn, rfl, hcn, hC⟩ := R_open hR ln.length rfl
  have hln := hI.len
  have HIn := Sh.mk hI
  have HCn := Sh.mk hC
  replace HS := Sh.mk (HS.out.below hb)
  clear hI hR hb hC
  obtain ⟨z0, z1, z2⟩ := HS.out.cells
  go_wp2_with fail
  have hc := not_any E A cA nA la w2 (HE.out.below HS.out.bel) HS.out.a hcA hna
  rw [HMa.out] at hc
  refine hc.mono ?_
  clear hc z0 z1 z2
  rintro e w3 ⟨v, lt, rfl, hI, hR, hb⟩
  obtain ⟨At, ct, rfl, hct, hC⟩ := R_open hR lt.length rfl
  have hlt := hI.len
  have HIt := Sh.mk hI
  have HCt := Sh.mk hC
  replace HCn := Sh.mk (Kd.C_below HCn.out hb)
  replace HS := Sh.mk (HS.out.below hb)
  clear hI hR hb hC
  obtain ⟨z0, z1, z2⟩ := HS.out.cells
  go_wp2_with fail
  have hc := union_any E A B cA cB nA nB la lb w3 (HE.out.below HS.out.bel) HS.out.a hcA hna HS.out.b hcB hnb
  rw [HMa.out, HMb.out] at hc
  refine hc.mono ?_
  clear hc z0 z1 z2
  rintro e w4 ⟨rfl, hb⟩
  replace HCn := Sh.mk (Kd.C_below HCn.out hb)
  replace HCt := Sh.mk (Kd.C_below HCt.out hb)
  replace HS := Sh.mk (HS.out.below hb)
  clear hb
  obtain ⟨z0, z1, z2⟩ := HS.out.cells
  go_wp2_with fail
  have hc := inter_any E A B cA cB nA nB la lb w4 (HE.out.below HS.out.bel) HS.out.a hcA hna HS.out.b hcB hnb
  rw [HMa.out, HMb.out] at hc
  refine hc.mono ?_
  clear hc z0 z1 z2
  rintro e w5 ⟨rfl, hb⟩
  replace HCn := Sh.mk (Kd.C_below HCn.out hb)
  replace HCt := Sh.mk (Kd.C_below HCt.out hb)
  replace HS := Sh.mk (HS.out.below hb)
  clear hb
  obtain ⟨z0, z1, z2⟩ := HS.out.cells
  go_wp2_with fail
  have hc := minus_any E A B cA cB nA nB la lb w5 (HE.out.below HS.out.bel) HS.out.a hcA hna HS.out.b hcB hnb
  rw [HMa.out, HMb.out] at hc
  refine hc.mono ?_
  clear hc z0 z1 z2
  rintro e w6 ⟨rfl, hb⟩
  replace HCn := Sh.mk (Kd.C_below HCn.out hb)
  replace HCt := Sh.mk (Kd.C_below HCt.out hb)
  replace HS := Sh.mk (HS.out.below hb)
  clear hb
  obtain ⟨z0, z1, z2⟩ := HS.out.cells
  go_wp2_with fail
  refine (may3_any A cA nA la w6 HS.out.a hcA (by omega)).mono ?_
  rw [HMa.out]
  rintro e w7 ⟨rfl, hd⟩
  replace HCn := Sh.mk (Kd.C_below HCn.out hd.below)
  replace HCt := Sh.mk (Kd.C_below HCt.out hd.below)
  replace HS := Sh.mk (HS.out.below hd.below)
  clear hd
  clear z0 z1 z2
  obtain ⟨z0, z1, z2⟩ := HS.out.cells
  go_wp2_with fail
  refine (may3_any B cB nB lb w7 HS.out.b hcB (by omega)).mono ?_
  rw [HMb.out]
  rintro e w8 ⟨rfl, hd⟩
  replace HCn := Sh.mk (Kd.C_below HCn.out hd.below)
  replace HCt := Sh.mk (Kd.C_below HCt.out hd.below)
  replace HS := Sh.mk (HS.out.below hd.below)
  clear hd
  clear z0 z1 z2
  go_wp2_with fail
  refine (normal3_any An cn ln.length ln w8 HIn.out.1 HCn.out hcn (by omega)).mono ?_
  rintro e w9 ⟨rfl, hd⟩
  replace HCn := Sh.mk (Kd.C_below HCn.out hd.below)
  replace HCt := Sh.mk (Kd.C_below HCt.out hd.below)
  replace HS := Sh.mk (HS.out.below hd.below)
  clear hd
  go_wp2_with fail
  refine (normal3_any At ct lt.length lt w9 HIt.out.1 HCt.out hct (by omega)).mono ?_
  rintro e w10 ⟨rfl, hd⟩
  replace HCn := Sh.mk (Kd.C_below HCn.out hd.below)
  replace HCt := Sh.mk (Kd.C_below HCt.out hd.below)
  replace HS := Sh.mk (HS.out.below hd.below)
  clear hd
  go_wp2_with fail
  refine (normal3_any none 0 0 [] w10 trivial (C_nilR _) (by omega) (by omega)).mono ?_
  rintro e w11 ⟨rfl, hd⟩
  replace HCn := Sh.mk (Kd.C_below HCn.out hd.below)
  replace HCt := Sh.mk (Kd.C_below HCt.out hd.below)
  replace HS := Sh.mk (HS.out.below hd.below)
  clear hd
  go_wp2_with fail
  refine (normal3_any none 0 0 [] w11 trivial (C_nilR _) (by omega) (by omega)).mono ?_
  rintro e w12 ⟨rfl, hd⟩
  replace HCn := Sh.mk (Kd.C_below HCn.out hd.below)
  replace HCt := Sh.mk (Kd.C_below HCt.out hd.below)
  replace HS := Sh.mk (HS.out.below hd.below)
  clear hd
  go_wp2_with fail
  refine (normal3_any none 0 0 [] w12 trivial (C_nilR _) (by omega) (by omega)).mono ?_
  rintro e w13 ⟨rfl, hd⟩
  replace HCn := Sh.mk (Kd.C_below HCn.out hd.below)
  replace HCt := Sh.mk (Kd.C_below HCt.out hd.below)
  replace HS := Sh.mk (HS.out.below hd.below)
  clear hd
  obtain ⟨z0, z1, z2⟩ := HS.out.cells
  go_wp2_with fail
  refine (edges3_any A B cA cB nA nB la lb pt w13 HS.out.a HS.out.b hcA hcB hna hnb).mono ?_
  rintro e w14 ⟨v, r, rfl, hR, hrl, hb⟩
  obtain ⟨nl, hnl⟩ : ∃ n, n = r.length := ⟨_, rfl⟩
  obtain ⟨Al, cl, rfl, hcl, hC⟩ := R_open hR nl hnl.symm
  rw [← hnl] at hrl
  have HP := Sh.mk (show PQ w w14 g A B cA cB nA nB la lb pt An At none none none (ln.length) (lt.length) 0 0 0 ln lt [] [] [] Al nl r from ⟨HS.out.below hb, Kd.C_below HCn.out hb, Kd.C_below HCt.out hb, C_nilR _, C_nilR _, C_nilR _, hC⟩)
  clear hR hb hC hnl HS z0 z1 z2 HCn HCt
  go_wp2
  go_loopw [16] (fun i wr => ∃ k : Nat, k ≤ nl ∧ i = .int .i64 k ∧ Sh (PQ w wr g A B cA cB nA nB la lb pt An At none none none (ln.length) (lt.length) 0 0 0 ln lt [] [] [] Al nl r)) (fun i _ => nl - (intOf i).toNat)
  case atStart => exact ⟨0, by omega, rfl, HP⟩
  case round =>
    obtain ⟨k, hk, rfl, HP⟩ := hrel
    by_cases hlt : k < nl
    case neg =>
      obtain rfl : k = nl := by omega
      go_wp2
      go_ret
      exact ⟨rfl, HP.out.rq.bel⟩
    case pos =>
      obtain ⟨ad, e1, hx⟩ := C_at HP.out.l k hlt
      cases e1
      obtain ⟨q, hq⟩ : ∃ q, q = rd r k := ⟨_, rfl⟩
      rw [← hq] at hx
      clear hq
      obtain ⟨x, hxx⟩ : ∃ x, x = inL la q := ⟨_, rfl⟩
      obtain ⟨y, hyy⟩ : ∃ y, y = inL lb q := ⟨_, rfl⟩
      have HqA := Sh.mk (fun n => quiet_dr (in3_any A cA nA la q (wr.drewN n) (Kd.C_drewN HP.out.rq.a n) hcA (by omega)))
      have HqB := Sh.mk (fun n => quiet_dr (in3_any B cB nB lb q (wr.drewN n) (Kd.C_drewN HP.out.rq.b n) hcB (by omega)))
      rw [← hxx] at HqA
      rw [← hyy] at HqB
      have HX := Sh.mk hxx
      have HY := Sh.mk hyy
      clear hxx hyy
      by_cases hin : 0 ≤ q ∧ q ≤ 1114111
      case pos =>
        have q0 : decide (0 ≤ q) = true := decide_eq_true hin.1
        have q1 : decide (q ≤ 1114111) = true := decide_eq_true hin.2
        cases x with
        | true =>
          have HN := Sh.mk (show inL ln q = true by rw [is_in HIn.out q, ← HX.out, decide_eq_true hin]; rfl)
          have HT := Sh.mk (show inL lt q = false by rw [is_in HIt.out q, ← HX.out, decide_eq_true hin]; rfl)
          clear hin
          obtain ⟨z0, z1, z2⟩ := HP.out.rq.cells
          go_wp2
          go_quiet ((go_at_call 25; first | (with_reducible exact HqA.out _) | (with_reducible exact HqB.out _)))
          go_wp2_with fail
          refine (has_any A cA nA la q _ (Kd.C_drewN HP.out.rq.a _) (by omega)).mono ?_
          rw [← HX.out]
          rintro e x1 ⟨rfl, hb⟩
          replace HP := Sh.mk ((HP.out.below (pw_below_drewN (Below.refl _ _) _)).below hb)
          clear hb z0 z1 z2 HqA HqB hx
          go_wp2_with fail
          refine (in3_any An cn (ln.length) ln q _ HP.out.n hcn (by omega)).mono ?_
          rw [HN.out]
          rintro e x2 ⟨rfl, hd⟩
          replace HP := Sh.mk (HP.out.below hd.below)
          clear hd
          go_wp2_with fail
          refine (in3_any At ct (lt.length) lt q _ HP.out.t hct (by omega)).mono ?_
          rw [HT.out]
          rintro e x3 ⟨rfl, hd⟩
          replace HP := Sh.mk (HP.out.below hd.below)
          clear hd
          go_wp2
          go_roundw
          case rel => exact ⟨k + 1, by omega, by go_num, HP⟩
          case measure => simp [intOf] <;> omega
        | false =>
          have HN := Sh.mk (show inL ln q = false by rw [is_in HIn.out q, ← HX.out, decide_eq_true hin]; rfl)
          have HT := Sh.mk (show inL lt q = true by rw [is_in HIt.out q, ← HX.out, decide_eq_true hin]; rfl)
          clear hin
          obtain ⟨z0, z1, z2⟩ := HP.out.rq.cells
          go_wp2
          go_quiet ((go_at_call 25; first | (with_reducible exact HqA.out _) | (with_reducible exact HqB.out _)))
          go_wp2_with fail
          refine (has_any A cA nA la q _ (Kd.C_drewN HP.out.rq.a _) (by omega)).mono ?_
          rw [← HX.out]
          rintro e x1 ⟨rfl, hb⟩
          replace HP := Sh.mk ((HP.out.below (pw_below_drewN (Below.refl _ _) _)).below hb)
          clear hb z0 z1 z2 HqA HqB hx
          go_wp2_with fail
          refine (in3_any An cn (ln.length) ln q _ HP.out.n hcn (by omega)).mono ?_
          rw [HN.out]
          rintro e x2 ⟨rfl, hd⟩
          replace HP := Sh.mk (HP.out.below hd.below)
          clear hd
          go_wp2_with fail
          refine (in3_any At ct (lt.length) lt q _ HP.out.t hct (by omega)).mono ?_
          rw [HT.out]
          rintro e x3 ⟨rfl, hd⟩
          replace HP := Sh.mk (HP.out.below hd.below)
          clear hd
          go_wp2
          go_roundw
          case rel => exact ⟨k + 1, by omega, by go_num, HP⟩
          case measure => simp [intOf] <;> omega
      case neg =>
        obtain rfl : x = false := by rw [HX.out]; exact out_may HMa.out hin
        have HN := Sh.mk (show inL ln q = false by rw [is_in HIn.out q, ← HX.out, decide_eq_false hin]; rfl)
        have HT := Sh.mk (show inL lt q = false by rw [is_in HIt.out q, ← HX.out, decide_eq_false hin]; rfl)
        rcases (show (decide (0 ≤ q) = true ∧ decide (q ≤ 1114111) = false) ∨ decide (0 ≤ q) = false by simp only [decide_eq_true_eq, decide_eq_false_iff_not]; omega) with ⟨q0, q1⟩ | q0
        all_goals
          clear hin
          obtain ⟨z0, z1, z2⟩ := HP.out.rq.cells
          go_wp2
          go_quiet ((go_at_call 25; first | (with_reducible exact HqA.out _) | (with_reducible exact HqB.out _)))
          go_wp2_with fail
          refine (has_any A cA nA la q _ (Kd.C_drewN HP.out.rq.a _) (by omega)).mono ?_
          rw [← HX.out]
          rintro e x1 ⟨rfl, hb⟩
          replace HP := Sh.mk ((HP.out.below (pw_below_drewN (Below.refl _ _) _)).below hb)
          clear hb z0 z1 z2 HqA HqB hx
          go_wp2_with fail
          refine (in3_any An cn (ln.length) ln q _ HP.out.n hcn (by omega)).mono ?_
          rw [HN.out]
          rintro e x2 ⟨rfl, hd⟩
          replace HP := Sh.mk (HP.out.below hd.below)
          clear hd
          go_wp2_with fail
          refine (in3_any At ct (lt.length) lt q _ HP.out.t hct (by omega)).mono ?_
          rw [HT.out]
          rintro e x3 ⟨rfl, hd⟩
          replace HP := Sh.mk (HP.out.below hd.below)
          clear hd
          go_wp2
          go_roundw
          case rel => exact ⟨k + 1, by omega, by go_num, HP⟩
          case measure => simp [intOf] <;> omega
set_option maxHeartbeats 64000000 in
set_option maxRecDepth 100000 in
theorem points_both (hma : mayL la = true) (hmb : mayL lb = true) :
    Calls Tryd.prog 6 #[.agg #[.slice A nA cA, .slice B nB cB, .int .i64 pt]] w fun e w' => e = .returned (.bool true) ∧ Below w.heap.size w w' := by
  have HE := Sh.mk hE
  have HMa := Sh.mk hma
  have HMb := Sh.mk hmb
  obtain ⟨W0, hW0⟩ : ∃ W0, W0 = w.alloc (.cells #[.slice A nA cA, .slice B nB cB, .int .i64 pt] TwT) := ⟨_, rfl⟩
  obtain ⟨g, hg⟩ : ∃ g, g = w.heap.size := ⟨_, rfl⟩
  have hb0 : Below w.heap.size w W0 := by rw [hW0]; exact (Below.refl _ _).alloc (Nat.le_refl _) _
  have HS := Sh.mk (show RQ w W0 g A B cA cB nA nB la lb pt from ⟨hb0, by rw [hW0, hg]; exact blk_new _ _, Kd.C_below hA hb0, Kd.C_below hB hb0⟩)
  have HW := Sh.mk hW0
  have HG := Sh.mk hg
  clear hE hA hB hW0 hg hb0 hma hmb
  go_enter Tryd.func6, Tryd.ntmps6
  go_wp2_with fail
  rw [← HW.out, ← HG.out]
  clear HW
  refine (begun_any E W0 (HE.out.below HS.out.bel)).mono ?_
  rintro e w1 ⟨rfl, hb⟩
  replace HS := Sh.mk (HS.out.below hb)
  clear hb
  obtain ⟨z0, z1, z2⟩ := HS.out.cells
  go_wp2_with fail
  have hc := normal_any E A cA nA la w1 (HE.out.below HS.out.bel) HS.out.a hcA hna
  rw [HMa.out] at hc
  refine hc.mono ?_
  clear hc z0 z1 z2
  rintro e w2 ⟨v, ln, rfl, hI, hR, hb⟩
  obtain ⟨An, cn, rfl, hcn, hC⟩ := R_open hR ln.length rfl
  have hln := hI.len
  have HIn := Sh.mk hI
  have HCn := Sh.mk hC
  replace HS := Sh.mk (HS.out.below hb)
  clear hI hR hb hC
  obtain ⟨z0, z1, z2⟩ := HS.out.cells
  go_wp2_with fail
  have hc := not_any E A cA nA la w2 (HE.out.below HS.out.bel) HS.out.a hcA hna
  rw [HMa.out] at hc
  refine hc.mono ?_
  clear hc z0 z1 z2
  rintro e w3 ⟨v, lt, rfl, hI, hR, hb⟩
  obtain ⟨At, ct, rfl, hct, hC⟩ := R_open hR lt.length rfl
  have hlt := hI.len
  have HIt := Sh.mk hI
  have HCt := Sh.mk hC
  replace HCn := Sh.mk (Kd.C_below HCn.out hb)
  replace HS := Sh.mk (HS.out.below hb)
  clear hI hR hb hC
  obtain ⟨z0, z1, z2⟩ := HS.out.cells
  go_wp2_with fail
  have hc := union_any E A B cA cB nA nB la lb w3 (HE.out.below HS.out.bel) HS.out.a hcA hna HS.out.b hcB hnb
  rw [HMa.out, HMb.out] at hc
  refine hc.mono ?_
  clear hc z0 z1 z2
  rintro e w4 ⟨v, lu, rfl, hI, hR, hb⟩
  obtain ⟨Au, cu, rfl, hcu, hC⟩ := R_open hR lu.length rfl
  have hlu := hI.len
  have HIu := Sh.mk hI
  have HCu := Sh.mk hC
  replace HCn := Sh.mk (Kd.C_below HCn.out hb)
  replace HCt := Sh.mk (Kd.C_below HCt.out hb)
  replace HS := Sh.mk (HS.out.below hb)
  clear hI hR hb hC
  obtain ⟨z0, z1, z2⟩ := HS.out.cells
  go_wp2_with fail
  have hc := inter_any E A B cA cB nA nB la lb w4 (HE.out.below HS.out.bel) HS.out.a hcA hna HS.out.b hcB hnb
  rw [HMa.out, HMb.out] at hc
  refine hc.mono ?_
  clear hc z0 z1 z2
  rintro e w5 ⟨v, li, rfl, hI, hR, hb⟩
  obtain ⟨Ai, ci, rfl, hci, hC⟩ := R_open hR li.length rfl
  have hli := hI.len
  have HIi := Sh.mk hI
  have HCi := Sh.mk hC
  replace HCn := Sh.mk (Kd.C_below HCn.out hb)
  replace HCt := Sh.mk (Kd.C_below HCt.out hb)
  replace HCu := Sh.mk (Kd.C_below HCu.out hb)
  replace HS := Sh.mk (HS.out.below hb)
  clear hI hR hb hC
  obtain ⟨z0, z1, z2⟩ := HS.out.cells
  go_wp2_with fail
  have hc := minus_any E A B cA cB nA nB la lb w5 (HE.out.below HS.out.bel) HS.out.a hcA hna HS.out.b hcB hnb
  rw [HMa.out, HMb.out] at hc
  refine hc.mono ?_
  clear hc z0 z1 z2
  rintro e w6 ⟨v, lm, rfl, hI, hR, hb⟩
  obtain ⟨Am, cm, rfl, hcm, hC⟩ := R_open hR lm.length rfl
  have hlm := hI.len
  have HIm := Sh.mk hI
  have HCm := Sh.mk hC
  replace HCn := Sh.mk (Kd.C_below HCn.out hb)
  replace HCt := Sh.mk (Kd.C_below HCt.out hb)
  replace HCu := Sh.mk (Kd.C_below HCu.out hb)
  replace HCi := Sh.mk (Kd.C_below HCi.out hb)
  replace HS := Sh.mk (HS.out.below hb)
  clear hI hR hb hC
  obtain ⟨z0, z1, z2⟩ := HS.out.cells
  go_wp2_with fail
  refine (may3_any A cA nA la w6 HS.out.a hcA (by omega)).mono ?_
  rw [HMa.out]
  rintro e w7 ⟨rfl, hd⟩
  replace HCn := Sh.mk (Kd.C_below HCn.out hd.below)
  replace HCt := Sh.mk (Kd.C_below HCt.out hd.below)
  replace HCu := Sh.mk (Kd.C_below HCu.out hd.below)
  replace HCi := Sh.mk (Kd.C_below HCi.out hd.below)
  replace HCm := Sh.mk (Kd.C_below HCm.out hd.below)
  replace HS := Sh.mk (HS.out.below hd.below)
  clear hd
  clear z0 z1 z2
  obtain ⟨z0, z1, z2⟩ := HS.out.cells
  go_wp2_with fail
  refine (may3_any B cB nB lb w7 HS.out.b hcB (by omega)).mono ?_
  rw [HMb.out]
  rintro e w8 ⟨rfl, hd⟩
  replace HCn := Sh.mk (Kd.C_below HCn.out hd.below)
  replace HCt := Sh.mk (Kd.C_below HCt.out hd.below)
  replace HCu := Sh.mk (Kd.C_below HCu.out hd.below)
  replace HCi := Sh.mk (Kd.C_below HCi.out hd.below)
  replace HCm := Sh.mk (Kd.C_below HCm.out hd.below)
  replace HS := Sh.mk (HS.out.below hd.below)
  clear hd
  clear z0 z1 z2
  go_wp2_with fail
  refine (normal3_any An cn ln.length ln w8 HIn.out.1 HCn.out hcn (by omega)).mono ?_
  rintro e w9 ⟨rfl, hd⟩
  replace HCn := Sh.mk (Kd.C_below HCn.out hd.below)
  replace HCt := Sh.mk (Kd.C_below HCt.out hd.below)
  replace HCu := Sh.mk (Kd.C_below HCu.out hd.below)
  replace HCi := Sh.mk (Kd.C_below HCi.out hd.below)
  replace HCm := Sh.mk (Kd.C_below HCm.out hd.below)
  replace HS := Sh.mk (HS.out.below hd.below)
  clear hd
  go_wp2_with fail
  refine (normal3_any At ct lt.length lt w9 HIt.out.1 HCt.out hct (by omega)).mono ?_
  rintro e w10 ⟨rfl, hd⟩
  replace HCn := Sh.mk (Kd.C_below HCn.out hd.below)
  replace HCt := Sh.mk (Kd.C_below HCt.out hd.below)
  replace HCu := Sh.mk (Kd.C_below HCu.out hd.below)
  replace HCi := Sh.mk (Kd.C_below HCi.out hd.below)
  replace HCm := Sh.mk (Kd.C_below HCm.out hd.below)
  replace HS := Sh.mk (HS.out.below hd.below)
  clear hd
  go_wp2_with fail
  refine (normal3_any Au cu lu.length lu w10 HIu.out.1 HCu.out hcu (by omega)).mono ?_
  rintro e w11 ⟨rfl, hd⟩
  replace HCn := Sh.mk (Kd.C_below HCn.out hd.below)
  replace HCt := Sh.mk (Kd.C_below HCt.out hd.below)
  replace HCu := Sh.mk (Kd.C_below HCu.out hd.below)
  replace HCi := Sh.mk (Kd.C_below HCi.out hd.below)
  replace HCm := Sh.mk (Kd.C_below HCm.out hd.below)
  replace HS := Sh.mk (HS.out.below hd.below)
  clear hd
  go_wp2_with fail
  refine (normal3_any Ai ci li.length li w11 HIi.out.1 HCi.out hci (by omega)).mono ?_
  rintro e w12 ⟨rfl, hd⟩
  replace HCn := Sh.mk (Kd.C_below HCn.out hd.below)
  replace HCt := Sh.mk (Kd.C_below HCt.out hd.below)
  replace HCu := Sh.mk (Kd.C_below HCu.out hd.below)
  replace HCi := Sh.mk (Kd.C_below HCi.out hd.below)
  replace HCm := Sh.mk (Kd.C_below HCm.out hd.below)
  replace HS := Sh.mk (HS.out.below hd.below)
  clear hd
  go_wp2_with fail
  refine (normal3_any Am cm lm.length lm w12 HIm.out.1 HCm.out hcm (by omega)).mono ?_
  rintro e w13 ⟨rfl, hd⟩
  replace HCn := Sh.mk (Kd.C_below HCn.out hd.below)
  replace HCt := Sh.mk (Kd.C_below HCt.out hd.below)
  replace HCu := Sh.mk (Kd.C_below HCu.out hd.below)
  replace HCi := Sh.mk (Kd.C_below HCi.out hd.below)
  replace HCm := Sh.mk (Kd.C_below HCm.out hd.below)
  replace HS := Sh.mk (HS.out.below hd.below)
  clear hd
  obtain ⟨z0, z1, z2⟩ := HS.out.cells
  go_wp2_with fail
  refine (edges3_any A B cA cB nA nB la lb pt w13 HS.out.a HS.out.b hcA hcB hna hnb).mono ?_
  rintro e w14 ⟨v, r, rfl, hR, hrl, hb⟩
  obtain ⟨nl, hnl⟩ : ∃ n, n = r.length := ⟨_, rfl⟩
  obtain ⟨Al, cl, rfl, hcl, hC⟩ := R_open hR nl hnl.symm
  rw [← hnl] at hrl
  have HP := Sh.mk (show PQ w w14 g A B cA cB nA nB la lb pt An At Au Ai Am (ln.length) (lt.length) (lu.length) (li.length) (lm.length) ln lt lu li lm Al nl r from ⟨HS.out.below hb, Kd.C_below HCn.out hb, Kd.C_below HCt.out hb, Kd.C_below HCu.out hb, Kd.C_below HCi.out hb, Kd.C_below HCm.out hb, hC⟩)
  clear hR hb hC hnl HS z0 z1 z2 HCn HCt HCu HCi HCm
  go_wp2
  go_loopw [16] (fun i wr => ∃ k : Nat, k ≤ nl ∧ i = .int .i64 k ∧ Sh (PQ w wr g A B cA cB nA nB la lb pt An At Au Ai Am (ln.length) (lt.length) (lu.length) (li.length) (lm.length) ln lt lu li lm Al nl r)) (fun i _ => nl - (intOf i).toNat)
  case atStart => exact ⟨0, by omega, rfl, HP⟩
  case round =>
    obtain ⟨k, hk, rfl, HP⟩ := hrel
    by_cases hlt : k < nl
    case neg =>
      obtain rfl : k = nl := by omega
      go_wp2
      go_ret
      exact ⟨rfl, HP.out.rq.bel⟩
    case pos =>
      obtain ⟨ad, e1, hx⟩ := C_at HP.out.l k hlt
      cases e1
      obtain ⟨q, hq⟩ : ∃ q, q = rd r k := ⟨_, rfl⟩
      rw [← hq] at hx
      clear hq
      obtain ⟨x, hxx⟩ : ∃ x, x = inL la q := ⟨_, rfl⟩
      obtain ⟨y, hyy⟩ : ∃ y, y = inL lb q := ⟨_, rfl⟩
      have HqA := Sh.mk (fun n => quiet_dr (in3_any A cA nA la q (wr.drewN n) (Kd.C_drewN HP.out.rq.a n) hcA (by omega)))
      have HqB := Sh.mk (fun n => quiet_dr (in3_any B cB nB lb q (wr.drewN n) (Kd.C_drewN HP.out.rq.b n) hcB (by omega)))
      rw [← hxx] at HqA
      rw [← hyy] at HqB
      have HX := Sh.mk hxx
      have HY := Sh.mk hyy
      clear hxx hyy
      by_cases hin : 0 ≤ q ∧ q ≤ 1114111
      case pos =>
        have q0 : decide (0 ≤ q) = true := decide_eq_true hin.1
        have q1 : decide (q ≤ 1114111) = true := decide_eq_true hin.2
        cases x with
        | true =>
          cases y with
          | true =>
            have HN := Sh.mk (show inL ln q = true by rw [is_in HIn.out q, ← HX.out, decide_eq_true hin]; rfl)
            have HT := Sh.mk (show inL lt q = false by rw [is_in HIt.out q, ← HX.out, decide_eq_true hin]; rfl)
            have HU := Sh.mk (show inL lu q = true by rw [is_in HIu.out q, ← HX.out, ← HY.out, decide_eq_true hin]; rfl)
            have HI_ := Sh.mk (show inL li q = true by rw [is_in HIi.out q, ← HX.out, ← HY.out, decide_eq_true hin]; rfl)
            have HM_ := Sh.mk (show inL lm q = false by rw [is_in HIm.out q, ← HX.out, ← HY.out, decide_eq_true hin]; rfl)
            clear hin
            obtain ⟨z0, z1, z2⟩ := HP.out.rq.cells
            go_wp2
            go_quiet ((go_at_call 25; first | (with_reducible exact HqA.out _) | (with_reducible exact HqB.out _)))
            go_wp2_with fail
            refine (has_any A cA nA la q _ (Kd.C_drewN HP.out.rq.a _) (by omega)).mono ?_
            rw [← HX.out]
            rintro e x1 ⟨rfl, hb⟩
            replace HP := Sh.mk ((HP.out.below (pw_below_drewN (Below.refl _ _) _)).below hb)
            clear hb z0 z1 z2 HqA HqB hx
            go_wp2_with fail
            refine (in3_any An cn (ln.length) ln q _ HP.out.n hcn (by omega)).mono ?_
            rw [HN.out]
            rintro e x2 ⟨rfl, hd⟩
            replace HP := Sh.mk (HP.out.below hd.below)
            clear hd
            go_wp2_with fail
            refine (in3_any At ct (lt.length) lt q _ HP.out.t hct (by omega)).mono ?_
            rw [HT.out]
            rintro e x3 ⟨rfl, hd⟩
            replace HP := Sh.mk (HP.out.below hd.below)
            clear hd
            go_wp2_with fail
            refine (in3_any Au cu (lu.length) lu q _ HP.out.u hcu (by omega)).mono ?_
            rw [HU.out]
            rintro e x4 ⟨rfl, hd⟩
            replace HP := Sh.mk (HP.out.below hd.below)
            clear hd
            go_wp2_with fail
            refine (in3_any Ai ci (li.length) li q _ HP.out.i hci (by omega)).mono ?_
            rw [HI_.out]
            rintro e x5 ⟨rfl, hd⟩
            replace HP := Sh.mk (HP.out.below hd.below)
            clear hd
            go_wp2_with fail
            refine (in3_any Am cm (lm.length) lm q _ HP.out.m hcm (by omega)).mono ?_
            rw [HM_.out]
            rintro e x6 ⟨rfl, hd⟩
            replace HP := Sh.mk (HP.out.below hd.below)
            clear hd
            go_wp2
            go_roundw
            case rel => exact ⟨k + 1, by omega, by go_num, HP⟩
            case measure => simp [intOf] <;> omega
          | false =>
            have HN := Sh.mk (show inL ln q = true by rw [is_in HIn.out q, ← HX.out, decide_eq_true hin]; rfl)
            have HT := Sh.mk (show inL lt q = false by rw [is_in HIt.out q, ← HX.out, decide_eq_true hin]; rfl)
            have HU := Sh.mk (show inL lu q = true by rw [is_in HIu.out q, ← HX.out, ← HY.out, decide_eq_true hin]; rfl)
            have HI_ := Sh.mk (show inL li q = false by rw [is_in HIi.out q, ← HX.out, ← HY.out, decide_eq_true hin]; rfl)
            have HM_ := Sh.mk (show inL lm q = true by rw [is_in HIm.out q, ← HX.out, ← HY.out, decide_eq_true hin]; rfl)
            clear hin
            obtain ⟨z0, z1, z2⟩ := HP.out.rq.cells
            go_wp2
            go_quiet ((go_at_call 25; first | (with_reducible exact HqA.out _) | (with_reducible exact HqB.out _)))
            go_wp2_with fail
            refine (has_any A cA nA la q _ (Kd.C_drewN HP.out.rq.a _) (by omega)).mono ?_
            rw [← HX.out]
            rintro e x1 ⟨rfl, hb⟩
            replace HP := Sh.mk ((HP.out.below (pw_below_drewN (Below.refl _ _) _)).below hb)
            clear hb z0 z1 z2 HqA HqB hx
            go_wp2_with fail
            refine (in3_any An cn (ln.length) ln q _ HP.out.n hcn (by omega)).mono ?_
            rw [HN.out]
            rintro e x2 ⟨rfl, hd⟩
            replace HP := Sh.mk (HP.out.below hd.below)
            clear hd
            go_wp2_with fail
            refine (in3_any At ct (lt.length) lt q _ HP.out.t hct (by omega)).mono ?_
            rw [HT.out]
            rintro e x3 ⟨rfl, hd⟩
            replace HP := Sh.mk (HP.out.below hd.below)
            clear hd
            go_wp2_with fail
            refine (in3_any Au cu (lu.length) lu q _ HP.out.u hcu (by omega)).mono ?_
            rw [HU.out]
            rintro e x4 ⟨rfl, hd⟩
            replace HP := Sh.mk (HP.out.below hd.below)
            clear hd
            go_wp2_with fail
            refine (in3_any Ai ci (li.length) li q _ HP.out.i hci (by omega)).mono ?_
            rw [HI_.out]
            rintro e x5 ⟨rfl, hd⟩
            replace HP := Sh.mk (HP.out.below hd.below)
            clear hd
            go_wp2_with fail
            refine (in3_any Am cm (lm.length) lm q _ HP.out.m hcm (by omega)).mono ?_
            rw [HM_.out]
            rintro e x6 ⟨rfl, hd⟩
            replace HP := Sh.mk (HP.out.below hd.below)
            clear hd
            go_wp2
            go_roundw
            case rel => exact ⟨k + 1, by omega, by go_num, HP⟩
            case measure => simp [intOf] <;> omega
        | false =>
          cases y with
          | true =>
            have HN := Sh.mk (show inL ln q = false by rw [is_in HIn.out q, ← HX.out, decide_eq_true hin]; rfl)
            have HT := Sh.mk (show inL lt q = true by rw [is_in HIt.out q, ← HX.out, decide_eq_true hin]; rfl)
            have HU := Sh.mk (show inL lu q = true by rw [is_in HIu.out q, ← HX.out, ← HY.out, decide_eq_true hin]; rfl)
            have HI_ := Sh.mk (show inL li q = false by rw [is_in HIi.out q, ← HX.out, ← HY.out, decide_eq_true hin]; rfl)
            have HM_ := Sh.mk (show inL lm q = false by rw [is_in HIm.out q, ← HX.out, ← HY.out, decide_eq_true hin]; rfl)
            clear hin
            obtain ⟨z0, z1, z2⟩ := HP.out.rq.cells
            go_wp2
            go_quiet ((go_at_call 25; first | (with_reducible exact HqA.out _) | (with_reducible exact HqB.out _)))
            go_wp2_with fail
            refine (has_any A cA nA la q _ (Kd.C_drewN HP.out.rq.a _) (by omega)).mono ?_
            rw [← HX.out]
            rintro e x1 ⟨rfl, hb⟩
            replace HP := Sh.mk ((HP.out.below (pw_below_drewN (Below.refl _ _) _)).below hb)
            clear hb z0 z1 z2 HqA HqB hx
            go_wp2_with fail
            refine (in3_any An cn (ln.length) ln q _ HP.out.n hcn (by omega)).mono ?_
            rw [HN.out]
            rintro e x2 ⟨rfl, hd⟩
            replace HP := Sh.mk (HP.out.below hd.below)
            clear hd
            go_wp2_with fail
            refine (in3_any At ct (lt.length) lt q _ HP.out.t hct (by omega)).mono ?_
            rw [HT.out]
            rintro e x3 ⟨rfl, hd⟩
            replace HP := Sh.mk (HP.out.below hd.below)
            clear hd
            go_wp2_with fail
            refine (in3_any Au cu (lu.length) lu q _ HP.out.u hcu (by omega)).mono ?_
            rw [HU.out]
            rintro e x4 ⟨rfl, hd⟩
            replace HP := Sh.mk (HP.out.below hd.below)
            clear hd
            go_wp2_with fail
            refine (in3_any Ai ci (li.length) li q _ HP.out.i hci (by omega)).mono ?_
            rw [HI_.out]
            rintro e x5 ⟨rfl, hd⟩
            replace HP := Sh.mk (HP.out.below hd.below)
            clear hd
            go_wp2_with fail
            refine (in3_any Am cm (lm.length) lm q _ HP.out.m hcm (by omega)).mono ?_
            rw [HM_.out]
            rintro e x6 ⟨rfl, hd⟩
            replace HP := Sh.mk (HP.out.below hd.below)
            clear hd
            go_wp2
            go_roundw
            case rel => exact ⟨k + 1, by omega, by go_num, HP⟩
            case measure => simp [intOf] <;> omega
          | false =>
            have HN := Sh.mk (show inL ln q = false by rw [is_in HIn.out q, ← HX.out, decide_eq_true hin]; rfl)
            have HT := Sh.mk (show inL lt q = true by rw [is_in HIt.out q, ← HX.out, decide_eq_true hin]; rfl)
            have HU := Sh.mk (show inL lu q = false by rw [is_in HIu.out q, ← HX.out, ← HY.out, decide_eq_true hin]; rfl)
            have HI_ := Sh.mk (show inL li q = false by rw [is_in HIi.out q, ← HX.out, ← HY.out, decide_eq_true hin]; rfl)
            have HM_ := Sh.mk (show inL lm q = false by rw [is_in HIm.out q, ← HX.out, ← HY.out, decide_eq_true hin]; rfl)
            clear hin
            obtain ⟨z0, z1, z2⟩ := HP.out.rq.cells
            go_wp2
            go_quiet ((go_at_call 25; first | (with_reducible exact HqA.out _) | (with_reducible exact HqB.out _)))
            go_wp2_with fail
            refine (has_any A cA nA la q _ (Kd.C_drewN HP.out.rq.a _) (by omega)).mono ?_
            rw [← HX.out]
            rintro e x1 ⟨rfl, hb⟩
            replace HP := Sh.mk ((HP.out.below (pw_below_drewN (Below.refl _ _) _)).below hb)
            clear hb z0 z1 z2 HqA HqB hx
            go_wp2_with fail
            refine (in3_any An cn (ln.length) ln q _ HP.out.n hcn (by omega)).mono ?_
            rw [HN.out]
            rintro e x2 ⟨rfl, hd⟩
            replace HP := Sh.mk (HP.out.below hd.below)
            clear hd
            go_wp2_with fail
            refine (in3_any At ct (lt.length) lt q _ HP.out.t hct (by omega)).mono ?_
            rw [HT.out]
            rintro e x3 ⟨rfl, hd⟩
            replace HP := Sh.mk (HP.out.below hd.below)
            clear hd
            go_wp2_with fail
            refine (in3_any Au cu (lu.length) lu q _ HP.out.u hcu (by omega)).mono ?_
            rw [HU.out]
            rintro e x4 ⟨rfl, hd⟩
            replace HP := Sh.mk (HP.out.below hd.below)
            clear hd
            go_wp2_with fail
            refine (in3_any Ai ci (li.length) li q _ HP.out.i hci (by omega)).mono ?_
            rw [HI_.out]
            rintro e x5 ⟨rfl, hd⟩
            replace HP := Sh.mk (HP.out.below hd.below)
            clear hd
            go_wp2_with fail
            refine (in3_any Am cm (lm.length) lm q _ HP.out.m hcm (by omega)).mono ?_
            rw [HM_.out]
            rintro e x6 ⟨rfl, hd⟩
            replace HP := Sh.mk (HP.out.below hd.below)
            clear hd
            go_wp2
            go_roundw
            case rel => exact ⟨k + 1, by omega, by go_num, HP⟩
            case measure => simp [intOf] <;> omega
      case neg =>
        obtain rfl : x = false := by rw [HX.out]; exact out_may HMa.out hin
        obtain rfl : y = false := by rw [HY.out]; exact out_may HMb.out hin
        have HN := Sh.mk (show inL ln q = false by rw [is_in HIn.out q, ← HX.out, decide_eq_false hin]; rfl)
        have HT := Sh.mk (show inL lt q = false by rw [is_in HIt.out q, ← HX.out, decide_eq_false hin]; rfl)
        have HU := Sh.mk (show inL lu q = false by rw [is_in HIu.out q, ← HX.out, ← HY.out, decide_eq_false hin]; rfl)
        have HI_ := Sh.mk (show inL li q = false by rw [is_in HIi.out q, ← HX.out, ← HY.out, decide_eq_false hin]; rfl)
        have HM_ := Sh.mk (show inL lm q = false by rw [is_in HIm.out q, ← HX.out, ← HY.out, decide_eq_false hin]; rfl)
        rcases (show (decide (0 ≤ q) = true ∧ decide (q ≤ 1114111) = false) ∨ decide (0 ≤ q) = false by simp only [decide_eq_true_eq, decide_eq_false_iff_not]; omega) with ⟨q0, q1⟩ | q0
        all_goals
          clear hin
          obtain ⟨z0, z1, z2⟩ := HP.out.rq.cells
          go_wp2
          go_quiet ((go_at_call 25; first | (with_reducible exact HqA.out _) | (with_reducible exact HqB.out _)))
          go_wp2_with fail
          refine (has_any A cA nA la q _ (Kd.C_drewN HP.out.rq.a _) (by omega)).mono ?_
          rw [← HX.out]
          rintro e x1 ⟨rfl, hb⟩
          replace HP := Sh.mk ((HP.out.below (pw_below_drewN (Below.refl _ _) _)).below hb)
          clear hb z0 z1 z2 HqA HqB hx
          go_wp2_with fail
          refine (in3_any An cn (ln.length) ln q _ HP.out.n hcn (by omega)).mono ?_
          rw [HN.out]
          rintro e x2 ⟨rfl, hd⟩
          replace HP := Sh.mk (HP.out.below hd.below)
          clear hd
          go_wp2_with fail
          refine (in3_any At ct (lt.length) lt q _ HP.out.t hct (by omega)).mono ?_
          rw [HT.out]
          rintro e x3 ⟨rfl, hd⟩
          replace HP := Sh.mk (HP.out.below hd.below)
          clear hd
          go_wp2_with fail
          refine (in3_any Au cu (lu.length) lu q _ HP.out.u hcu (by omega)).mono ?_
          rw [HU.out]
          rintro e x4 ⟨rfl, hd⟩
          replace HP := Sh.mk (HP.out.below hd.below)
          clear hd
          go_wp2_with fail
          refine (in3_any Ai ci (li.length) li q _ HP.out.i hci (by omega)).mono ?_
          rw [HI_.out]
          rintro e x5 ⟨rfl, hd⟩
          replace HP := Sh.mk (HP.out.below hd.below)
          clear hd
          go_wp2_with fail
          refine (in3_any Am cm (lm.length) lm q _ HP.out.m hcm (by omega)).mono ?_
          rw [HM_.out]
          rintro e x6 ⟨rfl, hd⟩
          replace HP := Sh.mk (HP.out.below hd.below)
          clear hd
          go_wp2
          go_roundw
          case rel => exact ⟨k + 1, by omega, by go_num, HP⟩
          case measure => simp [intOf] <;> omega
theorem points_any :
    Calls Tryd.prog 6 #[.agg #[.slice A nA cA, .slice B nB cB, .int .i64 pt]] w fun e w' => e = .returned (.bool true) ∧ Below w.heap.size w w' := by
  cases hma : mayL la with
  | false => exact points_none E A B cA cB nA nB la lb pt w hE hA hB hcA hcB hna hnb hma
  | true =>
    cases hmb : mayL lb with
    | false => exact points_one E A B cA cB nA nB la lb pt w hE hA hB hcA hcB hna hnb hma hmb
    | true => exact points_both E A B cA cB nA nB la lb pt w hE hA hB hcA hcB hna hnb hma hmb
end
end Go.Proofs.YthjdjgppghplgaaDoor
