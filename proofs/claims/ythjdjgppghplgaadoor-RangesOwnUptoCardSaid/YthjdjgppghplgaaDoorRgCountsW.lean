/-
The walk of caesuralaw3.RangesCounts. Conditions: lists of at most 2^20 ranges; ErrArg reads as listed.
-/
import Derived.Test.YthjdjgppghplgaaDoorRgBegun
namespace Go.Proofs.YthjdjgppghplgaaDoor
open Go Go.RowKit Go.Proofs.YthjdjgppghplgaaDoorW.PrintWords Go.Proofs.YthjdjgppghplgaaDoorW.PrintLast Go.Proofs.YthjdjgppghplgaaDoorW.PrintMore
abbrev TwT : TypeId := 24
theorem quiet_dr {P : Program} {f : FuncId} {args : Array Value} {w : World} {n : Nat} {v : Value}
    (h : Calls P f args (w.drewN n) fun e w' => e = .returned v ∧ Drawn0 (w.drewN n) w') : Calls P f args (w.drewN n) fun e w'' => e = .returned v ∧ ∃ m, w'' = w.drewN m :=
  h.mono fun _ _ ⟨a, ⟨k, b⟩⟩ => ⟨a, n + k, by rw [b, World.drewN_drewN]⟩
/-- What lies in memory. -/
structure RQ (w W : World) (g : Nat) (A B : Option Addr) (cA cB nA nB : Nat) (la lb : List Rg) (pt : Int) : Prop where
  bel : Below w.heap.size w W
  box : W.heap[g]? = some (.cells #[.slice A nA cA, .slice B nB cB, .int .i64 pt] TwT (0, 0))
  a : rgK.C W A nA la
  b : rgK.C W B nB lb
theorem RQ.below {w W W1 : World} {g : Nat} {A B : Option Addr} {cA cB nA nB : Nat} {la lb : List Rg} {pt : Int} (h : RQ w W g A B cA cB nA nB la lb pt) (hb : Below W.heap.size W W1) : RQ w W1 g A B cA cB nA nB la lb pt :=
  ⟨below_of h.bel hb, blk_below h.box hb, Kd.C_below h.a hb, Kd.C_below h.b hb⟩
theorem RQ.cells {w W : World} {g : Nat} {A B : Option Addr} {cA cB nA nB : Nat} {la lb : List Rg} {pt : Int} (h : RQ w W g A B cA cB nA nB la lb pt) :
    W.cell? ⟨g, 0, none⟩ = some (.slice A nA cA) ∧ W.cell? ⟨g, 1, none⟩ = some (.slice B nB cB) ∧ W.cell? ⟨g, 2, none⟩ = some (.int .i64 pt) :=
  ⟨(blk_cell h.box 0).trans rfl, (blk_cell h.box 1).trans rfl, (blk_cell h.box 2).trans rfl⟩
theorem counts_law {q r : Int → Bool} {a b u i t : List Rg} (ha : Is q a) (hb : Is r b) (hu : Is (fun p => q p || r p) u) (hi : Is (fun p => q p && r p) i) (ht : Is (fun p => !q p) t) : szL a + szL b = szL u + szL i ∧ szL a + szL t = 1114112 := by
  obtain ⟨k, hk⟩ : ∃ k : Nat, (k : Int) = 1114112 := ⟨1114112, rfl⟩
  rw [ha.size hk, hb.size hk, hu.size hk, hi.size hk, ht.size hk]
  have h1 := cd_or_and q r k 0
  have h2 := cd_not q k 0
  omega
theorem is_self {q : Int → Bool} {l m : List Rg} (h : Is q l) (h' : Is (inL l) m) : Is q m := h'.of_eq (fun _ h0 h1 => h.in_ h0 h1)
theorem sz_small {q : Int → Bool} {l : List Rg} (h : Is q l) : 0 ≤ szL l ∧ szL l ≤ 1114113 := by
  have := sz_bound l 0 h.1 (by omega)
  omega
set_option maxHeartbeats 16000000 in
set_option maxRecDepth 100000 in
theorem counts_any (E : Nat → Addr) (A B : Option Addr) (cA cB nA nB : Nat) (la lb : List Rg) (pt : Int) (w : World) (hE : GS [1] E w) (hA : rgK.C w A nA la) (hB : rgK.C w B nB lb) (hcA : nA ≤ cA) (hcB : nB ≤ cB) (hna : nA ≤ 1048576) (hnb : nB ≤ 1048576) :
    Calls Tryd.prog 3 #[.agg #[.slice A nA cA, .slice B nB cB, .int .i64 pt]] w fun e w' => e = .returned (.bool true) ∧ Below w.heap.size w w' := by
  have HE := Sh.mk hE
  obtain ⟨W0, hW0⟩ : ∃ W0, W0 = w.alloc (.cells #[.slice A nA cA, .slice B nB cB, .int .i64 pt] TwT) := ⟨_, rfl⟩
  obtain ⟨g, hg⟩ : ∃ g, g = w.heap.size := ⟨_, rfl⟩
  have hb0 : Below w.heap.size w W0 := by rw [hW0]; exact (Below.refl _ _).alloc (Nat.le_refl _) _
  have HS0 := Sh.mk (show RQ w W0 g A B cA cB nA nB la lb pt from ⟨hb0, by rw [hW0, hg]; exact blk_new _ _, Kd.C_below hA hb0, Kd.C_below hB hb0⟩)
  have HW := Sh.mk hW0
  have HG := Sh.mk hg
  clear hE hA hB hW0 hg hb0
  go_enter Tryd.func3, Tryd.ntmps3
  go_wp2_with fail
  rw [← HW.out, ← HG.out]
  clear HW
  refine (begun_any E W0 (HE.out.below HS0.out.bel)).mono ?_
  rintro e w1 ⟨rfl, hb⟩
  have HS1 := Sh.mk (HS0.out.below hb)
  clear hb HS0
  obtain ⟨z0, z1, z2⟩ := HS1.out.cells
  go_wp2_with fail
  refine (count_any E A cA nA la w1 (HE.out.below HS1.out.bel) HS1.out.a hcA hna).mono ?_
  clear z0 z1 z2
  cases ha : mayL la with
  | false =>
    have HMa := Sh.mk ha
    clear ha
    rintro e w2 ⟨rfl, hb⟩
    have HS2 := Sh.mk (HS1.out.below hb)
    clear hb HS1
    obtain ⟨z0, z1, z2⟩ := HS2.out.cells
    go_wp2_with fail
    refine (count_any E B cB nB lb w2 (HE.out.below HS2.out.bel) HS2.out.b hcB hnb).mono ?_
    clear z0 z1 z2
    cases hmb : mayL lb with
    | false =>
      have HMb := Sh.mk hmb
      clear hmb
      rintro e w3 ⟨rfl, hb⟩
      have HS3 := Sh.mk (HS2.out.below hb)
      clear hb HS2
      obtain ⟨z0, z1, z2⟩ := HS3.out.cells
      have HqA := Sh.mk (fun n => quiet_dr (HMa.out ▸ may3_any A cA nA la (w3.drewN n) (Kd.C_drewN HS3.out.a n) hcA (by omega)))
      have HqB := Sh.mk (fun n => quiet_dr (HMb.out ▸ may3_any B cB nB lb (w3.drewN n) (Kd.C_drewN HS3.out.b n) hcB (by omega)))
      go_wp2
      go_quiet ((go_at_call 10; first | (with_reducible exact HqA.out _) | (with_reducible exact HqB.out _)))
      go_wp2
      go_ret
      exact ⟨rfl, below_of HS3.out.bel (pw_below_drewN (Below.refl _ _) _)⟩
    | true =>
      have HMb := Sh.mk hmb
      clear hmb
      rintro e w3 ⟨out, hI, rfl, hb⟩
      have HS3 := Sh.mk (HS2.out.below hb)
      clear hb HS2 hI
      obtain ⟨z0, z1, z2⟩ := HS3.out.cells
      have HqA := Sh.mk (fun n => quiet_dr (HMa.out ▸ may3_any A cA nA la (w3.drewN n) (Kd.C_drewN HS3.out.a n) hcA (by omega)))
      have HqB := Sh.mk (fun n => quiet_dr (HMb.out ▸ may3_any B cB nB lb (w3.drewN n) (Kd.C_drewN HS3.out.b n) hcB (by omega)))
      go_wp2
      go_quiet ((go_at_call 10; first | (with_reducible exact HqA.out _) | (with_reducible exact HqB.out _)))
      go_wp2
      go_ret
      exact ⟨rfl, below_of HS3.out.bel (pw_below_drewN (Below.refl _ _) _)⟩
  | true =>
    have HMa := Sh.mk ha
    clear ha
    rintro e w2 ⟨oa, hIa, rfl, hb⟩
    have HIa := Sh.mk hIa
    have hsa := sz_small hIa
    have HS2 := Sh.mk (HS1.out.below hb)
    clear hb HS1 hIa
    obtain ⟨sa, hsae⟩ : ∃ s, s = szL oa := ⟨_, rfl⟩
    rw [← hsae] at hsa ⊢
    have HSA := Sh.mk hsae
    clear hsae
    obtain ⟨z0, z1, z2⟩ := HS2.out.cells
    go_wp2_with fail
    refine (count_any E B cB nB lb w2 (HE.out.below HS2.out.bel) HS2.out.b hcB hnb).mono ?_
    clear z0 z1 z2
    cases hmb : mayL lb with
    | false =>
      have HMb := Sh.mk hmb
      clear hmb
      rintro e w3 ⟨rfl, hb⟩
      have HS3 := Sh.mk (HS2.out.below hb)
      clear hb HS2
      obtain ⟨z0, z1, z2⟩ := HS3.out.cells
      have HqA := Sh.mk (fun n => quiet_dr (HMa.out ▸ may3_any A cA nA la (w3.drewN n) (Kd.C_drewN HS3.out.a n) hcA (by omega)))
      have HqB := Sh.mk (fun n => quiet_dr (HMb.out ▸ may3_any B cB nB lb (w3.drewN n) (Kd.C_drewN HS3.out.b n) hcB (by omega)))
      go_wp2
      go_quiet ((go_at_call 10; first | (with_reducible exact HqA.out _) | (with_reducible exact HqB.out _)))
      go_wp2
      go_ret
      exact ⟨rfl, below_of HS3.out.bel (pw_below_drewN (Below.refl _ _) _)⟩
    | true =>
      have HMb := Sh.mk hmb
      clear hmb
      rintro e w3 ⟨ob, hIb, rfl, hb⟩
      have HIb := Sh.mk hIb
      have hsb := sz_small hIb
      have HS3 := Sh.mk (HS2.out.below hb)
      clear hb HS2 hIb
      obtain ⟨sb, hsbe⟩ : ∃ s, s = szL ob := ⟨_, rfl⟩
      rw [← hsbe] at hsb ⊢
      have HSB := Sh.mk hsbe
      clear hsbe
      obtain ⟨z0, z1, z2⟩ := HS3.out.cells
      go_wp2_with fail
      have hc := normal_any E A cA nA la w3 (HE.out.below HS3.out.bel) HS3.out.a hcA hna
      rw [HMa.out] at hc
      refine hc.mono ?_
      clear hc z0 z1 z2
      rintro e w4 ⟨v, on, rfl, hI, hR, hb⟩
      obtain rfl := HIa.out.same hI
      obtain ⟨nN, hnN⟩ : ∃ n, n = oa.length := ⟨_, rfl⟩
      obtain ⟨An, cn, rfl, hcn, hCn⟩ := R_open hR nN hnN.symm
      have hnn := hI.len
      rw [← hnN] at hnn
      have HNN := Sh.mk hnN
      have HCn := Sh.mk hCn
      have HS4 := Sh.mk (HS3.out.below hb)
      clear hI hR hb hCn hnN HS3
      obtain ⟨z0, z1, z2⟩ := HS4.out.cells
      go_wp2_with fail
      have hc := union_any E A B cA cB nA nB la lb w4 (HE.out.below HS4.out.bel) HS4.out.a hcA hna HS4.out.b hcB hnb
      rw [HMa.out, HMb.out] at hc
      refine hc.mono ?_
      clear hc z0 z1 z2
      rintro e w5 ⟨v, ou, rfl, hI, hR, hb⟩
      obtain ⟨Au, cu, rfl, hcu, hCu⟩ := R_open hR ou.length rfl
      have hlu := hI.len
      have HIu := Sh.mk hI
      have HCu := Sh.mk hCu
      have HCn5 := Sh.mk (Kd.C_below HCn.out hb)
      have HS5 := Sh.mk (HS4.out.below hb)
      clear hI hR hb hCu HS4 HCn
      obtain ⟨z0, z1, z2⟩ := HS5.out.cells
      go_wp2_with fail
      have hc := inter_any E A B cA cB nA nB la lb w5 (HE.out.below HS5.out.bel) HS5.out.a hcA hna HS5.out.b hcB hnb
      rw [HMa.out, HMb.out] at hc
      refine hc.mono ?_
      clear hc z0 z1 z2
      rintro e w6 ⟨v, oi, rfl, hI, hR, hb⟩
      obtain ⟨Ai, ci, rfl, hci, hCi⟩ := R_open hR oi.length rfl
      have hli := hI.len
      have HIi := Sh.mk hI
      have HCi := Sh.mk hCi
      have HCn6 := Sh.mk (Kd.C_below HCn5.out hb)
      have HCu6 := Sh.mk (Kd.C_below HCu.out hb)
      have HS6 := Sh.mk (HS5.out.below hb)
      clear hI hR hb hCi HS5 HCn5 HCu
      obtain ⟨z0, z1, z2⟩ := HS6.out.cells
      go_wp2_with fail
      have hc := not_any E A cA nA la w6 (HE.out.below HS6.out.bel) HS6.out.a hcA hna
      rw [HMa.out] at hc
      refine hc.mono ?_
      clear hc z0 z1 z2
      rintro e w7 ⟨v, ot, rfl, hI, hR, hb⟩
      obtain ⟨At, ct, rfl, hct, hCt⟩ := R_open hR ot.length rfl
      have hlt := hI.len
      have HIt := Sh.mk hI
      have HCt := Sh.mk hCt
      have HCn7 := Sh.mk (Kd.C_below HCn6.out hb)
      have HCu7 := Sh.mk (Kd.C_below HCu6.out hb)
      have HCi7 := Sh.mk (Kd.C_below HCi.out hb)
      have HS7 := Sh.mk (HS6.out.below hb)
      clear hI hR hb hCt HS6 HCn6 HCu6 HCi
      go_wp2
      go_loopw [15, 16] (fun s i wr => ∃ k : Nat, k ≤ nN ∧ i = .int .i64 k ∧ s = .int .i64 (szL (oa.take k)) ∧ Sh (Below w7.heap.size w7 wr)) (fun _ i _ => nN - (intOf i).toNat)
      case atStart => exact ⟨0, by omega, rfl, rfl, ⟨Below.refl _ _⟩⟩
      case round =>
        obtain ⟨k, hk, rfl, rfl, HBr⟩ := hrel
        have hsz := sz_take oa HIa.out.1 k
        by_cases hlt3 : k < nN
        · obtain ⟨ad, e1, y0, y1⟩ := C_rg (Kd.C_below HCn7.out HBr.out) k hlt3
          cases e1
          have hsz2 := sz_take oa HIa.out.1 (k + 1)
          have HSN := Sh.mk (sz_snoc oa k (by rw [← HNN.out]; exact hlt3))
          have hok := okR_of (HIa.out.1.may (by omega)) (i := k) (by rw [← HNN.out]; exact hlt3)
          obtain ⟨⟨rl, rh⟩, hr⟩ : ∃ r, r = rdR oa k := ⟨_, rfl⟩
          obtain ⟨s, hs⟩ : ∃ s, s = szL (oa.take k) := ⟨_, rfl⟩
          rw [← hr] at y0 y1 HSN hok
          rw [← hs] at HSN hsz ⊢
          dsimp only at y0 y1 HSN hok
          obtain ⟨hx0, hx1, hx2⟩ := hok
          have q1 : IntKind.i64.wrap (s + rh) = s + rh := IntWalk.i64_in _ (by omega)
          have q2 : IntKind.i64.wrap (s + rh - rl) = s + rh - rl := IntWalk.i64_in _ (by omega)
          have q3 : IntKind.i64.wrap (s + rh - rl + 1) = s + rh - rl + 1 := IntWalk.i64_in _ (by omega)
          clear hr hs
          go_wp2
          go_quiet (fail)
          clear q1 q2 q3
          go_wp2
          go_roundw
          case rel => exact ⟨k + 1, by omega, by go_num, by rw [HSN.out]; go_num, ⟨pw_below_drewN HBr.out _⟩⟩
          case measure => simp [intOf] <;> omega
        · obtain rfl : k = nN := by omega
          have e : szL (oa.take k) = sa := by rw [List.take_of_length_le (by rw [← HNN.out]; exact Nat.le_refl _), HSA.out]
          rw [e]
          have HS8 := Sh.mk (HS7.out.below HBr.out)
          have HCu8 := Sh.mk (Kd.C_below HCu7.out HBr.out)
          have HCi8 := Sh.mk (Kd.C_below HCi7.out HBr.out)
          have HCt8 := Sh.mk (Kd.C_below HCt.out HBr.out)
          clear e hsz HBr HS7 HCu7 HCi7 HCt HCn7
          go_wp2_with fail
          have hc := count_any E Au cu ou.length ou wr (HE.out.below HS8.out.bel) HCu8.out hcu (by omega)
          rw [HIu.out.1.may (by omega)] at hc
          refine hc.mono ?_
          clear hc
          rintro e w9 ⟨xu, hIxu, rfl, hb⟩
          have HXu := Sh.mk (is_self HIu.out hIxu)
          have HS9 := Sh.mk (HS8.out.below hb)
          have HCi9 := Sh.mk (Kd.C_below HCi8.out hb)
          have HCt9 := Sh.mk (Kd.C_below HCt8.out hb)
          clear hIxu hb HS8 HCi8 HCt8
          go_wp2_with fail
          have hc := count_any E Ai ci oi.length oi w9 (HE.out.below HS9.out.bel) HCi9.out hci (by omega)
          rw [HIi.out.1.may (by omega)] at hc
          refine hc.mono ?_
          clear hc
          rintro e w10 ⟨xi, hIxi, rfl, hb⟩
          have HXi := Sh.mk (is_self HIi.out hIxi)
          have HS10 := Sh.mk (HS9.out.below hb)
          have HCt10 := Sh.mk (Kd.C_below HCt9.out hb)
          clear hIxi hb HS9 HCi9 HCt9
          go_wp2_with fail
          have hc := count_any E At ct ot.length ot w10 (HE.out.below HS10.out.bel) HCt10.out hct (by omega)
          rw [HIt.out.1.may (by omega)] at hc
          refine hc.mono ?_
          clear hc
          rintro e w11 ⟨xt, hIxt, rfl, hb⟩
          have HXt := Sh.mk (is_self HIt.out hIxt)
          have HS11 := Sh.mk (HS10.out.below hb)
          clear hIxt hb HS10 HCt10
          have hlaw := counts_law HIa.out HIb.out HXu.out HXi.out HXt.out
          have b1 := sz_small HXu.out
          have b2 := sz_small HXi.out
          have b3 := sz_small HXt.out
          rw [← HSA.out, ← HSB.out] at hlaw
          generalize szL xu = su at hlaw b1 ⊢
          generalize szL xi = si at hlaw b2 ⊢
          generalize szL xt = st at hlaw b3 ⊢
          have d1 : ((sa + sb) == (su + si)) = true := by simpa using hlaw.1
          have d2 : ((sa + st) == 1114112) = true := by simpa using hlaw.2
          clear hlaw
          go_wp2
          go_ret
          exact ⟨rfl, HS11.out.bel⟩
end Go.Proofs.YthjdjgppghplgaaDoor
