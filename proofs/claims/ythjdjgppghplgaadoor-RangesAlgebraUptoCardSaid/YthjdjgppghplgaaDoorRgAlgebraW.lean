/-
The walk of caesuralaw3.RangesAlgebra. Conditions: lists of at most 2^19 ranges; ErrArg reads as listed.
-/
import Derived.Test.YthjdjgppghplgaaDoorRgCountsW
namespace Go.Proofs.YthjdjgppghplgaaDoor
open Go Go.RowKit Go.Proofs.YthjdjgppghplgaaDoorW.PrintWords Go.Proofs.YthjdjgppghplgaaDoorW.PrintLast Go.Proofs.YthjdjgppghplgaaDoorW.PrintMore
def rL (x : Rg) : List Value := [.int .i64 x.1, .int .i64 x.2]
theorem rgs_reps (w : World) (base : Nat) (ok : Nat → Prop) (xs : List Rg) : Reps (rgK.M w base ok) 2 xs (xs.flatMap rL) := by
  have h : ∀ ys : List Rg, Reps (rgK.M w base ok) 2 ys (ys.flatMap rL) → ∀ zs : List Rg, Reps (rgK.M w base ok) 2 (ys ++ zs) ((ys ++ zs).flatMap rL) := by
    intro ys hy zs
    induction zs generalizing ys with
    | nil => simpa using hy
    | cons z zs ih =>
      have := ih (ys ++ [z]) (by
        rw [List.flatMap_append]
        exact hy.snoc (p := z) (c := [z].flatMap rL) (rg_M _ _ _ _) (by simp [rL]))
      simpa using this
  exact h [] (Reps.none _ _) xs
section
variable {ops : Array Oper} {rest : List Oper} {o : Oper} {a : Act} {Q : Exit → Act → World → Prop}
/-- append of two ranges to a row of one's own. -/
theorem app_rg2 (s x : Operand) {base : Nat} {w0 W : World} (v : Value) (es : List Rg) (a1 b1 a2 b2 : Int)
    (ho : o.op = .call { callee := .builtin .append, args := #[s, x], argTypes := #[22, 22] }) (hgd : o.guard = none) (hs : a.eval s = v) (g : Nat) (hg : W.heap.size = g) (hx : a.eval x = .slice (some ⟨g, 0, none⟩) 2 2)
    (HO : W.ownsRow base RgT 2 v es.length (es.flatMap rL)) (HB : Below base w0 W) (hbase : base ≤ W.heap.size) (hl : es.length ≤ 8388608)
    (h : ∀ v1 w1, Sh (w1.ownsRow base RgT 2 v1 (es ++ [(a1, b1), (a2, b2)]).length ((es ++ [(a1, b1), (a2, b2)]).flatMap rL)) → Sh (Below base w0 w1) → wpList Tryd.prog ops Q rest (a.put o.dst v1) w1) :
    wpList Tryd.prog ops Q (o :: rest) a (W.alloc (.cells #[.int .i64 a1, .int .i64 b1, .int .i64 a2, .int .i64 b2] RgT)) := by
  subst hg
  obtain ⟨i0, hi, hz0, hz1, hz2⟩ := info_parts info_rg
  refine wpList_append_own _ hgd s x 22 ho base RgT i0 _ 2 16 Tryd.underlying22 hi hz0 hz1 hz2 rfl (by decide) v es.length (es.flatMap rL) hs (HO.alloc _) ⟨W.heap.size, 0, none⟩ 2 2 [.int .i64 a1, .int .i64 b1, .int .i64 a2, .int .i64 b2] hx rfl (cells6_new _ _ _) (by simp [Value.oneCell']) (by unfold maxLen; omega) (by omega) (by simp; omega) ?_
  intro v1 w1 hown hgrow _
  refine h v1 w1 ⟨?_⟩ ⟨pw_below_grown (HB.alloc hbase _) _ (by simp; omega) hgrow (fun k hk => own_base HO k hk)⟩
  rw [List.length_append, List.flatMap_append]
  exact hown
end
/-- Another list of the same points: turned round, each range with its first point ahead. -/
def turn (l : List Rg) : List Rg := l.reverse.flatMap fun r => [(r.1, r.1), r]
theorem turn_len (l : List Rg) : (turn l).length = 2 * l.length := by
  unfold turn
  have : ∀ q : List Rg, (q.flatMap fun r : Rg => [(r.1, r.1), r]).length = 2 * q.length := fun q => by
    induction q with
    | nil => rfl
    | cons a q ih => rw [List.flatMap_cons, List.length_append, ih]; simp; omega
  rw [this, List.length_reverse]
theorem turn_drop (l : List Rg) (m : Nat) (h : m < l.length) : turn (l.drop m) = turn (l.drop (m + 1)) ++ [((rdR l m).1, (rdR l m).1), ((rdR l m).1, (rdR l m).2)] := by
  have e0 : rdR l m = l[m] := by simp [rdR, List.getD, h]
  unfold turn
  rw [List.drop_eq_getElem_cons h, List.reverse_cons, List.flatMap_append, e0]
  rfl
theorem turn_may (l : List Rg) (h : mayL l = true) : mayL (turn l) = true := by
  unfold mayL turn
  rw [List.all_eq_true]
  intro x hx
  obtain ⟨r, hr, hx⟩ := List.mem_flatMap.1 hx
  have := List.all_eq_true.1 h r (List.mem_reverse.1 hr)
  simp only [okR, decide_eq_true_eq] at this
  simp only [List.mem_cons, List.not_mem_nil, or_false] at hx
  rcases hx with rfl | rfl
  · simp only [okR, decide_eq_true_eq]; omega
  · simp only [okR, decide_eq_true_eq]; exact this
theorem turn_in (l : List Rg) (h : mayL l = true) (p : Int) : inL (turn l) p = inL l p := by
  rw [Bool.eq_iff_iff, inL_iff, inL_iff]
  constructor
  · rintro ⟨x, hx, h1, h2⟩
    obtain ⟨r, hr, hx⟩ := List.mem_flatMap.1 hx
    have hr' := List.mem_reverse.1 hr
    have := List.all_eq_true.1 h r hr'
    simp only [okR, decide_eq_true_eq] at this
    simp only [List.mem_cons, List.not_mem_nil, or_false] at hx
    rcases hx with rfl | rfl
    · dsimp only at h1 h2; exact ⟨r, hr', by omega, by omega⟩
    · exact ⟨_, hr', h1, h2⟩
  · rintro ⟨r, hr, h1, h2⟩
    exact ⟨r, List.mem_flatMap.2 ⟨r, List.mem_reverse.2 hr, by simp⟩, h1, h2⟩
set_option maxHeartbeats 32000000 in
set_option maxRecDepth 100000 in
theorem algebra_any (E : Nat → Addr) (A B : Option Addr) (cA cB nA nB : Nat) (la lb : List Rg) (pt : Int) (w : World) (hE : GS [1] E w) (hA : rgK.C w A nA la) (hB : rgK.C w B nB lb) (hcA : nA ≤ cA) (hcB : nB ≤ cB) (hna : nA ≤ 524288) (hnb : nB ≤ 524288) :
    Calls Tryd.prog 7 #[.agg #[.slice A nA cA, .slice B nB cB, .int .i64 pt]] w fun e w' => e = .returned (.bool true) ∧ Below w.heap.size w w' := by
  have HE := Sh.mk hE
  have HLA := Sh.mk hA.1
  obtain ⟨W0, hW0⟩ : ∃ W0, W0 = w.alloc (.cells #[.slice A nA cA, .slice B nB cB, .int .i64 pt] TwT) := ⟨_, rfl⟩
  obtain ⟨g, hg⟩ : ∃ g, g = w.heap.size := ⟨_, rfl⟩
  have hb0 : Below w.heap.size w W0 := by rw [hW0]; exact (Below.refl _ _).alloc (Nat.le_refl _) _
  have HS := Sh.mk (show RQ w W0 g A B cA cB nA nB la lb pt from ⟨hb0, by rw [hW0, hg]; exact blk_new _ _, Kd.C_below hA hb0, Kd.C_below hB hb0⟩)
  have HW := Sh.mk hW0
  have HG := Sh.mk hg
  clear hE hA hB hW0 hg hb0
  go_enter Tryd.func7, Tryd.ntmps7
  go_wp2_with fail
  rw [← HW.out, ← HG.out]
  clear HW
  refine (begun_any E W0 (HE.out.below HS.out.bel)).mono ?_
  rintro e w1 ⟨rfl, hb⟩
  replace HS := Sh.mk (HS.out.below hb)
  clear hb
  obtain ⟨z0, z1, z2⟩ := HS.out.cells
  go_wp2_with fail
  refine (normal_any E A cA nA la w1 (HE.out.below HS.out.bel) HS.out.a hcA (by omega)).mono ?_
  clear z0 z1 z2
  cases hma : mayL la with
  | false =>
    have HMa := Sh.mk hma
    clear hma
    rintro e w2 ⟨rfl, hb⟩
    replace HS := Sh.mk (HS.out.below hb)
    clear hb
    obtain ⟨z0, z1, z2⟩ := HS.out.cells
    go_wp2_with fail
    refine (normal_any E B cB nB lb w2 (HE.out.below HS.out.bel) HS.out.b hcB (by omega)).mono ?_
    clear z0 z1 z2
    cases hmb : mayL lb with
    | false =>
      rintro e w3 ⟨rfl, hb⟩
      replace HS := Sh.mk (HS.out.below hb)
      clear hb hmb
      obtain ⟨z0, z1, z2⟩ := HS.out.cells
      go_wp2_with fail
      refine (may3_any A cA nA la w3 HS.out.a hcA (by omega)).mono ?_
      rw [HMa.out]
      rintro e w4 ⟨rfl, hd⟩
      replace HS := Sh.mk (HS.out.below hd.below)
      clear hd z0 z1 z2
      go_wp2
      go_ret
      exact ⟨rfl, HS.out.bel⟩
    | true =>
      rintro e w3 ⟨v, on, rfl, -, -, hb⟩
      replace HS := Sh.mk (HS.out.below hb)
      clear hb hmb
      obtain ⟨z0, z1, z2⟩ := HS.out.cells
      go_wp2_with fail
      refine (may3_any A cA nA la w3 HS.out.a hcA (by omega)).mono ?_
      rw [HMa.out]
      rintro e w4 ⟨rfl, hd⟩
      replace HS := Sh.mk (HS.out.below hd.below)
      clear hd z0 z1 z2
      go_wp2
      go_ret
      exact ⟨rfl, HS.out.bel⟩
  | true =>
    have HMa := Sh.mk hma
    clear hma
    rintro e w2 ⟨v, ln, rfl, hI, hR, hb⟩
    obtain ⟨An, cn, rfl, hcn, hC⟩ := R_open hR ln.length rfl
    have hln := hI.len
    have HIn := Sh.mk hI
    have HCn := Sh.mk hC
    replace HS := Sh.mk (HS.out.below hb)
    clear hI hR hb hC
    obtain ⟨z0, z1, z2⟩ := HS.out.cells
    go_wp2_with fail
    refine (normal_any E B cB nB lb w2 (HE.out.below HS.out.bel) HS.out.b hcB (by omega)).mono ?_
    clear z0 z1 z2
    cases hmb : mayL lb with
    | false =>
      have HMb := Sh.mk hmb
      rintro e w3 ⟨rfl, hb⟩
      replace HS := Sh.mk (HS.out.below hb)
      clear hb hmb
      obtain ⟨z0, z1, z2⟩ := HS.out.cells
      go_wp2_with fail
      refine (may3_any A cA nA la w3 HS.out.a hcA (by omega)).mono ?_
      rw [HMa.out]
      rintro e w4 ⟨rfl, hd⟩
      replace HS := Sh.mk (HS.out.below hd.below)
      clear hd z0 z1 z2
      obtain ⟨z0, z1, z2⟩ := HS.out.cells
      go_wp2_with fail
      refine (may3_any B cB nB lb w4 HS.out.b hcB (by omega)).mono ?_
      rw [HMb.out]
      rintro e w5 ⟨rfl, hd⟩
      replace HS := Sh.mk (HS.out.below hd.below)
      clear hd z0 z1 z2
      go_wp2
      go_ret
      exact ⟨rfl, HS.out.bel⟩
    | true =>
      have HMb := Sh.mk hmb
      clear hmb
      rintro e w3 ⟨v, lbb, rfl, hI, hR, hb⟩
      obtain ⟨Abb, cbb, rfl, hcbb, hC⟩ := R_open hR lbb.length rfl
      have hlbb := hI.len
      have HIbb := Sh.mk hI
      have HCbb := Sh.mk hC
      replace HCn := Sh.mk (Kd.C_below HCn.out hb)
      replace HS := Sh.mk (HS.out.below hb)
      clear hI hR hb hC
      obtain ⟨z0, z1, z2⟩ := HS.out.cells
      go_wp2_with fail
      refine (may3_any A cA nA la w3 HS.out.a hcA (by omega)).mono ?_
      rw [HMa.out]
      rintro e w4 ⟨rfl, hd⟩
      replace HCn := Sh.mk (Kd.C_below HCn.out hd.below)
      replace HCbb := Sh.mk (Kd.C_below HCbb.out hd.below)
      replace HS := Sh.mk (HS.out.below hd.below)
      clear hd z0 z1 z2
      obtain ⟨z0, z1, z2⟩ := HS.out.cells
      go_wp2_with fail
      refine (may3_any B cB nB lb w4 HS.out.b hcB (by omega)).mono ?_
      rw [HMb.out]
      rintro e w5 ⟨rfl, hd⟩
      replace HCn := Sh.mk (Kd.C_below HCn.out hd.below)
      replace HCbb := Sh.mk (Kd.C_below HCbb.out hd.below)
      replace HS := Sh.mk (HS.out.below hd.below)
      clear hd z0 z1 z2
      go_wp2_with fail
      have hc := normal_any E An cn ln.length ln w5 (HE.out.below HS.out.bel) HCn.out hcn (by omega)
      rw [HIn.out.1.may (by omega)] at hc
      refine hc.mono ?_
      clear hc
      rintro e w6 ⟨v, lagain, rfl, hI, hR, hb⟩
      obtain ⟨Aagain, cagain, rfl, hcagain, hC⟩ := R_open hR lagain.length rfl
      have hlagain := hI.len
      have HIagain := Sh.mk hI
      have HCagain := Sh.mk hC
      replace HCn := Sh.mk (Kd.C_below HCn.out hb)
      replace HCbb := Sh.mk (Kd.C_below HCbb.out hb)
      replace HS := Sh.mk (HS.out.below hb)
      clear hI hR hb hC
      obtain ⟨z0, z1, z2⟩ := HS.out.cells
      go_wp2_with fail
      have hc := not_any E A cA nA la w6 (HE.out.below HS.out.bel) HS.out.a hcA (by omega)
      rw [HMa.out] at hc
      refine hc.mono ?_
      clear hc z0 z1 z2
      rintro e w7 ⟨v, lnot, rfl, hI, hR, hb⟩
      obtain ⟨Anot, cnot, rfl, hcnot, hC⟩ := R_open hR lnot.length rfl
      have hlnot := hI.len
      have HInot := Sh.mk hI
      have HCnot := Sh.mk hC
      replace HCn := Sh.mk (Kd.C_below HCn.out hb)
      replace HCbb := Sh.mk (Kd.C_below HCbb.out hb)
      replace HCagain := Sh.mk (Kd.C_below HCagain.out hb)
      replace HS := Sh.mk (HS.out.below hb)
      clear hI hR hb hC
      go_wp2_with fail
      have hc := not_any E Anot cnot lnot.length lnot w7 (HE.out.below HS.out.bel) HCnot.out hcnot (by omega)
      rw [HInot.out.1.may (by omega)] at hc
      refine hc.mono ?_
      clear hc
      rintro e w8 ⟨v, lback, rfl, hI, hR, hb⟩
      obtain ⟨Aback, cback, rfl, hcback, hC⟩ := R_open hR lback.length rfl
      have hlback := hI.len
      have HIback := Sh.mk hI
      have HCback := Sh.mk hC
      replace HCn := Sh.mk (Kd.C_below HCn.out hb)
      replace HCbb := Sh.mk (Kd.C_below HCbb.out hb)
      replace HCagain := Sh.mk (Kd.C_below HCagain.out hb)
      replace HCnot := Sh.mk (Kd.C_below HCnot.out hb)
      replace HS := Sh.mk (HS.out.below hb)
      clear hI hR hb hC
      obtain ⟨z0, z1, z2⟩ := HS.out.cells
      go_wp2_with fail
      have hc := not_any E B cB nB lb w8 (HE.out.below HS.out.bel) HS.out.b hcB (by omega)
      rw [HMb.out] at hc
      refine hc.mono ?_
      clear hc z0 z1 z2
      rintro e w9 ⟨v, lother, rfl, hI, hR, hb⟩
      obtain ⟨Aother, cother, rfl, hcother, hC⟩ := R_open hR lother.length rfl
      have hlother := hI.len
      have HIother := Sh.mk hI
      have HCother := Sh.mk hC
      replace HCn := Sh.mk (Kd.C_below HCn.out hb)
      replace HCbb := Sh.mk (Kd.C_below HCbb.out hb)
      replace HCagain := Sh.mk (Kd.C_below HCagain.out hb)
      replace HCnot := Sh.mk (Kd.C_below HCnot.out hb)
      replace HCback := Sh.mk (Kd.C_below HCback.out hb)
      replace HS := Sh.mk (HS.out.below hb)
      clear hI hR hb hC
      obtain ⟨z0, z1, z2⟩ := HS.out.cells
      go_wp2_with fail
      have hc := inter_any E A B cA cB nA nB la lb w9 (HE.out.below HS.out.bel) HS.out.a hcA (by omega) HS.out.b hcB (by omega)
      rw [HMa.out, HMb.out] at hc
      refine hc.mono ?_
      clear hc z0 z1 z2
      rintro e w10 ⟨v, linter, rfl, hI, hR, hb⟩
      obtain ⟨Ainter, cinter, rfl, hcinter, hC⟩ := R_open hR linter.length rfl
      have hlinter := hI.len
      have HIinter := Sh.mk hI
      have HCinter := Sh.mk hC
      replace HCn := Sh.mk (Kd.C_below HCn.out hb)
      replace HCbb := Sh.mk (Kd.C_below HCbb.out hb)
      replace HCagain := Sh.mk (Kd.C_below HCagain.out hb)
      replace HCnot := Sh.mk (Kd.C_below HCnot.out hb)
      replace HCback := Sh.mk (Kd.C_below HCback.out hb)
      replace HCother := Sh.mk (Kd.C_below HCother.out hb)
      replace HS := Sh.mk (HS.out.below hb)
      clear hI hR hb hC
      obtain ⟨z0, z1, z2⟩ := HS.out.cells
      go_wp2_with fail
      have hc := minus_any E A B cA cB nA nB la lb w10 (HE.out.below HS.out.bel) HS.out.a hcA (by omega) HS.out.b hcB (by omega)
      rw [HMa.out, HMb.out] at hc
      refine hc.mono ?_
      clear hc z0 z1 z2
      rintro e w11 ⟨v, lminus, rfl, hI, hR, hb⟩
      obtain ⟨Aminus, cminus, rfl, hcminus, hC⟩ := R_open hR lminus.length rfl
      have hlminus := hI.len
      have HIminus := Sh.mk hI
      have HCminus := Sh.mk hC
      replace HCn := Sh.mk (Kd.C_below HCn.out hb)
      replace HCbb := Sh.mk (Kd.C_below HCbb.out hb)
      replace HCagain := Sh.mk (Kd.C_below HCagain.out hb)
      replace HCnot := Sh.mk (Kd.C_below HCnot.out hb)
      replace HCback := Sh.mk (Kd.C_below HCback.out hb)
      replace HCother := Sh.mk (Kd.C_below HCother.out hb)
      replace HCinter := Sh.mk (Kd.C_below HCinter.out hb)
      replace HS := Sh.mk (HS.out.below hb)
      clear hI hR hb hC
      go_wp2_with fail
      have hc := union_any E Anot Aother cnot cother lnot.length lother.length lnot lother w11 (HE.out.below HS.out.bel) HCnot.out hcnot (by omega) HCother.out hcother (by omega)
      rw [HInot.out.1.may (by omega), HIother.out.1.may (by omega)] at hc
      refine hc.mono ?_
      clear hc
      rintro e w12 ⟨v, ljoined, rfl, hI, hR, hb⟩
      obtain ⟨Ajoined, cjoined, rfl, hcjoined, hC⟩ := R_open hR ljoined.length rfl
      have hljoined := hI.len
      have HIjoined := Sh.mk hI
      have HCjoined := Sh.mk hC
      replace HCn := Sh.mk (Kd.C_below HCn.out hb)
      replace HCbb := Sh.mk (Kd.C_below HCbb.out hb)
      replace HCagain := Sh.mk (Kd.C_below HCagain.out hb)
      replace HCnot := Sh.mk (Kd.C_below HCnot.out hb)
      replace HCback := Sh.mk (Kd.C_below HCback.out hb)
      replace HCother := Sh.mk (Kd.C_below HCother.out hb)
      replace HCinter := Sh.mk (Kd.C_below HCinter.out hb)
      replace HCminus := Sh.mk (Kd.C_below HCminus.out hb)
      replace HS := Sh.mk (HS.out.below hb)
      clear hI hR hb hC
      go_wp2_with fail
      have hc := not_any E Ajoined cjoined ljoined.length ljoined w12 (HE.out.below HS.out.bel) HCjoined.out hcjoined (by omega)
      rw [HIjoined.out.1.may (by omega)] at hc
      refine hc.mono ?_
      clear hc
      rintro e w13 ⟨v, lmorgan, rfl, hI, hR, hb⟩
      obtain ⟨Amorgan, cmorgan, rfl, hcmorgan, hC⟩ := R_open hR lmorgan.length rfl
      have hlmorgan := hI.len
      have HImorgan := Sh.mk hI
      have HCmorgan := Sh.mk hC
      replace HCn := Sh.mk (Kd.C_below HCn.out hb)
      replace HCbb := Sh.mk (Kd.C_below HCbb.out hb)
      replace HCagain := Sh.mk (Kd.C_below HCagain.out hb)
      replace HCnot := Sh.mk (Kd.C_below HCnot.out hb)
      replace HCback := Sh.mk (Kd.C_below HCback.out hb)
      replace HCother := Sh.mk (Kd.C_below HCother.out hb)
      replace HCinter := Sh.mk (Kd.C_below HCinter.out hb)
      replace HCminus := Sh.mk (Kd.C_below HCminus.out hb)
      replace HCjoined := Sh.mk (Kd.C_below HCjoined.out hb)
      replace HS := Sh.mk (HS.out.below hb)
      clear hI hR hb hC
      obtain ⟨z0, z1, z2⟩ := HS.out.cells
      go_wp2_with fail
      have hc := inter_any E A Aother cA cother nA lother.length la lother w13 (HE.out.below HS.out.bel) HS.out.a hcA (by omega) HCother.out hcother (by omega)
      rw [HMa.out, HIother.out.1.may (by omega)] at hc
      refine hc.mono ?_
      clear hc z0 z1 z2
      rintro e w14 ⟨v, lless, rfl, hI, hR, hb⟩
      obtain ⟨Aless, cless, rfl, hcless, hC⟩ := R_open hR lless.length rfl
      have hlless := hI.len
      have HIless := Sh.mk hI
      have HCless := Sh.mk hC
      replace HCn := Sh.mk (Kd.C_below HCn.out hb)
      replace HCbb := Sh.mk (Kd.C_below HCbb.out hb)
      replace HCagain := Sh.mk (Kd.C_below HCagain.out hb)
      replace HCnot := Sh.mk (Kd.C_below HCnot.out hb)
      replace HCback := Sh.mk (Kd.C_below HCback.out hb)
      replace HCother := Sh.mk (Kd.C_below HCother.out hb)
      replace HCinter := Sh.mk (Kd.C_below HCinter.out hb)
      replace HCminus := Sh.mk (Kd.C_below HCminus.out hb)
      replace HCjoined := Sh.mk (Kd.C_below HCjoined.out hb)
      replace HCmorgan := Sh.mk (Kd.C_below HCmorgan.out hb)
      replace HS := Sh.mk (HS.out.below hb)
      clear hI hR hb hC
      go_wp2_with fail
      have hc := union_any E Aminus Ainter cminus cinter lminus.length linter.length lminus linter w14 (HE.out.below HS.out.bel) HCminus.out hcminus (by omega) HCinter.out hcinter (by omega)
      rw [HIminus.out.1.may (by omega), HIinter.out.1.may (by omega)] at hc
      refine hc.mono ?_
      clear hc
      rintro e w15 ⟨v, lwhole, rfl, hI, hR, hb⟩
      obtain ⟨Awhole, cwhole, rfl, hcwhole, hC⟩ := R_open hR lwhole.length rfl
      have hlwhole := hI.len
      have HIwhole := Sh.mk hI
      have HCwhole := Sh.mk hC
      replace HCn := Sh.mk (Kd.C_below HCn.out hb)
      replace HCbb := Sh.mk (Kd.C_below HCbb.out hb)
      replace HCagain := Sh.mk (Kd.C_below HCagain.out hb)
      replace HCnot := Sh.mk (Kd.C_below HCnot.out hb)
      replace HCback := Sh.mk (Kd.C_below HCback.out hb)
      replace HCother := Sh.mk (Kd.C_below HCother.out hb)
      replace HCinter := Sh.mk (Kd.C_below HCinter.out hb)
      replace HCminus := Sh.mk (Kd.C_below HCminus.out hb)
      replace HCjoined := Sh.mk (Kd.C_below HCjoined.out hb)
      replace HCmorgan := Sh.mk (Kd.C_below HCmorgan.out hb)
      replace HCless := Sh.mk (Kd.C_below HCless.out hb)
      replace HS := Sh.mk (HS.out.below hb)
      clear hI hR hb hC
      obtain ⟨z0, z1, z2⟩ := HS.out.cells
      go_wp2
      clear z0 z1 z2
      go_loopw [27, 28] (fun v i wr => ∃ m : Nat, m ≤ nA ∧ i = .int .i64 ((m : Int) - 1) ∧ Sh (wr.ownsRow w15.heap.size RgT 2 v (turn (la.drop m)).length ((turn (la.drop m)).flatMap rL)) ∧ Sh (Below w15.heap.size w15 wr)) (fun _ i _ => (intOf i + 1).toNat)
      case atStart => exact ⟨nA, by omega, rfl, ⟨by rw [List.drop_eq_nil_of_le (by rw [HLA.out]; exact Nat.le_refl _)]; exact World.ownsRow_nil _ _ _ _⟩, ⟨Below.refl _ _⟩⟩
      case round =>
        obtain ⟨m, hm, rfl, HO, HB⟩ := hrel
        by_cases hm0 : m = 0
        · subst hm0
          rw [List.drop_zero] at HO
          have htl : (turn la).length ≤ 1048576 := by rw [turn_len, HLA.out]; omega
          obtain ⟨At, ct, rfl, hct, hC⟩ := R_open (d := rgK) (ok := fun _ => True) ⟨fun _ _ => trivial, _, HO.out, rgs_reps _ _ _ _⟩ (turn la).length rfl
          have HCt := Sh.mk hC
          have HMt := Sh.mk (turn_may la HMa.out)
          have HTI := Sh.mk (turn_in la HMa.out)
          replace HCn := Sh.mk (Kd.C_below HCn.out HB.out)
          replace HCbb := Sh.mk (Kd.C_below HCbb.out HB.out)
          replace HCagain := Sh.mk (Kd.C_below HCagain.out HB.out)
          replace HCnot := Sh.mk (Kd.C_below HCnot.out HB.out)
          replace HCback := Sh.mk (Kd.C_below HCback.out HB.out)
          replace HCother := Sh.mk (Kd.C_below HCother.out HB.out)
          replace HCinter := Sh.mk (Kd.C_below HCinter.out HB.out)
          replace HCminus := Sh.mk (Kd.C_below HCminus.out HB.out)
          replace HCjoined := Sh.mk (Kd.C_below HCjoined.out HB.out)
          replace HCmorgan := Sh.mk (Kd.C_below HCmorgan.out HB.out)
          replace HCless := Sh.mk (Kd.C_below HCless.out HB.out)
          replace HCwhole := Sh.mk (Kd.C_below HCwhole.out HB.out)
          replace HS := Sh.mk (HS.out.below HB.out)
          clear hC HO HB
          obtain ⟨lt, hlt⟩ : ∃ l, l = turn la := ⟨_, rfl⟩
          rw [← hlt] at HCt HMt HTI htl hct ⊢
          clear hlt
          go_wp2_with fail
          have hc := normal_any E At ct lt.length lt wr (HE.out.below HS.out.bel) HCt.out hct (by omega)
          rw [HMt.out] at hc
          refine hc.mono ?_
          clear hc
          rintro e x1 ⟨v, lcut, rfl, hI, hR, hb⟩
          obtain ⟨Acut, ccut, rfl, hccut, hC⟩ := R_open hR lcut.length rfl
          have hlcut := hI.len
          have HIcut := Sh.mk hI
          have HCcut := Sh.mk hC
          replace HCn := Sh.mk (Kd.C_below HCn.out hb)
          replace HCbb := Sh.mk (Kd.C_below HCbb.out hb)
          replace HCagain := Sh.mk (Kd.C_below HCagain.out hb)
          replace HCnot := Sh.mk (Kd.C_below HCnot.out hb)
          replace HCback := Sh.mk (Kd.C_below HCback.out hb)
          replace HCother := Sh.mk (Kd.C_below HCother.out hb)
          replace HCinter := Sh.mk (Kd.C_below HCinter.out hb)
          replace HCminus := Sh.mk (Kd.C_below HCminus.out hb)
          replace HCjoined := Sh.mk (Kd.C_below HCjoined.out hb)
          replace HCmorgan := Sh.mk (Kd.C_below HCmorgan.out hb)
          replace HCless := Sh.mk (Kd.C_below HCless.out hb)
          replace HCwhole := Sh.mk (Kd.C_below HCwhole.out hb)
          replace HS := Sh.mk (HS.out.below hb)
          clear hI hR hb hC
          go_wp2_with fail
          have hc := inter_any E Abb An cbb cn lbb.length ln.length lbb ln x1 (HE.out.below HS.out.bel) HCbb.out hcbb (by omega) HCn.out hcn (by omega)
          rw [HIbb.out.1.may (by omega), HIn.out.1.may (by omega)] at hc
          refine hc.mono ?_
          clear hc
          rintro e x2 ⟨v, lswapped, rfl, hI, hR, hb⟩
          obtain ⟨Aswapped, cswapped, rfl, hcswapped, hC⟩ := R_open hR lswapped.length rfl
          have hlswapped := hI.len
          have HIswapped := Sh.mk hI
          have HCswapped := Sh.mk hC
          replace HCn := Sh.mk (Kd.C_below HCn.out hb)
          replace HCbb := Sh.mk (Kd.C_below HCbb.out hb)
          replace HCagain := Sh.mk (Kd.C_below HCagain.out hb)
          replace HCnot := Sh.mk (Kd.C_below HCnot.out hb)
          replace HCback := Sh.mk (Kd.C_below HCback.out hb)
          replace HCother := Sh.mk (Kd.C_below HCother.out hb)
          replace HCinter := Sh.mk (Kd.C_below HCinter.out hb)
          replace HCminus := Sh.mk (Kd.C_below HCminus.out hb)
          replace HCjoined := Sh.mk (Kd.C_below HCjoined.out hb)
          replace HCmorgan := Sh.mk (Kd.C_below HCmorgan.out hb)
          replace HCless := Sh.mk (Kd.C_below HCless.out hb)
          replace HCwhole := Sh.mk (Kd.C_below HCwhole.out hb)
          replace HCcut := Sh.mk (Kd.C_below HCcut.out hb)
          replace HS := Sh.mk (HS.out.below hb)
          clear hI hR hb hC
          have HN0 := Sh.mk (is_self HIn.out HIagain.out)
          have e1 : lagain = ln := HN0.out.same HIn.out
          have e2 : lback = ln := HIback.out.uniq HIn.out (fun p h0 h1 => by rw [HInot.out.in_ h0 h1]; cases inL la p <;> rfl)
          have e3 : linter = lmorgan := HIinter.out.uniq HImorgan.out (fun p h0 h1 => by rw [HIjoined.out.in_ h0 h1, HInot.out.in_ h0 h1, HIother.out.in_ h0 h1]; cases inL la p <;> cases inL lb p <;> rfl)
          have e4 : lminus = lless := HIminus.out.uniq HIless.out (fun p h0 h1 => by rw [HIother.out.in_ h0 h1])
          have e5 : lwhole = ln := HIwhole.out.uniq HIn.out (fun p h0 h1 => by rw [HIminus.out.in_ h0 h1, HIinter.out.in_ h0 h1]; cases inL la p <;> cases inL lb p <;> rfl)
          have e6 : lcut = ln := HIcut.out.uniq HIn.out (fun p h0 h1 => HTI.out p)
          have e7 : lswapped = linter := HIswapped.out.uniq HIinter.out (fun p h0 h1 => by rw [HIn.out.in_ h0 h1, HIbb.out.in_ h0 h1]; cases inL la p <;> cases inL lb p <;> rfl)
          have HQ := Sh.mk (show lagain = ln ∧ lback = ln ∧ linter = lmorgan ∧ lminus = lless ∧ lwhole = ln ∧ lcut = ln ∧ lswapped = linter from ⟨e1, e2, e3, e4, e5, e6, e7⟩)
          clear e1 e2 e3 e4 e5 e6 e7
          go_wp2_with fail
          refine (same_any Aagain An cagain cn lagain.length ln.length lagain ln x2 HCagain.out HCn.out hcagain hcn (by omega)).mono ?_
          rw [decide_eq_true HQ.out.1]
          rintro e y0 ⟨rfl, hd⟩
          replace HCn := Sh.mk (Kd.C_below HCn.out hd.below)
          replace HCback := Sh.mk (Kd.C_below HCback.out hd.below)
          replace HCinter := Sh.mk (Kd.C_below HCinter.out hd.below)
          replace HCminus := Sh.mk (Kd.C_below HCminus.out hd.below)
          replace HCmorgan := Sh.mk (Kd.C_below HCmorgan.out hd.below)
          replace HCless := Sh.mk (Kd.C_below HCless.out hd.below)
          replace HCwhole := Sh.mk (Kd.C_below HCwhole.out hd.below)
          replace HCcut := Sh.mk (Kd.C_below HCcut.out hd.below)
          replace HCswapped := Sh.mk (Kd.C_below HCswapped.out hd.below)
          replace HS := Sh.mk (HS.out.below hd.below)
          clear hd
          go_wp2_with fail
          refine (same_any Aback An cback cn lback.length ln.length lback ln y0 HCback.out HCn.out hcback hcn (by omega)).mono ?_
          rw [decide_eq_true HQ.out.2.1]
          rintro e y1 ⟨rfl, hd⟩
          replace HCn := Sh.mk (Kd.C_below HCn.out hd.below)
          replace HCinter := Sh.mk (Kd.C_below HCinter.out hd.below)
          replace HCminus := Sh.mk (Kd.C_below HCminus.out hd.below)
          replace HCmorgan := Sh.mk (Kd.C_below HCmorgan.out hd.below)
          replace HCless := Sh.mk (Kd.C_below HCless.out hd.below)
          replace HCwhole := Sh.mk (Kd.C_below HCwhole.out hd.below)
          replace HCcut := Sh.mk (Kd.C_below HCcut.out hd.below)
          replace HCswapped := Sh.mk (Kd.C_below HCswapped.out hd.below)
          replace HS := Sh.mk (HS.out.below hd.below)
          clear hd
          go_wp2_with fail
          refine (same_any Ainter Amorgan cinter cmorgan linter.length lmorgan.length linter lmorgan y1 HCinter.out HCmorgan.out hcinter hcmorgan (by omega)).mono ?_
          rw [decide_eq_true HQ.out.2.2.1]
          rintro e y2 ⟨rfl, hd⟩
          replace HCn := Sh.mk (Kd.C_below HCn.out hd.below)
          replace HCinter := Sh.mk (Kd.C_below HCinter.out hd.below)
          replace HCminus := Sh.mk (Kd.C_below HCminus.out hd.below)
          replace HCless := Sh.mk (Kd.C_below HCless.out hd.below)
          replace HCwhole := Sh.mk (Kd.C_below HCwhole.out hd.below)
          replace HCcut := Sh.mk (Kd.C_below HCcut.out hd.below)
          replace HCswapped := Sh.mk (Kd.C_below HCswapped.out hd.below)
          replace HS := Sh.mk (HS.out.below hd.below)
          clear hd
          go_wp2_with fail
          refine (same_any Aminus Aless cminus cless lminus.length lless.length lminus lless y2 HCminus.out HCless.out hcminus hcless (by omega)).mono ?_
          rw [decide_eq_true HQ.out.2.2.2.1]
          rintro e y3 ⟨rfl, hd⟩
          replace HCn := Sh.mk (Kd.C_below HCn.out hd.below)
          replace HCinter := Sh.mk (Kd.C_below HCinter.out hd.below)
          replace HCwhole := Sh.mk (Kd.C_below HCwhole.out hd.below)
          replace HCcut := Sh.mk (Kd.C_below HCcut.out hd.below)
          replace HCswapped := Sh.mk (Kd.C_below HCswapped.out hd.below)
          replace HS := Sh.mk (HS.out.below hd.below)
          clear hd
          go_wp2_with fail
          refine (same_any Awhole An cwhole cn lwhole.length ln.length lwhole ln y3 HCwhole.out HCn.out hcwhole hcn (by omega)).mono ?_
          rw [decide_eq_true HQ.out.2.2.2.2.1]
          rintro e y4 ⟨rfl, hd⟩
          replace HCn := Sh.mk (Kd.C_below HCn.out hd.below)
          replace HCinter := Sh.mk (Kd.C_below HCinter.out hd.below)
          replace HCcut := Sh.mk (Kd.C_below HCcut.out hd.below)
          replace HCswapped := Sh.mk (Kd.C_below HCswapped.out hd.below)
          replace HS := Sh.mk (HS.out.below hd.below)
          clear hd
          go_wp2_with fail
          refine (same_any Acut An ccut cn lcut.length ln.length lcut ln y4 HCcut.out HCn.out hccut hcn (by omega)).mono ?_
          rw [decide_eq_true HQ.out.2.2.2.2.2.1]
          rintro e y5 ⟨rfl, hd⟩
          replace HCinter := Sh.mk (Kd.C_below HCinter.out hd.below)
          replace HCswapped := Sh.mk (Kd.C_below HCswapped.out hd.below)
          replace HS := Sh.mk (HS.out.below hd.below)
          clear hd
          go_wp2_with fail
          refine (same_any Aswapped Ainter cswapped cinter lswapped.length linter.length lswapped linter y5 HCswapped.out HCinter.out hcswapped hcinter (by omega)).mono ?_
          rw [decide_eq_true HQ.out.2.2.2.2.2.2]
          rintro e y6 ⟨rfl, hd⟩
          replace HS := Sh.mk (HS.out.below hd.below)
          clear hd
          go_wp2
          go_ret
          exact ⟨rfl, HS.out.bel⟩
        · have hlt : m - 1 < nA := by omega
          obtain ⟨j, rfl⟩ : ∃ j, m = j + 1 := ⟨m - 1, by omega⟩
          rw [Nat.add_sub_cancel] at hlt
          have HSr := Sh.mk (HS.out.below HB.out)
          obtain ⟨z0, z1, z2⟩ := HSr.out.cells
          obtain ⟨ad, e1, y0, y1⟩ := C_rg HSr.out.a j hlt
          cases e1
          have HTD := Sh.mk (turn_drop la j (by rw [HLA.out]; exact hlt))
          have htl : (turn (la.drop (j + 1))).length ≤ 8388608 := by rw [turn_len, List.length_drop, HLA.out]; omega
          obtain ⟨⟨rl, rh⟩, hr⟩ : ∃ r, r = rdR la j := ⟨_, rfl⟩
          rw [← hr] at y0 y1 HTD
          dsimp only at y0 y1 HTD
          clear hr hm0
          go_wp2_with (first | ((with_reducible refine gate_builtin (b := .append) (xs := #[.tmp 139, .tmp 146]) rfl ?_); refine app_rg2 (w0 := w15) (.tmp 139) (.tmp 146) _ _ rl rl rl rh rfl rfl rfl _ (by simp) rfl (HO.out.alloc _) (ShB.alloc HB HB.out.size _).out (by simp; have := HB.out.size; omega) htl ?_; clear HO HB; intro v1 wz HO HB))
          go_roundw
          case rel => exact ⟨j, by omega, by go_num, ⟨by rw [HTD.out]; exact HO.out⟩, HB⟩
          case measure => simp [intOf] <;> omega
end Go.Proofs.YthjdjgppghplgaaDoor
