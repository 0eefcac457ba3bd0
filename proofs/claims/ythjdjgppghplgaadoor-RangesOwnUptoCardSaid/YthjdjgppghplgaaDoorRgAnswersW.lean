/-
The walk of caesuralaw3.RangesAnswers. Conditions: lists of at most 2^20 ranges; the refusals read as listed.
-/
import Derived.Test.YthjdjgppghplgaaDoorRgKept
import Derived.Test.YthjdjgppghplgaaDoorRgCountsW
import Derived.Test.YthjdjgppghplgaaDoorWApart
namespace Go.Proofs.YthjdjgppghplgaaDoor
open Go Go.RowKit Go.Proofs.YthjdjgppghplgaaDoorW.PrintWords Go.Proofs.YthjdjgppghplgaaDoorW.PrintLast Go.Proofs.YthjdjgppghplgaaDoorW.PrintMore
/-- The box; two rows of one's own, apart from one another. -/
structure AN (w W : World) (g : Nat) (A B : Option Addr) (cA cB nA nB : Nat) (la lb : List Rg) (pt : Int) (ga gb ca cb : Nat) (xs ys : List Rg) : Prop where
  rq : RQ w W g A B cA cB nA nB la lb pt
  a : rgK.R RgT W (g + 1) (fun _ => True) (.slice (some ⟨ga, 0, none⟩) (nA + 1) ca) xs
  b : rgK.R RgT W (g + 1) (fun _ => True) (.slice (some ⟨gb, 0, none⟩) (nB + 1) cb) ys
  ne : ga ≠ gb
  hg : w.heap.size ≤ g
section
variable {w W W1 : World} {g : Nat} {A B : Option Addr} {cA cB nA nB : Nat} {la lb : List Rg} {pt : Int} {ga gb ca cb : Nat} {xs ys : List Rg}
theorem AN.below (h : AN w W g A B cA cB nA nB la lb pt ga gb ca cb xs ys) (hb : Below W.heap.size W W1) : AN w W1 g A B cA cB nA nB la lb pt ga gb ca cb xs ys :=
  ⟨h.rq.below hb, Kd.R_below h.a hb, Kd.R_below h.b hb, h.ne, h.hg⟩
theorem AN.at_a (h : AN w W g A B cA cB nA nB la lb pt ga gb ca cb xs ys) (k : Nat) (hk : k < nA + 1) : W.cell? ⟨ga, k * 2, none⟩ = some (.int .i64 (rdR xs k).1) ∧ W.cell? ⟨ga, k * 2 + 1, none⟩ = some (.int .i64 (rdR xs k).2) ∧ W.frozen? ⟨ga, k * 2, none⟩ = false ∧ W.frozen? ⟨ga, k * 2 + 1, none⟩ = false := by
  obtain ⟨c, hcl, hM, hcc, hfz⟩ := Kd.R_elem h.a (0, 0) (k : Int) (by omega) (by omega)
  obtain ⟨c0, c1, rfl, h0, h1⟩ := hM
  have e : rdR xs k = xs.getD ((k : Int)).toNat (0, 0) := by rw [Int.toNat_natCast]; rfl
  rw [← e] at h0 h1
  obtain rfl : c0 = [.int .i64 (rdR xs k).1] := h0
  obtain rfl : c1 = [.int .i64 (rdR xs k).2] := h1
  exact ⟨hcc 0 _ rfl, hcc 1 _ rfl, hfz 0, hfz 1⟩
theorem AN.at_b (h : AN w W g A B cA cB nA nB la lb pt ga gb ca cb xs ys) (k : Nat) (hk : k < nB + 1) : W.cell? ⟨gb, k * 2, none⟩ = some (.int .i64 (rdR ys k).1) ∧ W.cell? ⟨gb, k * 2 + 1, none⟩ = some (.int .i64 (rdR ys k).2) ∧ W.frozen? ⟨gb, k * 2, none⟩ = false ∧ W.frozen? ⟨gb, k * 2 + 1, none⟩ = false := by
  obtain ⟨c, hcl, hM, hcc, hfz⟩ := Kd.R_elem h.b (0, 0) (k : Int) (by omega) (by omega)
  obtain ⟨c0, c1, rfl, h0, h1⟩ := hM
  have e : rdR ys k = ys.getD ((k : Int)).toNat (0, 0) := by rw [Int.toNat_natCast]; rfl
  rw [← e] at h0 h1
  obtain rfl : c0 = [.int .i64 (rdR ys k).1] := h0
  obtain rfl : c1 = [.int .i64 (rdR ys k).2] := h1
  exact ⟨hcc 0 _ rfl, hcc 1 _ rfl, hfz 0, hfz 1⟩
/-- A cell of such a row written. -/
theorem seg_rg {base ok n cap} {v : Nat} (h : rgK.R RgT W base ok (.slice (some ⟨v, 0, none⟩) n cap) xs) (k : Nat) (hk : k < n) (hi : Bool) (x : Int) :
    rgK.R RgT (W.setCell ⟨v, k * 2 + hi.toNat, none⟩ (.int .i64 x)) base ok (.slice (some ⟨v, 0, none⟩) n cap) (xs.set k (if hi then ((rdR xs k).1, x) else (x, (rdR xs k).2))) := by
  obtain ⟨c, hcl, hM, hcc, hfz⟩ := Kd.R_elem h (0, 0) (k : Int) (by omega) (by omega)
  obtain ⟨c0, c1, rfl, h0, h1⟩ := hM
  have e : rdR xs k = xs.getD ((k : Int)).toNat (0, 0) := by rw [Int.toNat_natCast]; rfl
  rw [← e] at h0 h1
  obtain rfl : c0 = [.int .i64 (rdR xs k).1] := h0
  obtain rfl : c1 = [.int .i64 (rdR xs k).2] := h1
  cases hi with
  | true =>
    have hs := Kd.R_seg (okp := fun _ => False) h (k : Int) (by omega) (by omega) (c := [.int .i64 (rdR xs k).1, .int .i64 (rdR xs k).2]) (seg := [.int .i64 x]) (j := 1) rfl hcc (by show 1 + 1 ≤ 2; omega) (x' := ((rdR xs k).1, x)) (rg_M _ _ _ _) (fun _ hk => hk.elim)
    exact hs.1
  | false =>
    have hs := Kd.R_seg (okp := fun _ => False) h (k : Int) (by omega) (by omega) (c := [.int .i64 (rdR xs k).1, .int .i64 (rdR xs k).2]) (seg := [.int .i64 x]) (j := 0) rfl hcc (by show 0 + 1 ≤ 2; omega) (x' := (x, (rdR xs k).2)) (rg_M _ _ _ _) (fun _ hk => hk.elim)
    exact hs.1
theorem far_rg {base ok n cap} {v g' : Nat} (h : rgK.R RgT W base ok (.slice (some ⟨v, 0, none⟩) n cap) xs) (hne : v ≠ g') (o : Nat) (x : Value) : rgK.R RgT (W.setCell ⟨g', o, none⟩ x) base (fun _ => True) (.slice (some ⟨v, 0, none⟩) n cap) xs :=
  Kd.R_mono (Kd.R_far (Kd.R_tight rfl h) (p := ⟨g', o, none⟩) (fun k hk => by
    have : v = k := by simpa [Value.ownBlock] using hk.symm
    show k ≠ g'
    omega) x) (fun _ _ => trivial)
theorem RQ.far (hA : rgK.C w A nA la) (hB : rgK.C w B nB lb) (h : RQ w W g A B cA cB nA nB la lb pt) {g' : Nat} (h1 : w.heap.size ≤ g') (h2 : g ≠ g') (o : Nat) (x : Value) : RQ w (W.setCell ⟨g', o, none⟩ x) g A B cA cB nA nB la lb pt := by
  have hb := h.bel.setCell (p := ⟨g', o, none⟩) h1 x
  exact ⟨hb, blk_far h.box (p := ⟨g', o, none⟩) h2 x, Kd.C_below hA hb, Kd.C_below hB hb⟩
theorem AN.set_a (hA : rgK.C w A nA la) (hB : rgK.C w B nB lb) (h : AN w W g A B cA cB nA nB la lb pt ga gb ca cb xs ys) (k : Nat) (hk : k < nA + 1) (x : Int) :
    AN w (W.setCell ⟨ga, k * 2 + 1, none⟩ (.int .i64 x)) g A B cA cB nA nB la lb pt ga gb ca cb (xs.set k ((rdR xs k).1, x)) ys := by
  have hga := Kd.R_base h.a ga rfl
  exact ⟨h.rq.far hA hB (by have := h.hg; omega) (by omega) _ _, seg_rg h.a k hk true x, far_rg h.b (Ne.symm h.ne) _ _, h.ne, h.hg⟩
theorem AN.set_b (hA : rgK.C w A nA la) (hB : rgK.C w B nB lb) (h : AN w W g A B cA cB nA nB la lb pt ga gb ca cb xs ys) (k : Nat) (hk : k < nB + 1) (x : Int) :
    AN w (W.setCell ⟨gb, k * 2, none⟩ (.int .i64 x)) g A B cA cB nA nB la lb pt ga gb ca cb xs (ys.set k (x, (rdR ys k).2)) := by
  have hgb := Kd.R_base h.b gb rfl
  exact ⟨h.rq.far hA hB (by have := h.hg; omega) (by omega) _ _, far_rg h.a h.ne _ _, seg_rg h.b k hk false x, h.ne, h.hg⟩
abbrev SA (w : World) (g : Nat) (A B : Option Addr) (cA cB nA nB : Nat) (la lb : List Rg) (pt : Int) (ga gb ca cb : Nat) (xs ys : List Rg) (W : World) : Prop :=
  W.cell? ⟨g, 0, none⟩ = some (.slice A nA cA) ∧ W.cell? ⟨g, 1, none⟩ = some (.slice B nB cB) ∧ W.cell? ⟨g, 2, none⟩ = some (.int .i64 pt) ∧ Sh (AN w W g A B cA cB nA nB la lb pt ga gb ca cb xs ys)
theorem SA.of (h : AN w W g A B cA cB nA nB la lb pt ga gb ca cb xs ys) : SA w g A B cA cB nA nB la lb pt ga gb ca cb xs ys W := ⟨h.rq.cells.1, h.rq.cells.2.1, h.rq.cells.2.2, ⟨h⟩⟩
theorem SA.drew (h : SA w g A B cA cB nA nB la lb pt ga gb ca cb xs ys W) : SA w g A B cA cB nA nB la lb pt ga gb ca cb xs ys W.drew := SA.of (h.2.2.2.out.below (below_drew (Below.refl _ _)))
theorem SA.below (h : SA w g A B cA cB nA nB la lb pt ga gb ca cb xs ys W) (hb : Below W.heap.size W W1) : SA w g A B cA cB nA nB la lb pt ga gb ca cb xs ys W1 := SA.of (h.2.2.2.out.below hb)
theorem saa (h : SA w g A B cA cB nA nB la lb pt ga gb ca cb xs ys W) : AN w W g A B cA cB nA nB la lb pt ga gb ca cb xs ys := h.2.2.2.out
theorem AN.rowA (h : AN w W g A B cA cB nA nB la lb pt ga gb ca cb xs ys) : rgK.C W (some ⟨ga, 0, none⟩) (nA + 1) xs ∧ nA + 1 ≤ ca := by
  obtain ⟨h1, h2, h3⟩ := Kd.R_reads' h.a
  rw [← h1] at h3
  exact ⟨h3, h2⟩
theorem AN.rowB (h : AN w W g A B cA cB nA nB la lb pt ga gb ca cb xs ys) : rgK.C W (some ⟨gb, 0, none⟩) (nB + 1) ys ∧ nB + 1 ≤ cb := by
  obtain ⟨h1, h2, h3⟩ := Kd.R_reads' h.b
  rw [← h1] at h3
  exact ⟨h3, h2⟩
end
/-- A list of which the first ranges have been turned. -/
def part (f : Rg → Rg) (l : List Rg) (k : Nat) : List Rg := (l.take k).map f ++ (l.drop k ++ [(77, 7)])
theorem part_zero (f : Rg → Rg) (l : List Rg) : part f l 0 = l ++ [(77, 7)] := by simp [part]
theorem part_rd (f : Rg → Rg) (l : List Rg) (k : Nat) (h : k < l.length) : rdR (part f l k) k = rdR l k := by
  have hl : ((l.take k).map f).length = k := by rw [List.length_map, List.length_take]; omega
  unfold part
  conv => lhs; unfold rdR
  rw [List.getD_eq_getElem?_getD, List.getElem?_append_right (by rw [hl]; exact Nat.le_refl _), hl, Nat.sub_self, drop_rd l k h]
  rfl
theorem part_set (f : Rg → Rg) (l : List Rg) (k : Nat) (h : k < l.length) : (part f l k).set k (f (rdR l k)) = part f l (k + 1) := by
  unfold part
  have hl : ((l.take k).map f).length = k := by rw [List.length_map, List.length_take]; omega
  rw [drop_rd l k h, take_rd l k h, List.map_append, List.append_assoc, List.cons_append]
  rw [List.set_append_right _ _ (by rw [hl]; exact Nat.le_refl _), hl, Nat.sub_self, List.set_cons_zero]
  rfl
theorem part_all (f : Rg → Rg) (l : List Rg) {n : Nat} (h : l.length = n) : part f l n = l.map f ++ [(77, 7)] := by
  unfold part
  rw [List.take_of_length_le (by omega), List.drop_eq_nil_of_le (by omega), List.nil_append]
theorem take_one (l : List Rg) (x : Rg) {n : Nat} (h : l.length = n) : (l ++ [x]).take n = l := take_snoc_one l x h
abbrev lowF (r : Rg) : Rg := (r.1, r.1)
abbrev highF (r : Rg) : Rg := (r.2, r.2)
set_option maxHeartbeats 32000000 in
set_option maxRecDepth 100000 in
theorem answersW_any (E : Nat → Addr) (A B : Option Addr) (cA cB nA nB : Nat) (la lb : List Rg) (pt : Int) (w : World) (hE : GS allS E w) (hA : rgK.C w A nA la) (hB : rgK.C w B nB lb) (hcA : nA ≤ cA) (hcB : nB ≤ cB) (hna : nA ≤ 1048576) (hnb : nB ≤ 1048576) :
    Calls Tryd.prog 4 #[.agg #[.slice A nA cA, .slice B nB cB, .int .i64 pt]] w fun e w' => e = .returned (.bool true) ∧ Below w.heap.size w w' := by
  have HE := Sh.mk hE
  have HA0 := Sh.mk hA
  have HB0 := Sh.mk hB
  have HLA := Sh.mk hA.1
  have HLB := Sh.mk hB.1
  obtain ⟨W0, hW0⟩ : ∃ W0, W0 = w.alloc (.cells #[.slice A nA cA, .slice B nB cB, .int .i64 pt] TwT) := ⟨_, rfl⟩
  obtain ⟨g, hg⟩ : ∃ g, g = w.heap.size := ⟨_, rfl⟩
  have hb0 : Below w.heap.size w W0 := by rw [hW0]; exact (Below.refl _ _).alloc (Nat.le_refl _) _
  have HS0 := Sh.mk (show RQ w W0 g A B cA cB nA nB la lb pt from ⟨hb0, by rw [hW0, hg]; exact blk_new _ _, Kd.C_below hA hb0, Kd.C_below hB hb0⟩)
  have HZ := Sh.mk (show W0.heap.size = g + 1 by rw [hW0, hg]; simp)
  have HW := Sh.mk hW0
  have HG := Sh.mk hg
  clear hE hA hB hW0 hg hb0
  go_enter Tryd.func4, Tryd.ntmps4
  go_wp2_with fail
  rw [← HW.out, ← HG.out]
  clear HW
  obtain ⟨z0, z1, z2⟩ := HS0.out.cells
  go_wp2_with fail
  refine (own_any A cA nA la W0 HS0.out.a hcA (by omega)).mono ?_
  rintro e w1 ⟨va, rfl, hR, hb⟩
  have HR1 := Sh.mk (Kd.R_lower hR (show g + 1 ≤ W0.heap.size by rw [HZ.out]; exact Nat.le_refl _))
  have HB1 := Sh.mk hb
  clear hR hb z0 z1 z2
  go_wp2_with fail
  refine (behind_any w1).mono ?_
  rintro e w2 ⟨rfl, hb⟩
  have HR2 := Sh.mk (Kd.R_below HR1.out hb)
  have HB2 := Sh.mk (below_of HB1.out hb)
  have hz2 : g + 1 ≤ w2.heap.size := by have := HB2.out.size; rw [HZ.out] at this; exact this
  have hlal : la.length ≤ 8388608 := by rw [HLA.out]; omega
  have HBz := Sh.mk (show Below (g + 1) W0 w2 by have := HB2.out; rw [HZ.out] at this; exact this)
  clear hb HR1 HB1 HB2
  go_wp2_with (first | ((with_reducible refine gate_builtin (b := .append) (xs := #[.tmp 11, .tmp 13]) rfl ?_); refine app_rg (w0 := W0) (.tmp 11) (.tmp 13) va la (77, 7) rfl rfl rfl _ rfl rfl HR2.out HBz.out hz2 hlal ?_; clear hz2 hlal; intro va1 w3 ho hb3 _; have HR3 := Sh.mk ho; have HB3 := Sh.mk hb3; have HS3 := Sh.mk (HS0.out.below (show Below W0.heap.size W0 w3 by rw [HZ.out]; exact HB3.out)); obtain ⟨z0, z1, z2⟩ := HS3.out.cells; clear ho hb3 HR2 HBz HS0))
  refine (own_any B cB nB lb w3 HS3.out.b hcB (by omega)).mono ?_
  rintro e w4 ⟨vb, rfl, hR, hb⟩
  have HQ4 := Sh.mk hR
  have HB4 := Sh.mk hb
  clear hR hb z0 z1 z2
  go_wp2_with fail
  refine (behind_any w4).mono ?_
  rintro e w5 ⟨rfl, hb⟩
  have HQ5 := Sh.mk (Kd.R_below HQ4.out hb)
  have HB5 := Sh.mk (below_of HB4.out hb)
  have hz5 : w3.heap.size ≤ w5.heap.size := HB5.out.size
  have hlbl : lb.length ≤ 8388608 := by rw [HLB.out]; omega
  have hz3 : g + 1 ≤ w3.heap.size := by have := HB3.out.size; rw [HZ.out] at this; exact this
  clear hb HQ4 HB4
  obtain ⟨ga, ca, rfl, hga1, hga2, -⟩ := Kd.R_form HR3.out (by simp)
  have hla1 : (la ++ [(77, 7)]).length = nA + 1 := by simp [HLA.out]
  rw [hla1] at HR3 ⊢
  clear hla1
  go_wp2_with (first | ((with_reducible refine gate_builtin (b := .append) (xs := #[.tmp 17, .tmp 19]) rfl ?_); refine app_rg (w0 := w3) (.tmp 17) (.tmp 19) vb lb (77, 7) rfl rfl rfl _ rfl rfl HQ5.out HB5.out hz5 hlbl ?_; clear hz5 hlbl; intro vb1 w6 ho hb6 _; have HQ6 := Sh.mk ho; have HB6 := Sh.mk hb6; have HR6 := Sh.mk (Kd.R_below HR3.out hb6); have HS6 := Sh.mk (HS3.out.below hb6); obtain ⟨z0, z1, z2⟩ := HS6.out.cells; clear ho hb6 HQ5 HB5 HR3 HS3))
  obtain ⟨gb, cb, rfl, hgb1, hgb2, -⟩ := Kd.R_form HQ6.out (by simp)
  have hlb1 : (lb ++ [(77, 7)]).length = nB + 1 := by simp [HLB.out]
  rw [hlb1] at HQ6 ⊢
  clear hlb1
  have HN := Sh.mk (show AN w w6 g A B cA cB nA nB la lb pt ga gb ca cb (la ++ [(77, 7)]) (lb ++ [(77, 7)]) from ⟨HS6.out, HR6.out, Kd.R_lower HQ6.out hz3, by omega, by rw [HG.out]; exact Nat.le_refl _⟩)
  have hra := HN.out.rowA.2
  have hrb := HN.out.rowB.2
  have q1 : (0 : Int) ≤ (nA : Int) := by omega
  have q2 : (nA : Int) ≤ (ca : Int) := by omega
  have q3 : (0 : Int) ≤ (nB : Int) := by omega
  have q4 : (nB : Int) ≤ (cb : Int) := by omega
  have HAns := Sh.mk (show ∀ (W : World), SA w g A B cA cB nA nB la lb pt ga gb ca cb (la ++ [(77, 7)]) (lb ++ [(77, 7)]) W → Calls Tryd.prog 17 #[.slice (some ⟨ga, 0, none⟩) nA ca, .slice (some ⟨gb, 0, none⟩) nB cb, .int .i64 pt] W fun e w' => e = .returned (.bool true) ∧ Below W.heap.size W w' from fun W h => by
    have h1 := C_take (saa h).rowA.1 nA (by omega)
    have h2 := C_take (saa h).rowB.1 nB (by omega)
    rw [take_one la _ HLA.out] at h1
    rw [take_one lb _ HLB.out] at h2
    exact ans_any E _ _ ca cb nA nB la lb pt W (HE.out.below (saa h).rq.bel) h1 h2 (by omega) (by omega) hna hnb)
  have HKa := Sh.mk (show ∀ (W : World), SA w g A B cA cB nA nB la lb pt ga gb ca cb (la ++ [(77, 7)]) (lb ++ [(77, 7)]) W → Calls Tryd.prog 18 #[.slice (some ⟨ga, 0, none⟩) (nA + 1) ca, .slice A nA cA] W fun e w' => e = .returned (.bool true) ∧ Below W.heap.size W w' from fun W h => kept_any _ A ca cA nA la W (saa h).rowA.1 (saa h).rq.a hra hcA hna)
  have HKb := Sh.mk (show ∀ (W : World), SA w g A B cA cB nA nB la lb pt ga gb ca cb (la ++ [(77, 7)]) (lb ++ [(77, 7)]) W → Calls Tryd.prog 18 #[.slice (some ⟨gb, 0, none⟩) (nB + 1) cb, .slice B nB cB] W fun e w' => e = .returned (.bool true) ∧ Below W.heap.size W w' from fun W h => kept_any _ B cb cB nB lb W (saa h).rowB.1 (saa h).rq.b hrb hcB hnb)
  clear HQ6 HR6 HS6 HB6 HB3 hga1 hga2 hgb1 hgb2 hz3
  go_quiet (fail)
  go_wp2_with fail
  clear z0 z1 z2
  go_region_held3 (SA w g A B cA cB nA nB la lb pt ga gb ca cb (la ++ [(77, 7)]) (lb ++ [(77, 7)])) (first | assumption | exact SA.drew (by assumption) | exact SA.of (HN.out.below (below_drew (pw_below_drewN (Below.refl _ _) _))) | exact SA.below (by assumption) (by assumption))
    (first
      | (go_at_call 17; refine (HAns.out _ (by assumption)).mono ?_; rintro e w7 ⟨rfl, hb7⟩)
      | (go_at_call 18; (with_reducible refine (HKa.out _ (by assumption)).mono ?_); rintro e w7 ⟨rfl, hb7⟩)
      | (go_at_call 18; (with_reducible refine (HKb.out _ (by assumption)).mono ?_); rintro e w7 ⟨rfl, hb7⟩))
  have HN7 : Sh (AN w w7 g A B cA cB nA nB la lb pt ga gb ca cb (la ++ [(77, 7)]) (lb ++ [(77, 7)])) := ⟨saa (by assumption)⟩
  rw [← part_zero lowF la, ← part_zero highF lb] at HN7
  clear HAns HKa HKb HN
  go_wp2
  go_loopw [7] (fun i wr => ∃ k : Nat, k ≤ nA ∧ i = .int .i64 k ∧ Sh (AN w wr g A B cA cB nA nB la lb pt ga gb ca cb (part lowF la k) (part highF lb 0))) (fun i _ => nA - (intOf i).toNat)
  case atStart => exact ⟨0, by omega, rfl, HN7⟩
  case round =>
    obtain ⟨k, hk, rfl, HN⟩ := hrel
    by_cases hlt : k < nA
    · obtain ⟨y0, y1, -, f1⟩ := HN.out.at_a k (by omega)
      have HST := Sh.mk (HN.out.set_a HA0.out HB0.out k (by omega) (rdR la k).1)
      rw [part_rd lowF la k (by rw [HLA.out]; exact hlt)] at y0 HST
      rw [show ((rdR la k).1, (rdR la k).1) = lowF (rdR la k) from rfl, part_set lowF la k (by rw [HLA.out]; exact hlt)] at HST
      obtain ⟨rl, hrl⟩ : ∃ r, r = (rdR la k).1 := ⟨_, rfl⟩
      rw [← hrl] at y0 HST
      clear hrl HN
      go_wp2
      go_roundw
      case rel => exact ⟨k + 1, by omega, by go_num, HST⟩
      case measure => simp [intOf] <;> omega
    · obtain rfl : k = nA := by omega
      go_wp2
      go_loopw [8] (fun i wx => ∃ j : Nat, j ≤ nB ∧ i = .int .i64 j ∧ Sh (AN w wx g A B cA cB k nB la lb pt ga gb ca cb (part lowF la k) (part highF lb j))) (fun i _ => nB - (intOf i).toNat)
      case atStart => exact ⟨0, by omega, rfl, HN⟩
      case round =>
        obtain ⟨j, hj, rfl, HN⟩ := hrel
        by_cases hlt2 : j < nB
        · obtain ⟨y0, y1, f0, -⟩ := HN.out.at_b j (by omega)
          have HST := Sh.mk (HN.out.set_b HA0.out HB0.out j (by omega) (rdR lb j).2)
          rw [part_rd highF lb j (by rw [HLB.out]; exact hlt2)] at y1 HST
          rw [show ((rdR lb j).2, (rdR lb j).2) = highF (rdR lb j) from rfl, part_set highF lb j (by rw [HLB.out]; exact hlt2)] at HST
          obtain ⟨rh, hrh⟩ : ∃ r, r = (rdR lb j).2 := ⟨_, rfl⟩
          rw [← hrh] at y1 HST
          clear hrh HN
          go_wp2
          go_roundw
          case rel => exact ⟨j + 1, by omega, by go_num, HST⟩
          case measure => simp [intOf] <;> omega
        · obtain rfl : j = nB := by omega
          rw [part_all lowF la HLA.out, part_all highF lb HLB.out] at HN
          have HMA := Sh.mk (show (la.map lowF).length = k by rw [List.length_map, HLA.out])
          have HMB := Sh.mk (show (lb.map highF).length = j by rw [List.length_map, HLB.out])
          have HAns := Sh.mk (show ∀ (W : World), SA w g A B cA cB k j la lb pt ga gb ca cb (la.map lowF ++ [(77, 7)]) (lb.map highF ++ [(77, 7)]) W → Calls Tryd.prog 17 #[.slice (some ⟨ga, 0, none⟩) k ca, .slice (some ⟨gb, 0, none⟩) j cb, .int .i64 pt] W fun e w' => e = .returned (.bool true) ∧ Below W.heap.size W w' from fun W h => by
            have h1 := C_take (saa h).rowA.1 k (by omega)
            have h2 := C_take (saa h).rowB.1 j (by omega)
            rw [take_one _ _ HMA.out] at h1
            rw [take_one _ _ HMB.out] at h2
            exact ans_any E _ _ ca cb k j _ _ pt W (HE.out.below (saa h).rq.bel) h1 h2 (by omega) (by omega) hna hnb)
          go_wp2
          go_region_held3 (SA w g A B cA cB k j la lb pt ga gb ca cb (la.map lowF ++ [(77, 7)]) (lb.map highF ++ [(77, 7)])) (first | assumption | exact SA.drew (by assumption) | exact SA.of (HN.out.below (below_drew (Below.refl _ _))) | exact SA.below (by assumption) (by assumption))
            (first
              | (go_at_call 17; refine (HAns.out _ (by assumption)).mono ?_; rintro e w8 ⟨rfl, hb8⟩))
          have HN8 : Sh (AN w w8 g A B cA cB k j la lb pt ga gb ca cb (la.map lowF ++ [(77, 7)]) (lb.map highF ++ [(77, 7)])) := ⟨saa (by assumption)⟩
          go_wp2
          go_ret
          exact ⟨rfl, HN8.out.rq.bel⟩
end Go.Proofs.YthjdjgppghplgaaDoor
