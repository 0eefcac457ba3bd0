/-
caesuralaw3.begun: two ranges that touch are one; what is not in them; what is in both. Conditions: ErrArg reads as listed.
-/
import Derived.Test.YthjdjgppghplgaaDoorRgAsk
namespace Go.Proofs.YthjdjgppghplgaaDoor
open Go Go.RowKit Go.Proofs.YthjdjgppghplgaaDoorW.PrintWords Go.Proofs.YthjdjgppghplgaaDoorW.PrintLast Go.Proofs.YthjdjgppghplgaaDoorW.PrintMore
theorem neq_same (w : World) (a : Addr) : (binOp .neq 27 (.iface 95 (.pointer (some a))) (.iface 95 (.pointer (some a)))).run Tryd.prog w = .ok (.bool false) w := by
  obtain ⟨i, hi, hc⟩ := info_p
  obtain ⟨j, hj, hs⟩ := info_s
  simp only [binOp]
  simp [Op.equal, Op.maxDepth, run_equalIn_iface_ptr_same w 9998 a Tryd.underlying27 Tryd.underlying95 hi hc hj]
theorem lit1 (W : World) (a b : Int) : rgK.C (W.alloc (.cells #[.int .i64 a, .int .i64 b] RgT)) (some ⟨W.heap.size, 0, none⟩) 1 [(a, b)] := by
  refine ⟨rfl, by omega, fun _ => ⟨_, rfl, fun j p hj => ?_⟩⟩
  cases j with
  | succ j => simp at hj
  | zero =>
    obtain rfl : (a, b) = p := by simpa using hj
    refine ⟨[.int .i64 a, .int .i64 b], rfl, ⟨[.int .i64 a], [.int .i64 b], rfl, rfl, rfl⟩, fun m u hm => ?_⟩
    rw [add_plain, blk_cell (blk_new W _)]
    simpa using hm
theorem lit2 (W : World) (a b c d : Int) : rgK.C (W.alloc (.cells #[.int .i64 a, .int .i64 b, .int .i64 c, .int .i64 d] RgT)) (some ⟨W.heap.size, 0, none⟩) 2 [(a, b), (c, d)] := by
  refine ⟨rfl, by omega, fun _ => ⟨_, rfl, fun j p hj => ?_⟩⟩
  have hj2 : j = 0 ∨ j = 1 := by
    have := (List.getElem?_eq_some_iff.1 hj).1
    simp at this
    omega
  rcases hj2 with rfl | rfl
  · obtain rfl : (a, b) = p := by simpa using hj
    refine ⟨[.int .i64 a, .int .i64 b], rfl, ⟨[.int .i64 a], [.int .i64 b], rfl, rfl, rfl⟩, fun m u hm => ?_⟩
    rw [add_plain, blk_cell (blk_new W _)]
    have hm2 : m = 0 ∨ m = 1 := by
      have := (List.getElem?_eq_some_iff.1 hm).1
      simp at this
      omega
    rcases hm2 with rfl | rfl <;> simpa using hm
  · obtain rfl : (c, d) = p := by simpa using hj
    refine ⟨[.int .i64 c, .int .i64 d], rfl, ⟨[.int .i64 c], [.int .i64 d], rfl, rfl, rfl⟩, fun m u hm => ?_⟩
    rw [add_plain, blk_cell (blk_new W _)]
    have hm2 : m = 0 ∨ m = 1 := by
      have := (List.getElem?_eq_some_iff.1 hm).1
      simp at this
      omega
    rw [show rgK.sz = 2 from rfl]
    rcases hm2 with rfl | rfl <;> simpa using hm
theorem is_a : Is (inL [(69, 80), (65, 68)]) [(65, 80)] := by
  refine ⟨⟨by omega, by omega, by omega, trivial⟩, fun p => ?_⟩
  rw [Bool.eq_iff_iff]
  simp [inL]
  omega
theorem is_b : Is (fun p => inL [(65, 80)] p && inL [(69, 96)] p) [(69, 80)] := by
  refine ⟨⟨by omega, by omega, by omega, trivial⟩, fun p => ?_⟩
  rw [Bool.eq_iff_iff]
  simp [inL]
  omega
theorem is_c : Is (fun p => !inL [(1, 1114111)] p) [(0, 0)] := by
  refine ⟨⟨by omega, by omega, by omega, trivial⟩, fun p => ?_⟩
  rw [Bool.eq_iff_iff]
  simp [inL]
  omega
theorem is_d : Is (inL [(3, 9), (8, 12)]) [(3, 12)] := by
  refine ⟨⟨by omega, by omega, by omega, trivial⟩, fun p => ?_⟩
  rw [Bool.eq_iff_iff]
  simp [inL]
  omega
theorem Is.same {q : Int → Bool} {l m : List Rg} (h : Is q l) (h' : Is q m) : l = m := h.uniq h' (fun _ _ _ => rfl)
theorem may_a : mayL [(69, 80), (65, 68)] = true := by decide
theorem may_b : (mayL [(65, 80)] && mayL [(69, 96)]) = true := by decide
theorem may_c : mayL [(1, 1114111)] = true := by simp [mayL, okR]
theorem may_d : mayL [(3, 9), (8, 12)] = true := by decide
theorem may_e : mayL [(5, 4)] = false := by decide
theorem drawn_below {w w' : World} (h : Drawn0 w w') : Below w.heap.size w w' := h.below
set_option maxHeartbeats 16000000 in
set_option maxRecDepth 100000 in
theorem begun_any (E : Nat → Addr) (w : World) (hE : GS [1] E w) : Calls Tryd.prog 8 #[] w fun e w' => e = .returned (.bool true) ∧ Below w.heap.size w w' := by
  have HE := Sh.mk hE
  clear hE
  go_enter Tryd.func8, Tryd.ntmps8
  go_wp2_with fail
  have hc := normal_any E (some ⟨w.heap.size, 0, none⟩) 2 2 _ _ (HE.out.below (below_alloc (Below.refl _ _) _)) (lit2 w 69 80 65 68) (by omega) (by omega)
  rw [may_a] at hc
  refine hc.mono ?_
  clear hc
  rintro e w1 ⟨v, out, rfl, hI, hR, hb⟩
  obtain rfl := is_a.same hI
  obtain ⟨A1, c1, rfl, hc1, hC1⟩ := R_open hR 1 rfl
  have HC1 := Sh.mk hC1
  have HB1 := Sh.mk (below_of (below_alloc (Below.refl _ _) _) hb)
  clear hI hR hb hC1
  go_wp2_with fail
  have hc := inter_any E (some ⟨w1.heap.size, 0, none⟩) (some ⟨w1.heap.size + 1, 0, none⟩) 1 1 1 1 [(65, 80)] [(69, 96)] ((w1.alloc (.cells #[.int .i64 65, .int .i64 80] RgT)).alloc (.cells #[.int .i64 69, .int .i64 96] RgT)) (HE.out.below (below_of HB1.out (below_alloc (below_alloc (Below.refl _ _) _) _))) (Kd.C_alloc (lit1 w1 65 80) _) (by omega) (by omega) (by simpa using lit1 (w1.alloc (.cells #[.int .i64 65, .int .i64 80] RgT)) 69 96) (by omega) (by omega)
  rw [may_b] at hc
  refine hc.mono ?_
  clear hc
  rintro e w2 ⟨v, out, rfl, hI, hR, hb⟩
  obtain rfl := is_b.same hI
  obtain ⟨A2, c2, rfl, hc2, hC2⟩ := R_open hR 1 rfl
  have hb2 := below_of (below_alloc (below_alloc (Below.refl w1.heap.size w1) _) _) hb
  have HC2 := Sh.mk hC2
  have HC12 := Sh.mk (Kd.C_below HC1.out hb2)
  have HB2 := Sh.mk (below_of HB1.out hb2)
  clear hI hR hb hC2 hb2 HC1 HB1
  go_wp2_with fail
  have hc := not_any E (some ⟨w2.heap.size, 0, none⟩) 1 1 _ _ (HE.out.below (below_of HB2.out (below_alloc (Below.refl _ _) _))) (lit1 w2 1 1114111) (by omega) (by omega)
  rw [may_c] at hc
  refine hc.mono ?_
  clear hc
  rintro e w3 ⟨v, out, rfl, hI, hR, hb⟩
  obtain rfl := is_c.same hI
  obtain ⟨A3, c3, rfl, hc3, hC3⟩ := R_open hR 1 rfl
  have hb2 := below_of (below_alloc (Below.refl w2.heap.size w2) _) hb
  have HC3 := Sh.mk hC3
  have HC13 := Sh.mk (Kd.C_below HC12.out hb2)
  have HC23 := Sh.mk (Kd.C_below HC2.out hb2)
  have HB3 := Sh.mk (below_of HB2.out hb2)
  clear hI hR hb hC3 hb2 HC12 HC2 HB2
  go_wp2_with fail
  have hc := count_any E (some ⟨w3.heap.size, 0, none⟩) 2 2 _ _ (HE.out.below (below_of HB3.out (below_alloc (Below.refl _ _) _))) (lit2 w3 3 9 8 12) (by omega) (by omega)
  rw [may_d] at hc
  refine hc.mono ?_
  clear hc
  rintro e w4 ⟨out, hI, rfl, hb⟩
  obtain rfl := is_d.same hI
  have hb2 := below_of (below_alloc (Below.refl w3.heap.size w3) _) hb
  have HC14 := Sh.mk (Kd.C_below HC13.out hb2)
  have HC24 := Sh.mk (Kd.C_below HC23.out hb2)
  have HC34 := Sh.mk (Kd.C_below HC3.out hb2)
  have HB4 := Sh.mk (below_of HB3.out hb2)
  clear hI hb hb2 HC13 HC23 HC3 HB3
  rw [show szL [(3, 12)] = 10 from rfl]
  go_wp2_with fail
  have hc := normal_any E (some ⟨w4.heap.size, 0, none⟩) 1 1 _ _ (HE.out.below (below_of HB4.out (below_alloc (Below.refl _ _) _))) (lit1 w4 5 4) (by omega) (by omega)
  rw [may_e] at hc
  refine hc.mono ?_
  clear hc
  rintro e w5 ⟨rfl, hb⟩
  have hb2 := below_of (below_alloc (Below.refl w4.heap.size w4) _) hb
  have HC15 := Sh.mk (Kd.C_below HC14.out hb2)
  have HC25 := Sh.mk (Kd.C_below HC24.out hb2)
  have HC35 := Sh.mk (Kd.C_below HC34.out hb2)
  have HB5 := Sh.mk (below_of HB4.out hb2)
  have cE := ((HE.out.below HB5.out).s 1 (by decide)).cell
  simp only [errG] at cE
  have nE := neq_same w5 (E 1)
  clear hb hb2 HC14 HC24 HC34 HB4
  go_wp2_with fail
  clear cE nE
  refine (has_any A1 c1 1 [(65, 80)] 68 w5 HC15.out (by omega)).mono ?_
  rintro e w6 ⟨rfl, hb⟩
  rw [show inL [(65, 80)] 68 = true from rfl]
  have HC16 := Sh.mk (Kd.C_below HC15.out hb)
  have HC26 := Sh.mk (Kd.C_below HC25.out hb)
  have HC36 := Sh.mk (Kd.C_below HC35.out hb)
  have HB6 := Sh.mk (below_of HB5.out hb)
  clear hb HC15 HC25 HC35 HB5
  go_wp2_with fail
  refine (has_any A1 c1 1 [(65, 80)] 81 w6 HC16.out (by omega)).mono ?_
  rintro e w7 ⟨rfl, hb⟩
  rw [show inL [(65, 80)] 81 = false from rfl]
  have HC17 := Sh.mk (Kd.C_below HC16.out hb)
  have HC27 := Sh.mk (Kd.C_below HC26.out hb)
  have HC37 := Sh.mk (Kd.C_below HC36.out hb)
  have HB7 := Sh.mk (below_of HB6.out hb)
  clear hb HC16 HC26 HC36 HB6
  go_wp2_with fail
  refine (same_any A1 (some ⟨w7.heap.size, 0, none⟩) c1 1 1 1 _ _ _ (Kd.C_alloc HC17.out _) (lit1 w7 65 80) hc1 (by omega) (by omega)).mono ?_
  rintro e w8 ⟨rfl, hd⟩
  rw [show decide ([((65 : Int), (80 : Int))] = [(65, 80)]) = true from by simp]
  have hb := below_of (below_alloc (Below.refl w7.heap.size w7) _) hd.below
  have HC28 := Sh.mk (Kd.C_below HC27.out hb)
  have HC38 := Sh.mk (Kd.C_below HC37.out hb)
  have HB8 := Sh.mk (below_of HB7.out hb)
  clear hb hd HC17 HC27 HC37 HB7
  go_wp2_with fail
  refine (same_any A2 (some ⟨w8.heap.size, 0, none⟩) c2 1 1 1 _ _ _ (Kd.C_alloc HC28.out _) (lit1 w8 69 80) hc2 (by omega) (by omega)).mono ?_
  rintro e w9 ⟨rfl, hd⟩
  rw [show decide ([((69 : Int), (80 : Int))] = [(69, 80)]) = true from by simp]
  have hb := below_of (below_alloc (Below.refl w8.heap.size w8) _) hd.below
  have HC39 := Sh.mk (Kd.C_below HC38.out hb)
  have HB9 := Sh.mk (below_of HB8.out hb)
  clear hb hd HC28 HC38 HB8
  go_wp2_with fail
  refine (same_any A3 (some ⟨w9.heap.size, 0, none⟩) c3 1 1 1 _ _ _ (Kd.C_alloc HC39.out _) (lit1 w9 0 0) hc3 (by omega) (by omega)).mono ?_
  rintro e w10 ⟨rfl, hd⟩
  rw [show decide ([((0 : Int), (0 : Int))] = [(0, 0)]) = true from by simp]
  have HB10 := Sh.mk (below_of HB9.out (below_of (below_alloc (Below.refl w9.heap.size w9) _) hd.below))
  clear hd HC39 HB9
  go_wp2
  go_ret
  exact ⟨rfl, HB10.out⟩
end Go.Proofs.YthjdjgppghplgaaDoor
