/-
caesurakit.Pick and the law UnitsSteps, walked. Conditions: the text's size; the table reads as listed.
-/
import Derived.Test.YtfiahgahphammaaDoorStepsP
namespace Go.Proofs.YtfiahgahphammaaDoor
open Go Go.RowKit Go.Proofs.YtfiahgahphammaaDoorW.PrintWords Go.Proofs.YtfiahgahphammaaDoorW.PrintLast Go.Proofs.YtfiahgahphammaaDoorW.PrintMore
attribute [local go_sem high] eqU
theorem emod_tmod (k n : Int) (h : 0 < n) : k % n = if Int.tmod k n < 0 then Int.tmod k n + n else Int.tmod k n := by
  have h1 := Int.tmod_eq_emod (a := k) (b := n)
  rw [h1]
  have := Int.emod_nonneg k (by omega : n ≠ 0)
  have := Int.emod_lt_of_pos k h
  have hna : (n.natAbs : Int) = n := Int.natAbs_of_nonneg (by omega)
  split <;> split <;> omega
set_option maxRecDepth 100000 in
theorem pick_any (k : Int) (n : Nat) (w : World) (hn : 1 ≤ n) (hn2 : n ≤ 4611686018427387904) :
    Calls Tryd.prog 23 #[.int .i64 k, .int .i64 n] w fun e w' => e = .returned (.int .i64 (k % n)) ∧ w = w' := by
  have l0 : decide (n < 1) = false := by simp; omega
  have l0' : decide ((n : Int) < 1) = false := by simp; omega
  have l1 : ((n : Int) == 0) = false := by simp; omega
  have l1' : (n == 0) = false := by simp; omega
  have hE := emod_tmod k n (by omega)
  have hb0 := Int.emod_nonneg k (by omega : (n : Int) ≠ 0)
  have hb1 := Int.emod_lt_of_pos k (show 0 < (n : Int) by omega)
  have HE := Sh.mk hE
  by_cases hneg : Int.tmod k n < 0
  · rw [if_pos hneg] at hE
    have l2 : decide (Int.tmod k n < 0) = true := by simpa using hneg
    have hr1 : -4611686018427387904 ≤ Int.tmod k n := by omega
    have hr2 : Int.tmod k n ≤ 4611686018427387904 := by omega
    have HE := Sh.mk hE
    clear hE hb0 hb1
    go_enter Tryd.func23, Tryd.ntmps23
    go_wp2
    go_ret
    exact ⟨by rw [HE.out]; rfl, rfl⟩
  · rw [if_neg hneg] at hE
    have l2 : decide (Int.tmod k n < 0) = false := by simpa using hneg
    have HE := Sh.mk hE
    have hr1 : 0 ≤ Int.tmod k n := by omega
    have hr2 : Int.tmod k n ≤ 4611686018427387904 := by omega
    clear hE hb0 hb1
    go_enter Tryd.func23, Tryd.ntmps23
    go_wp2
    go_ret
    exact ⟨by rw [HE.out]; rfl, rfl⟩
set_option maxRecDepth 100000 in
set_option maxHeartbeats 8000000 in
theorem steps_any (s : ByteArray) (a0 : Int) (far : Bool) (w : World) (hf : FormsAt w) (hs : s.size ≤ 5000000000000) :
    Calls Tryd.prog 7 #[.agg #[.string s, .int .i64 a0, .bool far]] w fun e w' => e = .returned (.bool true) ∧ Below w.heap.size w w' := by
  have HF := Sh.mk hf
  clear hf
  obtain ⟨W0, hW0⟩ : ∃ W0, W0 = w.alloc (.cells #[.string s, .int .i64 a0, .bool far] 41) := ⟨_, rfl⟩
  obtain ⟨gS, hg⟩ : ∃ g, g = w.heap.size := ⟨_, rfl⟩
  have HG := Sh.mk hg
  have HBW0 := Sh.mk (show Below w.heap.size w W0 by rw [hW0]; exact (Below.refl _ _).alloc (Nat.le_refl _) _)
  have HXW0 := Sh.mk (show W0.heap[gS]? = some (.cells #[.string s, .int .i64 a0, .bool far] 41 (0, 0)) by rw [hW0, hg]; exact blk_new _ _)
  have HW := Sh.mk hW0
  clear hW0 hg
  cases far with
  | true =>
    have x0 : True := trivial
    go_enter Tryd.func7, Tryd.ntmps7
    go_wp2_with fail
    rw [← HW.out]
    rw [← HG.out]
    have HAB := Sh.mk (next_eq s a0)
    have HCD := Sh.mk (prev_eq s a0)
    refine (next_any s a0 W0 (HF.out.below HBW0.out) (by omega)).mono ?_
    rintro e V1 ⟨rfl, hb⟩
    have HXV1 := Sh.mk (blk_below HXW0.out hb)
    have HBV1 := Sh.mk (below_of HBW0.out hb)
    clear hb HBW0 HXW0 x0 
    obtain ⟨W1, hW1⟩ : ∃ W1, W1 = V1.alloc (.cells #[.int .i64 (oU (nextR s a0)).1, .int .i64 (oU (nextR s a0)).2.1, .int .i64 (oU (nextR s a0)).2.2] 39) := ⟨_, rfl⟩
    obtain ⟨g4, hgg4⟩ : ∃ g4, g4 = V1.heap.size := ⟨_, rfl⟩
    have HW1 := Sh.mk hW1
    have HGg4 := Sh.mk hgg4
    have HXW1 := Sh.mk (show W1.heap[gS]? = some (.cells #[.string s, .int .i64 a0, .bool true] 41 (0, 0)) by rw [hW1]; exact blk_alloc HXV1.out _)
    have HBW1 := Sh.mk (show Below w.heap.size w W1 by rw [hW1]; exact HBV1.out.alloc HBV1.out.size _)
    have Hg4 := Sh.mk (show W1.heap[g4]? = some (.cells #[.int .i64 (oU (nextR s a0)).1, .int .i64 (oU (nextR s a0)).2.1, .int .i64 (oU (nextR s a0)).2.2] 39 (0, 0)) by rw [hW1, hgg4]; exact blk_new _ _)
    have x0 := blk_cell HXV1.out 0
    simp only [List.getElem?_toArray, List.getElem?_cons_zero] at x0
    have hlt := blk_lt HXV1.out
    clear hW1 hgg4 
    go_wp2_with fail
    rw [← HW1.out]
    rw [← HGg4.out]
    clear x0 hlt HXV1 HBV1
    have x0 := blk_cell HXW1.out 0
    simp only [List.getElem?_toArray, List.getElem?_cons_zero] at x0
    refine (refNext_any s a0 W1 hs).mono ?_
    rintro e V2 ⟨rfl, hb⟩
    rw [HAB.out]
    have HXV2 := Sh.mk (blk_below HXW1.out hb)
    have HBV2 := Sh.mk (below_of HBW1.out hb)
    have Hg4p := Sh.mk (blk_below Hg4.out hb)
    clear hb HBW1 HXW1 x0 Hg4
    obtain ⟨W2, hW2⟩ : ∃ W2, W2 = V2.alloc (.cells #[.int .i64 (oU (nextR s a0)).1, .int .i64 (oU (nextR s a0)).2.1, .int .i64 (oU (nextR s a0)).2.2] 39) := ⟨_, rfl⟩
    obtain ⟨g6, hgg6⟩ : ∃ g6, g6 = V2.heap.size := ⟨_, rfl⟩
    have HW2 := Sh.mk hW2
    have HGg6 := Sh.mk hgg6
    have HXW2 := Sh.mk (show W2.heap[gS]? = some (.cells #[.string s, .int .i64 a0, .bool true] 41 (0, 0)) by rw [hW2]; exact blk_alloc HXV2.out _)
    have HBW2 := Sh.mk (show Below w.heap.size w W2 by rw [hW2]; exact HBV2.out.alloc HBV2.out.size _)
    have Hg4 := Sh.mk (show W2.heap[g4]? = some (.cells #[.int .i64 (oU (nextR s a0)).1, .int .i64 (oU (nextR s a0)).2.1, .int .i64 (oU (nextR s a0)).2.2] 39 (0, 0)) by rw [hW2]; exact blk_alloc Hg4p.out _)
    have Hg6 := Sh.mk (show W2.heap[g6]? = some (.cells #[.int .i64 (oU (nextR s a0)).1, .int .i64 (oU (nextR s a0)).2.1, .int .i64 (oU (nextR s a0)).2.2] 39 (0, 0)) by rw [hW2, hgg6]; exact blk_new _ _)
    have x0 := blk_cell HXV2.out 0
    simp only [List.getElem?_toArray, List.getElem?_cons_zero] at x0
    have hlt := blk_lt HXV2.out
    clear hW2 hgg6 Hg4p
    go_wp2_with fail
    rw [← HW2.out]
    rw [← HGg6.out]
    clear x0 hlt HXV2 HBV2
    have x0 := blk_cell HXW2.out 0
    simp only [List.getElem?_toArray, List.getElem?_cons_zero] at x0
    refine (prev_any s a0 W2 (HF.out.below HBW2.out) (by omega)).mono ?_
    rintro e V3 ⟨rfl, hb⟩
    have HXV3 := Sh.mk (blk_below HXW2.out hb)
    have HBV3 := Sh.mk (below_of HBW2.out hb)
    have Hg4p := Sh.mk (blk_below Hg4.out hb)
    have Hg6p := Sh.mk (blk_below Hg6.out hb)
    clear hb HBW2 HXW2 x0 Hg4 Hg6
    obtain ⟨W3, hW3⟩ : ∃ W3, W3 = V3.alloc (.cells #[.int .i64 (oU (prevR s a0)).1, .int .i64 (oU (prevR s a0)).2.1, .int .i64 (oU (prevR s a0)).2.2] 39) := ⟨_, rfl⟩
    obtain ⟨g8, hgg8⟩ : ∃ g8, g8 = V3.heap.size := ⟨_, rfl⟩
    have HW3 := Sh.mk hW3
    have HGg8 := Sh.mk hgg8
    have HXW3 := Sh.mk (show W3.heap[gS]? = some (.cells #[.string s, .int .i64 a0, .bool true] 41 (0, 0)) by rw [hW3]; exact blk_alloc HXV3.out _)
    have HBW3 := Sh.mk (show Below w.heap.size w W3 by rw [hW3]; exact HBV3.out.alloc HBV3.out.size _)
    have Hg4 := Sh.mk (show W3.heap[g4]? = some (.cells #[.int .i64 (oU (nextR s a0)).1, .int .i64 (oU (nextR s a0)).2.1, .int .i64 (oU (nextR s a0)).2.2] 39 (0, 0)) by rw [hW3]; exact blk_alloc Hg4p.out _)
    have Hg6 := Sh.mk (show W3.heap[g6]? = some (.cells #[.int .i64 (oU (nextR s a0)).1, .int .i64 (oU (nextR s a0)).2.1, .int .i64 (oU (nextR s a0)).2.2] 39 (0, 0)) by rw [hW3]; exact blk_alloc Hg6p.out _)
    have Hg8 := Sh.mk (show W3.heap[g8]? = some (.cells #[.int .i64 (oU (prevR s a0)).1, .int .i64 (oU (prevR s a0)).2.1, .int .i64 (oU (prevR s a0)).2.2] 39 (0, 0)) by rw [hW3, hgg8]; exact blk_new _ _)
    have x0 := blk_cell HXV3.out 0
    simp only [List.getElem?_toArray, List.getElem?_cons_zero] at x0
    have hlt := blk_lt HXV3.out
    clear hW3 hgg8 Hg4p Hg6p
    go_wp2_with fail
    rw [← HW3.out]
    rw [← HGg8.out]
    clear x0 hlt HXV3 HBV3
    have x0 := blk_cell HXW3.out 0
    simp only [List.getElem?_toArray, List.getElem?_cons_zero] at x0
    refine (refPrev_any s a0 W3 hs).mono ?_
    rintro e V4 ⟨rfl, hb⟩
    rw [HCD.out]
    have HXV4 := Sh.mk (blk_below HXW3.out hb)
    have HBV4 := Sh.mk (below_of HBW3.out hb)
    have Hg4p := Sh.mk (blk_below Hg4.out hb)
    have Hg6p := Sh.mk (blk_below Hg6.out hb)
    have Hg8p := Sh.mk (blk_below Hg8.out hb)
    clear hb HBW3 HXW3 x0 Hg4 Hg6 Hg8
    have yg40 := blk_cell Hg4p.out 0
    have yg41 := blk_cell Hg4p.out 1
    have yg42 := blk_cell Hg4p.out 2
    have lg4 := blk_lt Hg4p.out
    simp only [List.getElem?_toArray, List.getElem?_cons_zero, List.getElem?_cons_succ] at yg40 yg41 yg42
    have yg60 := blk_cell Hg6p.out 0
    have yg61 := blk_cell Hg6p.out 1
    have yg62 := blk_cell Hg6p.out 2
    have lg6 := blk_lt Hg6p.out
    simp only [List.getElem?_toArray, List.getElem?_cons_zero, List.getElem?_cons_succ] at yg60 yg61 yg62
    have yg80 := blk_cell Hg8p.out 0
    have yg81 := blk_cell Hg8p.out 1
    have yg82 := blk_cell Hg8p.out 2
    have lg8 := blk_lt Hg8p.out
    simp only [List.getElem?_toArray, List.getElem?_cons_zero, List.getElem?_cons_succ] at yg80 yg81 yg82
    have HBe : Sh (∀ o, Below w.heap.size w (V4.alloc o)) := ⟨fun o => HBV4.out.alloc HBV4.out.size o⟩
    obtain ⟨p0, hp0⟩ : ∃ p, p = oU (nextR s a0) := ⟨_, rfl⟩
    obtain ⟨p1, hp1⟩ : ∃ p, p = oU (prevR s a0) := ⟨_, rfl⟩
    obtain ⟨d0, hd0⟩ : ∃ d, d = (nextR s a0).isSome := ⟨_, rfl⟩
    obtain ⟨d1, hd1⟩ : ∃ d, d = (prevR s a0).isSome := ⟨_, rfl⟩
    simp only [uVal, ← hp0, ← hp1, ← hd0, ← hd1] at *
    clear hp0 hp1 hd0 hd1
    have z0 : (d0 == d0) = true := by simp
    have z1 : (d1 == d1) = true := by simp
    have zp01 : (p0.1 == p0.1) = true := by simp
    have zp021 : (p0.2.1 == p0.2.1) = true := by simp
    have zp022 : (p0.2.2 == p0.2.2) = true := by simp
    have zp11 : (p1.1 == p1.1) = true := by simp
    have zp121 : (p1.2.1 == p1.2.1) = true := by simp
    have zp122 : (p1.2.2 == p1.2.2) = true := by simp
    go_wp2
    go_ret
    exact ⟨rfl, HBe.out _⟩
  | false =>
    have x0 : True := trivial
    go_enter Tryd.func7, Tryd.ntmps7
    go_wp2_with fail
    rw [← HW.out]
    rw [← HG.out]
    have e3 : (s.size : Int) + 3 = ((s.size + 3 : Nat) : Int) := by omega
    rw [e3]
    refine (pick_any a0 (s.size + 3) W0 (by omega) (by omega)).mono ?_
    rintro e w1 ⟨rfl, rfl⟩
    clear e3
    obtain ⟨p, hp⟩ : ∃ p, p = a0 % ((s.size + 3 : Nat) : Int) := ⟨_, rfl⟩
    have hpb : 0 ≤ p ∧ p ≤ 5000000000003 := by
      have h1 := Int.emod_nonneg a0 (by omega : ((s.size + 3 : Nat) : Int) ≠ 0)
      have h2 := Int.emod_lt_of_pos a0 (show 0 < ((s.size + 3 : Nat) : Int) by omega)
      omega
    rw [← hp]
    clear hp x0
    have x0 := blk_cell HXW0.out 0
    simp only [List.getElem?_toArray, List.getElem?_cons_zero] at x0
    go_wp2_with fail
    obtain ⟨at1, hat⟩ : ∃ at1, at1 = p - 1 := ⟨_, rfl⟩
    rw [← hat]
    clear hat hpb
    have HAB := Sh.mk (next_eq s at1)
    have HCD := Sh.mk (prev_eq s at1)
    refine (next_any s at1 W0 (HF.out.below HBW0.out) (by omega)).mono ?_
    rintro e V1 ⟨rfl, hb⟩
    have HXV1 := Sh.mk (blk_below HXW0.out hb)
    have HBV1 := Sh.mk (below_of HBW0.out hb)
    clear hb HBW0 HXW0 x0 
    obtain ⟨W1, hW1⟩ : ∃ W1, W1 = V1.alloc (.cells #[.int .i64 (oU (nextR s at1)).1, .int .i64 (oU (nextR s at1)).2.1, .int .i64 (oU (nextR s at1)).2.2] 39) := ⟨_, rfl⟩
    obtain ⟨g4, hgg4⟩ : ∃ g4, g4 = V1.heap.size := ⟨_, rfl⟩
    have HW1 := Sh.mk hW1
    have HGg4 := Sh.mk hgg4
    have HXW1 := Sh.mk (show W1.heap[gS]? = some (.cells #[.string s, .int .i64 a0, .bool false] 41 (0, 0)) by rw [hW1]; exact blk_alloc HXV1.out _)
    have HBW1 := Sh.mk (show Below w.heap.size w W1 by rw [hW1]; exact HBV1.out.alloc HBV1.out.size _)
    have Hg4 := Sh.mk (show W1.heap[g4]? = some (.cells #[.int .i64 (oU (nextR s at1)).1, .int .i64 (oU (nextR s at1)).2.1, .int .i64 (oU (nextR s at1)).2.2] 39 (0, 0)) by rw [hW1, hgg4]; exact blk_new _ _)
    have x0 := blk_cell HXV1.out 0
    simp only [List.getElem?_toArray, List.getElem?_cons_zero] at x0
    have hlt := blk_lt HXV1.out
    clear hW1 hgg4 
    go_wp2_with fail
    rw [← HW1.out]
    rw [← HGg4.out]
    clear x0 hlt HXV1 HBV1
    have x0 := blk_cell HXW1.out 0
    simp only [List.getElem?_toArray, List.getElem?_cons_zero] at x0
    refine (refNext_any s at1 W1 hs).mono ?_
    rintro e V2 ⟨rfl, hb⟩
    rw [HAB.out]
    have HXV2 := Sh.mk (blk_below HXW1.out hb)
    have HBV2 := Sh.mk (below_of HBW1.out hb)
    have Hg4p := Sh.mk (blk_below Hg4.out hb)
    clear hb HBW1 HXW1 x0 Hg4
    obtain ⟨W2, hW2⟩ : ∃ W2, W2 = V2.alloc (.cells #[.int .i64 (oU (nextR s at1)).1, .int .i64 (oU (nextR s at1)).2.1, .int .i64 (oU (nextR s at1)).2.2] 39) := ⟨_, rfl⟩
    obtain ⟨g6, hgg6⟩ : ∃ g6, g6 = V2.heap.size := ⟨_, rfl⟩
    have HW2 := Sh.mk hW2
    have HGg6 := Sh.mk hgg6
    have HXW2 := Sh.mk (show W2.heap[gS]? = some (.cells #[.string s, .int .i64 a0, .bool false] 41 (0, 0)) by rw [hW2]; exact blk_alloc HXV2.out _)
    have HBW2 := Sh.mk (show Below w.heap.size w W2 by rw [hW2]; exact HBV2.out.alloc HBV2.out.size _)
    have Hg4 := Sh.mk (show W2.heap[g4]? = some (.cells #[.int .i64 (oU (nextR s at1)).1, .int .i64 (oU (nextR s at1)).2.1, .int .i64 (oU (nextR s at1)).2.2] 39 (0, 0)) by rw [hW2]; exact blk_alloc Hg4p.out _)
    have Hg6 := Sh.mk (show W2.heap[g6]? = some (.cells #[.int .i64 (oU (nextR s at1)).1, .int .i64 (oU (nextR s at1)).2.1, .int .i64 (oU (nextR s at1)).2.2] 39 (0, 0)) by rw [hW2, hgg6]; exact blk_new _ _)
    have x0 := blk_cell HXV2.out 0
    simp only [List.getElem?_toArray, List.getElem?_cons_zero] at x0
    have hlt := blk_lt HXV2.out
    clear hW2 hgg6 Hg4p
    go_wp2_with fail
    rw [← HW2.out]
    rw [← HGg6.out]
    clear x0 hlt HXV2 HBV2
    have x0 := blk_cell HXW2.out 0
    simp only [List.getElem?_toArray, List.getElem?_cons_zero] at x0
    refine (prev_any s at1 W2 (HF.out.below HBW2.out) (by omega)).mono ?_
    rintro e V3 ⟨rfl, hb⟩
    have HXV3 := Sh.mk (blk_below HXW2.out hb)
    have HBV3 := Sh.mk (below_of HBW2.out hb)
    have Hg4p := Sh.mk (blk_below Hg4.out hb)
    have Hg6p := Sh.mk (blk_below Hg6.out hb)
    clear hb HBW2 HXW2 x0 Hg4 Hg6
    obtain ⟨W3, hW3⟩ : ∃ W3, W3 = V3.alloc (.cells #[.int .i64 (oU (prevR s at1)).1, .int .i64 (oU (prevR s at1)).2.1, .int .i64 (oU (prevR s at1)).2.2] 39) := ⟨_, rfl⟩
    obtain ⟨g8, hgg8⟩ : ∃ g8, g8 = V3.heap.size := ⟨_, rfl⟩
    have HW3 := Sh.mk hW3
    have HGg8 := Sh.mk hgg8
    have HXW3 := Sh.mk (show W3.heap[gS]? = some (.cells #[.string s, .int .i64 a0, .bool false] 41 (0, 0)) by rw [hW3]; exact blk_alloc HXV3.out _)
    have HBW3 := Sh.mk (show Below w.heap.size w W3 by rw [hW3]; exact HBV3.out.alloc HBV3.out.size _)
    have Hg4 := Sh.mk (show W3.heap[g4]? = some (.cells #[.int .i64 (oU (nextR s at1)).1, .int .i64 (oU (nextR s at1)).2.1, .int .i64 (oU (nextR s at1)).2.2] 39 (0, 0)) by rw [hW3]; exact blk_alloc Hg4p.out _)
    have Hg6 := Sh.mk (show W3.heap[g6]? = some (.cells #[.int .i64 (oU (nextR s at1)).1, .int .i64 (oU (nextR s at1)).2.1, .int .i64 (oU (nextR s at1)).2.2] 39 (0, 0)) by rw [hW3]; exact blk_alloc Hg6p.out _)
    have Hg8 := Sh.mk (show W3.heap[g8]? = some (.cells #[.int .i64 (oU (prevR s at1)).1, .int .i64 (oU (prevR s at1)).2.1, .int .i64 (oU (prevR s at1)).2.2] 39 (0, 0)) by rw [hW3, hgg8]; exact blk_new _ _)
    have x0 := blk_cell HXV3.out 0
    simp only [List.getElem?_toArray, List.getElem?_cons_zero] at x0
    have hlt := blk_lt HXV3.out
    clear hW3 hgg8 Hg4p Hg6p
    go_wp2_with fail
    rw [← HW3.out]
    rw [← HGg8.out]
    clear x0 hlt HXV3 HBV3
    have x0 := blk_cell HXW3.out 0
    simp only [List.getElem?_toArray, List.getElem?_cons_zero] at x0
    refine (refPrev_any s at1 W3 hs).mono ?_
    rintro e V4 ⟨rfl, hb⟩
    rw [HCD.out]
    have HXV4 := Sh.mk (blk_below HXW3.out hb)
    have HBV4 := Sh.mk (below_of HBW3.out hb)
    have Hg4p := Sh.mk (blk_below Hg4.out hb)
    have Hg6p := Sh.mk (blk_below Hg6.out hb)
    have Hg8p := Sh.mk (blk_below Hg8.out hb)
    clear hb HBW3 HXW3 x0 Hg4 Hg6 Hg8
    have yg40 := blk_cell Hg4p.out 0
    have yg41 := blk_cell Hg4p.out 1
    have yg42 := blk_cell Hg4p.out 2
    have lg4 := blk_lt Hg4p.out
    simp only [List.getElem?_toArray, List.getElem?_cons_zero, List.getElem?_cons_succ] at yg40 yg41 yg42
    have yg60 := blk_cell Hg6p.out 0
    have yg61 := blk_cell Hg6p.out 1
    have yg62 := blk_cell Hg6p.out 2
    have lg6 := blk_lt Hg6p.out
    simp only [List.getElem?_toArray, List.getElem?_cons_zero, List.getElem?_cons_succ] at yg60 yg61 yg62
    have yg80 := blk_cell Hg8p.out 0
    have yg81 := blk_cell Hg8p.out 1
    have yg82 := blk_cell Hg8p.out 2
    have lg8 := blk_lt Hg8p.out
    simp only [List.getElem?_toArray, List.getElem?_cons_zero, List.getElem?_cons_succ] at yg80 yg81 yg82
    have HBe : Sh (∀ o, Below w.heap.size w (V4.alloc o)) := ⟨fun o => HBV4.out.alloc HBV4.out.size o⟩
    obtain ⟨p0, hp0⟩ : ∃ p, p = oU (nextR s at1) := ⟨_, rfl⟩
    obtain ⟨p1, hp1⟩ : ∃ p, p = oU (prevR s at1) := ⟨_, rfl⟩
    obtain ⟨d0, hd0⟩ : ∃ d, d = (nextR s at1).isSome := ⟨_, rfl⟩
    obtain ⟨d1, hd1⟩ : ∃ d, d = (prevR s at1).isSome := ⟨_, rfl⟩
    simp only [uVal, ← hp0, ← hp1, ← hd0, ← hd1] at *
    clear hp0 hp1 hd0 hd1
    have z0 : (d0 == d0) = true := by simp
    have z1 : (d1 == d1) = true := by simp
    have zp01 : (p0.1 == p0.1) = true := by simp
    have zp021 : (p0.2.1 == p0.2.1) = true := by simp
    have zp022 : (p0.2.2 == p0.2.2) = true := by simp
    have zp11 : (p1.1 == p1.1) = true := by simp
    have zp121 : (p1.2.1 == p1.2.1) = true := by simp
    have zp122 : (p1.2.2 == p1.2.2) = true := by simp
    go_wp2
    go_ret
    exact ⟨rfl, HBe.out _⟩
end Go.Proofs.YtfiahgahphammaaDoor
