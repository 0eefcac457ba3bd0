/-
The walk of caesuralaw2.UnitsPieces. Conditions: the texts' sizes; the table reads as listed.
-/
import Derived.Test.YtfiahgahphammaaDoorPiecesW
namespace Go.Proofs.YtfiahgahphammaaDoor
open Go Go.RowKit Go.Proofs.YtfiahgahphammaaDoorW.PrintWords Go.Proofs.YtfiahgahphammaaDoorW.PrintLast Go.Proofs.YtfiahgahphammaaDoorW.PrintMore
theorem units_bounds (s : ByteArray) : ∀ (f i : Nat) (u : Int × Int × Int), u ∈ unitsFrom s f i → 0 ≤ u.2.1 ∧ u.2.1 ≤ s.size ∧ 0 ≤ u.2.2 ∧ u.2.2 ≤ s.size + 4
  | 0, _, u, h => by simp [unitsFrom] at h
  | f + 1, i, u, h => by
    have hl := unitLen_pos s i
    rw [unitsFrom] at h
    split at h
    · rcases List.mem_cons.1 h with rfl | h
      · exact ⟨by simp, by simp; omega, by simp; omega, by simp; omega⟩
      · exact units_bounds s f _ u h
    · simp at h
theorem C_takeU {w : World} {A : Option Addr} {n : Nat} {xs : List (Int × Int × Int)} (h : unitK.C w A n xs) (m : Nat) (hm : m ≤ n) : unitK.C w A m (xs.take m) := C_take h m hm
set_option maxRecDepth 100000 in
set_option maxHeartbeats 8000000 in
theorem pieces_any (A B : ByteArray) (w : World) (hf : FormsAt w) (hA : A.size ≤ 2000000000000) (hB : B.size ≤ 2000000000000) :
    Calls Tryd.prog 8 #[.agg #[.string A, .string B]] w fun e w' => e = .returned (.bool true) ∧ Below w.heap.size w w' := by
  have HF := Sh.mk hf
  clear hf
  obtain ⟨W0, hW0⟩ : ∃ W0, W0 = w.alloc (.cells #[.string A, .string B] 47) := ⟨_, rfl⟩
  obtain ⟨gS, hg⟩ : ∃ g, g = w.heap.size := ⟨_, rfl⟩
  have HG := Sh.mk hg
  have HB0 := Sh.mk (show Below w.heap.size w W0 by rw [hW0]; exact (Below.refl _ _).alloc (Nat.le_refl _) _)
  have HX0 := Sh.mk (show W0.heap[gS]? = some (.cells #[.string A, .string B] 47 (0, 0)) by rw [hW0, hg]; exact blk_new _ _)
  have HW := Sh.mk hW0
  clear hW0 hg
  have hc3 := cut_le A
  obtain ⟨c, hc⟩ : ∃ c, c = cutR A := ⟨_, rfl⟩
  rw [← hc] at hc3
  obtain ⟨i0, hi0⟩ : ∃ i, i = A.size - c := ⟨_, rfl⟩
  have hi0c : (A.size : Int) - (c : Int) = (i0 : Int) := by omega
  have hi0A : i0 ≤ A.size := by omega
  have hP := pieces A B
  rw [← hc, ← hi0] at hP
  obtain ⟨xs, hxs⟩ : ∃ xs, xs = unitsFrom (A ++ B) (A ++ B).size 0 := ⟨_, rfl⟩
  obtain ⟨hs, hhs⟩ : ∃ hs, hs = unitsFrom (A.extract 0 i0) (A.extract 0 i0).size 0 := ⟨_, rfl⟩
  obtain ⟨rs, hrs⟩ : ∃ rs, rs = unitsFrom (A.extract i0 A.size ++ B) (A.extract i0 A.size ++ B).size 0 := ⟨_, rfl⟩
  rw [← hxs, ← hhs, ← hrs] at hP
  have hsT : (A ++ B).size ≤ 4000000000000 := by rw [ByteArray.size_append]; omega
  have hsH : (A.extract 0 i0).size ≤ 4000000000000 := by rw [ByteArray.size_extract]; omega
  have hsD : (A.extract i0 A.size ++ B).size ≤ 4000000000000 := by rw [ByteArray.size_append, ByteArray.size_extract]; omega
  have hbR : ∀ u ∈ rs, 0 ≤ u.2.1 ∧ u.2.1 ≤ 4000000000000 ∧ 0 ≤ u.2.2 ∧ u.2.2 ≤ 4000000000004 := fun u hu => by
    have := units_bounds _ _ _ u (hrs ▸ hu)
    omega
  obtain ⟨nx, hnx⟩ : ∃ n, n = xs.length := ⟨_, rfl⟩
  obtain ⟨nh, hnh⟩ : ∃ n, n = hs.length := ⟨_, rfl⟩
  obtain ⟨nr, hnr⟩ : ∃ n, n = rs.length := ⟨_, rfl⟩
  have hsum : nx = nh + nr := by rw [hnx, hP, List.length_append, List.length_map, hnh, hnr]
  have hnxle : nx ≤ 4000000000000 := by rw [hnx, hxs]; have := unitsFrom_len (A ++ B) (A ++ B).size 0; omega
  have HC := Sh.mk hc
  have HXS := Sh.mk hxs
  have HHS := Sh.mk hhs
  have HRS := Sh.mk hrs
  have HP := Sh.mk hP
  have HST := Sh.mk hsT
  have HSH := Sh.mk hsH
  have HSD := Sh.mk hsD
  have HBR := Sh.mk hbR
  have HNX := Sh.mk hnx
  have HNH := Sh.mk hnh
  have HNR := Sh.mk hnr
  clear hc hi0 hP hxs hhs hrs hsT hsH hsD hbR hnx hnh hnr
  subst hsum
  go_enter Tryd.func8, Tryd.ntmps8
  go_wp2_with fail
  rw [← HW.out, ← HG.out]
  refine (first_any W0 (HF.out.below HB0.out)).mono ?_
  rintro e w1 ⟨rfl, hb⟩
  have HX1 := Sh.mk (blk_below HX0.out hb)
  have HB1 := Sh.mk (below_of HB0.out hb)
  clear HX0 HB0 hb HW HG
  have x0 := blk_cell HX1.out 0
  have x1 := blk_cell HX1.out 1
  simp only [List.getElem?_toArray, List.getElem?_cons_zero, List.getElem?_cons_succ] at x0 x1
  go_wp2_with fail
  refine (cut_any A w1 (HF.out.below HB1.out) (by omega)).mono ?_
  rintro e w2 ⟨rfl, hb⟩
  rw [← HC.out]
  have HX2 := Sh.mk (blk_below HX1.out hb)
  have HB2 := Sh.mk (below_of HB1.out hb)
  clear HX1 HB1 hb x0 x1
  have x0 := blk_cell HX2.out 0
  have x1 := blk_cell HX2.out 1
  simp only [List.getElem?_toArray, List.getElem?_cons_zero, List.getElem?_cons_succ] at x0 x1
  have l1 : decide ((c : Int) < 0) = false := by simp
  have l2 : decide ((3 : Int) < (c : Int)) = false := by simp; omega
  have l3 : decide (A.size < c) = false := by simp; omega
  go_wp2_with fail
  refine (cut_any { data := #[97, 226, 130] } w2 (HF.out.below HB2.out) (by decide)).mono ?_
  rintro e w3 ⟨rfl, hb⟩
  rw [cut_first]
  have HX3 := Sh.mk (blk_below HX2.out hb)
  have HB3 := Sh.mk (below_of HB2.out hb)
  clear HX2 HB2 hb x0 x1 l1 l2 l3
  have x0 := blk_cell HX3.out 0
  have x1 := blk_cell HX3.out 1
  simp only [List.getElem?_toArray, List.getElem?_cons_zero, List.getElem?_cons_succ] at x0 x1
  have hcat : A.size + B.size ≤ 9223372036854775807 := by omega
  go_wp2_with fail
  refine (split_any (A ++ B) w3 (HF.out.below HB3.out) (by have := HST.out; omega)).mono ?_
  rintro e w4 ⟨v4, rfl, ho, hb⟩
  rw [← HXS.out] at ho
  obtain ⟨A4, c4, rfl, hc4, hC4⟩ := R_open ho (nh + nr) HNX.out.symm
  have HC4 := Sh.mk hC4
  have HX4 := Sh.mk (blk_below HX3.out hb)
  have HB4 := Sh.mk (below_of HB3.out hb)
  clear HX3 HB3 hb x0 x1 ho hC4
  have x0 := blk_cell HX4.out 0
  have x1 := blk_cell HX4.out 1
  simp only [List.getElem?_toArray, List.getElem?_cons_zero, List.getElem?_cons_succ] at x0 x1
  go_wp2_with fail
  refine (split_any (A.extract 0 i0) w4 (HF.out.below HB4.out) (by have := HSH.out; omega)).mono ?_
  rintro e w5 ⟨v5, rfl, ho, hb⟩
  rw [← HHS.out] at ho
  obtain ⟨A5, c5, rfl, hc5, hC5⟩ := R_open ho nh HNH.out.symm
  have HC5 := Sh.mk hC5
  have HC45 := Sh.mk (Kd.C_below HC4.out hb)
  have HX5 := Sh.mk (blk_below HX4.out hb)
  have HB5 := Sh.mk (below_of HB4.out hb)
  clear HX4 HB4 HC4 hb x0 x1 ho hC5
  have HCh := Sh.mk (show unitK.C w5 A4 nh hs from by
    have h := C_takeU HC45.out nh (by omega)
    rwa [HP.out, List.take_append_of_le_length (by have := HNH.out; omega), List.take_of_length_le (by have := HNH.out; omega)] at h)
  have l4 : decide (nh + nr < nh) = false := by simp
  have l5 : decide (nh ≤ c4) = true := by simp; omega
  have l5' : decide (nh ≤ nh + nr) = true := by simp
  go_wp2_with fail
  refine (sameUnits_any A5 A4 c5 c4 nh nh hs hs w5 HC5.out HCh.out).mono ?_
  rintro e w6 ⟨rfl, hd⟩
  rw [show decide (hs = hs) = true by simp]
  have hb := hd.below
  have HC46 := Sh.mk (Kd.C_below HC45.out hb)
  have HX6 := Sh.mk (blk_below HX5.out hb)
  have HB6 := Sh.mk (below_of HB5.out hb)
  clear HX5 HB5 HC45 HCh HC5 hb hd
  have x0 := blk_cell HX6.out 0
  have x1 := blk_cell HX6.out 1
  simp only [List.getElem?_toArray, List.getElem?_cons_zero, List.getElem?_cons_succ] at x0 x1
  have hcat2 : (A.extract i0 A.size).size + B.size ≤ 9223372036854775807 := by have := HSD.out; rw [ByteArray.size_append] at this; omega
  have l6 : decide (i0 ≤ A.size) = true := by simpa using hi0A
  go_wp2
  have hwi : IntKind.i64.wrap (i0 : Int) = (i0 : Int) := by rw [IntKind.wrap_i64]; omega
  have hwl : (0 : Int) ≤ (i0 : Int) ∧ (i0 : Int) ≤ (A.size : Int) := by omega
  have hcat3 : ¬ (9223372036854775807 < A.size - i0 + B.size) := by omega
  go_still_tail 11, (by kernel_rfl)
  change wpList _ _ _ _ _ w6.drew
  have hb7 : Below w6.heap.size w6 w6.drew := ⟨rfl, rfl, rfl, Nat.le_refl _, fun _ _ => rfl⟩
  clear x0 x1
  generalize w6.drew = w7 at hb7 ⊢
  have HC47 := Sh.mk (Kd.C_below HC46.out hb7)
  have HX7 := Sh.mk (blk_below HX6.out hb7)
  have HB7 := Sh.mk (below_of HB6.out hb7)
  clear HX6 HB6 HC46 hb7
  go_wp2_with fail
  refine (split_any (A.extract i0 A.size ++ B) w7 (HF.out.below HB7.out) (by have := HSD.out; omega)).mono ?_
  rintro e w8 ⟨v8, rfl, ho, hb⟩
  rw [← HRS.out] at ho
  obtain ⟨A8, c8, rfl, hc8, hC8⟩ := R_open ho nr HNR.out.symm
  have HC8 := Sh.mk hC8
  have HC48 := Sh.mk (Kd.C_below HC47.out hb)
  have HX8 := Sh.mk (blk_below HX7.out hb)
  have HB8 := Sh.mk (below_of HB7.out hb)
  clear HX7 HB7 HC47 hb ho hC8
  have l7 : ((nr : Int) + (nh : Int) == (nh : Int) + (nr : Int)) = true := by simp; omega
  have l7' : ((nr + nh : Nat) == nh + nr) = true := by simp; omega
  have l7'' : ((nr : Int) + (nh : Int) != (nh : Int) + (nr : Int)) = false := by simp; omega
  go_wp2
  go_loopw [9] (fun v wr => ∃ k : Nat, k ≤ nr ∧ v = .int .i64 k ∧ Sh (unitK.C wr A4 (nh + nr) xs) ∧ Sh (unitK.C wr A8 nr rs) ∧ Sh (wr.heap[gS]? = some (.cells #[.string A, .string B] 47 (0, 0))) ∧ Sh (Below w.heap.size w wr)) (fun v _ => nr - (intOf v).toNat)
  case atStart => exact ⟨0, by omega, rfl, HC48, HC8, HX8, HB8⟩
  case round =>
    obtain ⟨k, hk, rfl, HC4, HC8, HX, HB⟩ := hrel
    by_cases hlt : k < nr
    · obtain ⟨ad, e1, y0, y1, y2⟩ := C_unit HC4.out (nh + k) (by omega)
      cases e1
      obtain ⟨ad', e1, z0, z1, z2⟩ := C_unit HC8.out k hlt
      cases e1
      have hxr : rdU xs (nh + k) = shiftU i0 (rdU rs k) := by
        rw [HP.out]
        simp only [rdU, List.getD]
        rw [List.getElem?_append_right (by have := HNH.out; omega), show nh + k - hs.length = k by have := HNH.out; omega, List.getElem?_map, List.getElem?_eq_getElem (show k < rs.length by have := HNR.out; omega)]
        rfl
      have hmem : rdU rs k ∈ rs := by
        have hkr : k < rs.length := by have := HNR.out; omega
        simp only [rdU, List.getD, List.getElem?_eq_getElem hkr, Option.getD_some]
        exact List.getElem_mem hkr
      have hbd := HBR.out _ hmem
      rw [hxr] at y0 y1 y2
      obtain ⟨u, hu⟩ : ∃ u, u = rdU rs k := ⟨_, rfl⟩
      rw [← hu] at y0 y1 y2 z0 z1 z2 hbd
      clear hu hxr hmem
      obtain ⟨u0, u1, u2⟩ := u
      simp only [shiftU] at y0 y1 y2 z0 z1 z2 hbd
      have x0 := blk_cell HX.out 0
      simp only [List.getElem?_toArray, List.getElem?_cons_zero] at x0
      go_wp2_with fail
      obtain ⟨W9, hW9⟩ : ∃ W9, W9 = wr.alloc (.cells #[.int .i64 u0, .int .i64 (u1 + i0), .int .i64 (u2 + i0)] 39) := ⟨_, rfl⟩
      obtain ⟨gu, hgu⟩ : ∃ gu, gu = wr.heap.size := ⟨_, rfl⟩
      have hb9 : Below wr.heap.size wr W9 := by rw [hW9]; exact (Below.refl _ _).alloc (Nat.le_refl _) _
      have HU := Sh.mk (show W9.heap[gu]? = some (.cells #[.int .i64 u0, .int .i64 (u1 + i0), .int .i64 (u2 + i0)] 39 (0, 0)) by rw [hW9, hgu]; exact blk_new _ _)
      have z0' := (hb9.cell (World.block_lt_of_cell? wr _ z0)).trans z0
      have z1' := (hb9.cell (World.block_lt_of_cell? wr _ z1)).trans z1
      have z2' := (hb9.cell (World.block_lt_of_cell? wr _ z2)).trans z2
      have HC4' := Sh.mk (Kd.C_below HC4.out hb9)
      have HC8' := Sh.mk (Kd.C_below HC8.out hb9)
      have HX' := Sh.mk (blk_below HX.out hb9)
      have HB' := Sh.mk (below_of HB.out hb9)
      rw [← hW9, ← hgu]
      clear hW9 hgu hb9 z0 z1 z2 y0 y1 y2 x0 HC4 HC8 HX HB
      have x0 := blk_cell HX'.out 0
      have w0 := blk_cell HU.out 0
      have w1' := blk_cell HU.out 1
      have w2' := blk_cell HU.out 2
      simp only [List.getElem?_toArray, List.getElem?_cons_zero, List.getElem?_cons_succ] at x0 w0 w1' w2'
      obtain ⟨b1, b2, b3, b4⟩ := hbd
      have q1 : u1 + (A.size : Int) - (c : Int) = u1 + (i0 : Int) := by omega
      have q2 : u2 + (A.size : Int) - (c : Int) = u2 + (i0 : Int) := by omega
      have t0 : (u0 == u0) = true := by simp
      have t1 : (u1 + (i0 : Int) == u1 + (i0 : Int)) = true := by simp
      have t2 : (u2 + (i0 : Int) == u2 + (i0 : Int)) = true := by simp
      clear hi0c
      go_quiet (fail)
      have hb10 : Below W9.heap.size W9 (W9.drewN nq) := belowN (Below.refl _ _) nq
      clear x0 w0 w1' w2' z0' z1' z2'
      generalize W9.drewN nq = W10 at hb10 ⊢
      have HC4 := Sh.mk (Kd.C_below HC4'.out hb10)
      have HC8 := Sh.mk (Kd.C_below HC8'.out hb10)
      have HX := Sh.mk (blk_below HX'.out hb10)
      have HB := Sh.mk (below_of HB'.out hb10)
      go_wp2
      go_roundw
      case rel => exact ⟨k + 1, by omega, by go_num, HC4, HC8, HX, HB⟩
      case measure => simp [intOf]; omega
    · obtain rfl : k = nr := by omega
      go_wp2
      go_ret
      exact ⟨rfl, HB.out⟩
end Go.Proofs.YtfiahgahphammaaDoor
