/-
The walk of caesuralaw1.CodecSums: true where the program's sums are the document's. Conditions: the text has at most 2^47 - 128 bytes; the table reads as listed.
-/
import Derived.Test.YtlhnajgckdeedaaDoorSpare
import Derived.Test.YtlhnajgckdeedaaDoorCrc
import Derived.Deep.QuietTactic
import Derived.BigQuiet
namespace Go.Proofs.YtlhnajgckdeedaaDoor
open Go Go.RowKit Go.Proofs.YtlhnajgckdeedaaDoorW.PrintWords Go.Proofs.YtlhnajgckdeedaaDoorW.PrintLast Go.Proofs.YtlhnajgckdeedaaDoorW.PrintMore
/-- The other bytes. -/
def fillL (k : Nat) : List Int := (List.range k).map fun (i : Nat) => ((i : Int) + 1) % 256
theorem fillL_succ (k : Nat) : fillL (k + 1) = fillL k ++ [((k : Int) + 1) % 256] := by simp [fillL, List.range_succ]
theorem fillL_len (k : Nat) : (fillL k).length = k := by simp [fillL]
set_option maxRecDepth 100000 in
set_option maxHeartbeats 4000000 in
theorem sums_any (s : ByteArray) (sum : Int) (w : World) (hs : s.size ≤ 140737488355200) (hT : CrcAt w)
    (h1 : crcMoreF 0 (bytesOf s) = refMoreF 0 (bytesOf s)) (h2 : crcMoreF sum (bytesOf s) = refMoreF sum (bytesOf s)) (h3 : crcMoreF 0 (fillL s.size) = refMoreF 0 (fillL s.size)) (h4 : crcMoreF sum (fillL s.size) = refMoreF sum (fillL s.size)) :
    Calls Tryd.prog 4 #[.agg #[.string s, .int .u32 sum]] w fun e w' => e = .returned (.bool true) ∧ Below w.heap.size w w' := by
  have hlen := bytesOf_length s
  have HL := Sh.mk hlen
  have HT := Sh.mk hT
  have E1 := Sh.mk h1
  have E2 := Sh.mk h2
  have E3 := Sh.mk h3
  have E4 := Sh.mk h4
  clear hlen hT h1 h2 h3 h4
  obtain ⟨W0, hW0⟩ : ∃ W0, W0 = w.alloc (.cells #[.string s, .int .u32 sum] 27) := ⟨_, rfl⟩
  have HB := Sh.mk (show Below w.heap.size w W0 by rw [hW0]; exact (Below.refl _ _).alloc (Nat.le_refl _) _)
  have HX := Sh.mk (show W0.heap[w.heap.size]? = some (.cells #[.string s, .int .u32 sum] 27 (0, 0)) by rw [hW0]; exact blk_new _ _)
  have HW := Sh.mk hW0
  clear hW0
  obtain ⟨g, hg⟩ : ∃ g, g = w.heap.size := ⟨_, rfl⟩
  have HG := Sh.mk hg
  clear hg
  rw [← HG.out] at HX
  have hw0 : w.heap.size ≤ W0.heap.size := HB.out.size
  have hgW : g < W0.heap.size := blk_lt HX.out
  go_enter Tryd.func4, Tryd.ntmps4
  go_wp2_with fail
  rw [← HW.out]
  rw [← HG.out]
  clear HW
  -- spare
  refine (spare_any s W0 hs).mono ?_
  rintro e w1 ⟨v, rfl, ho, hb⟩
  obtain ⟨A, c, rfl, hc, hC⟩ := R_open ho (s.size + 64) (by rw [List.length_append, HL.out, marks_len])
  have HO := Sh.mk ho
  have HC := Sh.mk hC
  have HX1 := Sh.mk (blk_below HX.out hb)
  have HB1 := Sh.mk (below_of HB.out hb)
  clear ho hC hb HX HB
  have x0 := blk_cell HX1.out 0
  have x1 := blk_cell HX1.out 1
  simp only [List.getElem?_toArray, List.getElem?_cons_zero, List.getElem?_cons_succ] at x0 x1
  go_wp2_with fail
  -- Crc
  have HT1 := Sh.mk (HT.out.below HB1.out)
  have hC2 : (Kd.int .u8).C w1 A s.size (bytesOf s) := by
    have h := C_take HC.out s.size (by omega)
    rwa [List.take_append_of_le_length (by rw [HL.out]; exact Nat.le_refl _), List.take_of_length_le (by rw [HL.out]; exact Nat.le_refl _)] at h
  have HC2 := Sh.mk hC2
  clear hC2
  refine (crc_any A c s.size (bytesOf s) w1 HC2.out HT1.out).mono ?_
  rintro e w2 ⟨rfl, rfl⟩
  go_wp2
  -- CrcMore, in a region that draws
  go_quiet ((go_at_call 14; exact quiet_eq (crcMore_any A c s.size (bytesOf s) sum _ (Kd.C_drewN HC2.out _) (HT1.out.below (belowN (Below.refl _ _) _)))))
  have hb : Below w1.heap.size w1 (w1.drewN nq) := belowN (Below.refl _ _) nq
  clear x0 x1
  generalize w1.drewN nq = w2 at hb ⊢
  have HO2 := Sh.mk (Kd.R_below HO.out hb)
  have HC2 := Sh.mk (Kd.C_below HC2.out hb)
  have HC3 := Sh.mk (Kd.C_below HC.out hb)
  have HX2 := Sh.mk (blk_below HX1.out hb)
  have HB2 := Sh.mk (below_of HB1.out hb)
  have HT2 := Sh.mk (HT1.out.below hb)
  clear HO HC HX1 HT1 HB1 hb
  have x0 := blk_cell HX2.out 0
  have x1 := blk_cell HX2.out 1
  simp only [List.getElem?_toArray, List.getElem?_cons_zero, List.getElem?_cons_succ] at x0 x1
  go_wp2_with fail
  -- kept
  refine (kept_any s A c w2 hs HC3.out).mono ?_
  rintro e w3 ⟨rfl, hd⟩
  have hb := hd.below
  have HO3 := Sh.mk (Kd.R_below HO2.out hb)
  have HX3 := Sh.mk (blk_below HX2.out hb)
  have HB3 := Sh.mk (below_of HB2.out hb)
  have HT3 := Sh.mk (HT2.out.below hb)
  clear HO2 HX2 HT2 HB2 hb hd x0 x1 HC2 HC3
  have x0 := blk_cell HX3.out 0
  have x1 := blk_cell HX3.out 1
  simp only [List.getElem?_toArray, List.getElem?_cons_zero, List.getElem?_cons_succ] at x0 x1
  go_wp2_with fail
  -- Bytes
  refine (bytes_any s w3 (by omega)).mono ?_
  rintro e w4 ⟨p, rfl, hp, hb⟩
  obtain ⟨B, d, rfl, hd, hQ⟩ := R_open hp s.size HL.out
  have HQ := Sh.mk hQ
  have HP := Sh.mk hp
  have HO4 := Sh.mk (Kd.R_below HO3.out hb)
  have HX4 := Sh.mk (blk_below HX3.out hb)
  have HB4 := Sh.mk (below_of HB3.out hb)
  have HT4 := Sh.mk (HT3.out.below hb)
  clear HO3 HX3 HT3 HB3 hb hQ hp x0 x1
  have x0 := blk_cell HX4.out 0
  have x1 := blk_cell HX4.out 1
  simp only [List.getElem?_toArray, List.getElem?_cons_zero, List.getElem?_cons_succ] at x0 x1
  go_wp2_with fail
  -- the document's two sums
  refine (refCrc_any B d s.size (bytesOf s) w4 HQ.out).mono ?_
  rintro e w5 ⟨rfl, rfl⟩
  rw [← E1.out]
  go_wp2_with fail
  refine (refMore_any B d s.size (bytesOf s) sum w4 HQ.out).mono ?_
  rintro e w5 ⟨rfl, rfl⟩
  rw [← E2.out]
  go_wp2_with fail
  -- other bytes
  clear HQ HP x0 x1
  have HE := Sh.mk (show (bytesOf s ++ marks 64).length = s.size + 64 by rw [List.length_append, HL.out, marks_len])
  obtain ⟨G, rfl, hGb, hGl⟩ := R_lies HO4.out HE.out (by omega)
  go_loopw [9] (fun i wr => ∃ (k : Nat) (xs : List Int), k ≤ s.size ∧ i = .int .i64 k ∧ Sh (xs.length = s.size + 64) ∧ Sh (xs.take k = fillL k) ∧ Sh (Kd.R (Kd.int .u8) 5 wr W0.heap.size (fun _ => True) (.slice (some ⟨G, 0, none⟩) (s.size + 64) c) xs) ∧ Sh (Below w.heap.size w wr) ∧ Sh (wr.heap[g]? = some (.cells #[.string s, .int .u32 sum] 27 (0, 0)))) (fun i _ => s.size - (intOf i).toNat)
  case atStart => exact ⟨0, _, by omega, rfl, HE, ⟨by simp [fillL]⟩, HO4, HB4, HX4⟩
  case round =>
    obtain ⟨k, xs, hk, rfl, HLx, HTk, HO, HB, HX⟩ := hrel
    by_cases hlt2 : k < s.size
    · have hc2 := R_ix HO.out k (by omega)
      obtain ⟨hc0, hf0⟩ := hc2
      go_wp2
      go_roundw
      case rel => exact ⟨k + 1, xs.set k (((k : Int) + 1) % 256), by omega, by go_num, ⟨by rw [List.length_set]; exact HLx.out⟩, ⟨by rw [take_set _ _ _ (by rw [HLx.out]; omega), HTk.out, fillL_succ]⟩, ⟨R_st HO.out k _⟩, ⟨HB.out.setCell (p := ⟨G, k, none⟩) (by show w.heap.size ≤ G; omega) _⟩, ⟨blk_far HX.out (p := ⟨G, k, none⟩) (by show g ≠ G; omega) _⟩⟩
      case measure => simp [intOf]; omega
    · obtain rfl : k = s.size := by omega
      have x0 := blk_cell HX.out 0
      have x1 := blk_cell HX.out 1
      simp only [List.getElem?_toArray, List.getElem?_cons_zero, List.getElem?_cons_succ] at x0 x1
      have hR := C_take (C_of_R HO.out HLx.out) s.size (by omega)
      rw [HTk.out] at hR
      have HR := Sh.mk hR
      have HT5 := Sh.mk (HT.out.below HB.out)
      clear hR
      go_wp2_with fail
      -- Copy
      refine (copy_any (some ⟨G, 0, none⟩) c s.size (fillL s.size) wr HR.out (by omega)).mono ?_
      rintro e w6 ⟨q, rfl, hq, hb⟩
      obtain ⟨D, f, rfl, hf, hQ⟩ := R_open hq s.size (fillL_len _)
      have HQ := Sh.mk hQ
      have HR6 := Sh.mk (Kd.C_below HR.out hb)
      have HX6 := Sh.mk (blk_below HX.out hb)
      have HB6 := Sh.mk (below_of HB.out hb)
      have HT6 := Sh.mk (HT5.out.below hb)
      clear HR HX HB hb hQ hq x0 x1 HO HT5
      have x0 := blk_cell HX6.out 0
      have x1 := blk_cell HX6.out 1
      simp only [List.getElem?_toArray, List.getElem?_cons_zero, List.getElem?_cons_succ] at x0 x1
      go_wp2_with fail
      refine (crc_any (some ⟨G, 0, none⟩) c s.size (fillL s.size) w6 HR6.out HT6.out).mono ?_
      rintro e w7 ⟨rfl, rfl⟩
      go_wp2
      go_quiet ((go_at_call 14; exact quiet_eq (crcMore_any (some ⟨G, 0, none⟩) c s.size (fillL s.size) sum _ (Kd.C_drewN HR6.out _) (HT6.out.below (belowN (Below.refl _ _) _)))))
      have hb : Below w6.heap.size w6 (w6.drewN nq) := belowN (Below.refl _ _) nq
      clear x0 x1
      generalize w6.drewN nq = w8 at hb ⊢
      have HQ8 := Sh.mk (Kd.C_below HQ.out hb)
      have HX8 := Sh.mk (blk_below HX6.out hb)
      have HB8 := Sh.mk (below_of HB6.out hb)
      clear HQ HX6 HB6 hb
      have x0 := blk_cell HX8.out 0
      have x1 := blk_cell HX8.out 1
      simp only [List.getElem?_toArray, List.getElem?_cons_zero, List.getElem?_cons_succ] at x0 x1
      go_wp2_with fail
      refine (refCrc_any D f s.size (fillL s.size) w8 HQ8.out).mono ?_
      rintro e w9 ⟨rfl, rfl⟩
      rw [← E3.out]
      go_wp2_with fail
      refine (refMore_any D f s.size (fillL s.size) sum w8 HQ8.out).mono ?_
      rintro e w9 ⟨rfl, rfl⟩
      rw [← E4.out]
      go_wp2_with fail
      go_ret
      exact ⟨rfl, HB8.out⟩
end Go.Proofs.YtlhnajgckdeedaaDoor
