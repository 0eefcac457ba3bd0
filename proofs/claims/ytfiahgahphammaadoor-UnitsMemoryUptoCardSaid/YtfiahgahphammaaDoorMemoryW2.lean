/-
The walk of caesuralaw2.UnitsMemory, itself. Conditions: the text's size; the table reads as listed.
-/
import Derived.Test.YtfiahgahphammaaDoorMemoryW
namespace Go.Proofs.YtfiahgahphammaaDoor
open Go Go.RowKit Go.Proofs.YtfiahgahphammaaDoorW.PrintWords Go.Proofs.YtfiahgahphammaaDoorW.PrintLast Go.Proofs.YtfiahgahphammaaDoorW.PrintMore
set_option maxRecDepth 100000 in
set_option maxHeartbeats 8000000 in
theorem memory_any (s : ByteArray) (w : World) (hf : FormsAt w) (hs : s.size ≤ 4000000000000) :
    Calls Tryd.prog 6 #[.string s] w fun e w' => e = .returned (.bool true) ∧ Below w.heap.size w w' := by
  have HF := Sh.mk hf
  have hgf : 11 < w.heap.size := by obtain ⟨t, ht⟩ := hf; exact blk_lt ht
  clear hf
  obtain ⟨T, hT⟩ : ∃ T, T = ({ data := #[97] } : ByteArray) ++ s := ⟨_, rfl⟩
  have hTs : T.size = s.size + 1 := by rw [hT, ByteArray.size_append]; show 1 + s.size = _; omega
  have HT := Sh.mk hT
  obtain ⟨xs, hxs⟩ : ∃ xs, xs = unitsFrom T T.size 0 := ⟨_, rfl⟩
  obtain ⟨n, hn⟩ : ∃ n, n = xs.length := ⟨_, rfl⟩
  have hn0 : 0 < n := by
    rw [hn, hxs, hTs, unitsFrom, if_pos (by omega)]
    simp
  have hnle : n ≤ s.size + 1 := by rw [hn, hxs, ← hTs]; exact unitsFrom_len _ _ _
  have HXS := Sh.mk hxs
  have HN := Sh.mk hn
  have HTS := Sh.mk hTs
  clear hT hxs hn hTs
  go_enter Tryd.func6, Tryd.ntmps6
  go_wp2_with fail
  rw [← HT.out]
  refine (split_any T w HF.out (by rw [HTS.out]; omega)).mono ?_
  rintro e w1 ⟨v1, rfl, ho1, hb1⟩
  rw [← HXS.out] at ho1
  obtain ⟨A1, c1, rfl, hc1, hC1⟩ := R_open ho1 n HN.out.symm
  obtain ⟨G1, rfl, hG1, hG1'⟩ := R_lies ho1 HN.out.symm hn0
  have HO1 := Sh.mk ho1
  have HB1 := Sh.mk hb1
  clear ho1 hC1 hb1
  go_wp2_with fail
  rw [← HT.out]
  refine (split_any T w1 (HF.out.below HB1.out) (by rw [HTS.out]; omega)).mono ?_
  rintro e w2 ⟨v2, rfl, ho2, hb2⟩
  rw [← HXS.out] at ho2
  obtain ⟨A2, c2, rfl, hc2, hC2⟩ := R_open ho2 n HN.out.symm
  obtain ⟨G2, rfl, hG2, hG2'⟩ := R_lies ho2 HN.out.symm hn0
  have HO2 := Sh.mk ho2
  have HC2 := Sh.mk hC2
  have HO1' := Sh.mk (Kd.R_below HO1.out hb2)
  have HB2 := Sh.mk (below_of HB1.out hb2)
  clear ho2 hC2 hb2 HO1
  go_wp2_with fail
  rw [← HT.out]
  refine (refSplit_any T w2 (by rw [HTS.out]; omega)).mono ?_
  rintro e w3 ⟨v3, rfl, ho3, hb3⟩
  rw [← HXS.out] at ho3
  obtain ⟨A3, c3, rfl, hc3, hC3⟩ := R_open ho3 n HN.out.symm
  obtain ⟨G3, rfl, hG3, hG3'⟩ := R_lies ho3 HN.out.symm hn0
  have HB3 := Sh.mk (below_of HB2.out hb3)
  have hw1 := HB1.out.size
  have HL := Sh.mk (show Longer w G2 G3 n (.slice (some ⟨G1, 0, none⟩) n c1) w3 by
    obtain ⟨cs, h⟩ := own_of_RU (Kd.R_below HO1'.out hb3)
    rw [← HN.out] at h
    exact ⟨⟨cs, h⟩, by simp [Value.ownBlock]; omega, by simp [Value.ownBlock]; omega⟩)
  have HS := Sh.mk (show Stay w G2 c2 w1.heap.size G3 n xs w3 from by
    refine ⟨Kd.C_below HC2.out hb3, ?_, hC3, HB3.out, HF.out.below HB3.out, by have := hb3.size; omega, hG3'⟩
    obtain ⟨cs, h⟩ := own_of_RU (Kd.R_below HO2.out hb3)
    rw [← HN.out] at h
    exact ⟨cs, h⟩)
  have HS3 := Sh.mk (show Stay w G3 c3 w2.heap.size G3 n xs w3 from by
    refine ⟨hC3, ?_, hC3, HB3.out, HF.out.below HB3.out, hG3', hG3'⟩
    obtain ⟨cs, h⟩ := own_of_RU ho3
    rw [← HN.out] at h
    exact ⟨cs, h⟩)
  have hG23 : G2 < G3 := by omega
  have hwG2 : w.heap.size ≤ G2 := by omega
  clear ho3 hC3 hb3 HO1' HO2 HC2 HB1 HB2 HB3
  go_wp2
  -- a written over
  go_loopw [6] (fun i wr => ∃ k : Nat, k ≤ n ∧ i = .int .i64 k ∧ Sh (Longer w G2 G3 n (.slice (some ⟨G1, 0, none⟩) n c1) wr) ∧ Sh (Stay w G2 c2 w1.heap.size G3 n xs wr) ∧ Sh (Stay w G3 c3 w2.heap.size G3 n xs wr)) (fun i _ => n - (intOf i).toNat)
  case atStart => exact ⟨0, by omega, rfl, HL, HS, HS3⟩
  case round =>
    obtain ⟨k, hk, rfl, HL, HS, HS3⟩ := hrel
    by_cases hlt : k < n
    · obtain ⟨cs, hcs⟩ := HL.out.o
      obtain ⟨⟨q0, x0⟩, f0⟩ := own_cellsAt hcs (k * 3) (by omega)
      obtain ⟨⟨q1, x1⟩, f1⟩ := own_cellsAt hcs (k * 3 + 1) (by omega)
      obtain ⟨⟨q2, x2⟩, f2⟩ := own_cellsAt hcs (k * 3 + 2) (by omega)
      have HCS := Sh.mk hcs
      clear hcs
      go_wp2
      go_roundw
      obtain ⟨ds, hds, hgr⟩ := own_set3 HCS.out (k * 3) (.int .i64 (-9)) (.int .i64 k) (.int .i64 0)
      case rel => exact ⟨k + 1, by omega, by go_num, ⟨⟨⟨ds, hds⟩, HL.out.n2, HL.out.n3⟩⟩, ⟨HS.out.grow hgr HL.out.n2 HL.out.n3 (fun q hq => by cases hq; exact hG1) hgf⟩, ⟨HS3.out.grow hgr HL.out.n3 HL.out.n3 (fun q hq => by cases hq; exact hG1) hgf⟩⟩
      case measure => simp [intOf]; omega
    · obtain rfl : k = n := by omega
      go_wp2_with (first | ((with_reducible refine gate_builtin (b := .append) (xs := #[.tmp 35, .tmp 37]) rfl ?_); refine app_longer 35 Tryd.underlying35 info_unit (.tmp 35) (.tmp 37) G2 c2 w1.heap.size G3 _ _ xs _ _ _ _ hgf rfl rfl rfl rfl HL HS (by omega) ?_; intro v7 w4 HL4 HS4 hg4; have HS34 := Sh.mk (HS3.out.grow hg4 HL.out.n3 HL.out.n3 (fun q hq => by cases hq; exact hG1) hgf); clear HL HS HS3 hg4))
      go_loopw [7, 8] (fun v i wr => ∃ j : Nat, 1 ≤ j ∧ j ≤ 64 ∧ i = .int .i64 j ∧ Sh (Longer w G2 G3 (k + j) v wr) ∧ Sh (Stay w G2 c2 w1.heap.size G3 k xs wr) ∧ Sh (Stay w G3 c3 w2.heap.size G3 k xs wr)) (fun _ i _ => 64 - (intOf i).toNat)
      case atStart => exact ⟨1, by omega, by omega, rfl, HL4, HS4, HS34⟩
      case round =>
        obtain ⟨j, hj1, hj2, rfl, HL, HS, HS3⟩ := hrel
        by_cases hlt2 : j < 64
        · go_wp2_with (first | ((with_reducible refine gate_builtin (b := .append) (xs := #[.tmp 43, .tmp 45]) rfl ?_); refine app_longer 35 Tryd.underlying35 info_unit (.tmp 43) (.tmp 45) G2 c2 w1.heap.size G3 _ _ xs _ _ _ _ hgf rfl rfl rfl rfl HL HS (by omega) ?_; intro v8 w5 HL5 HS5 hg5; have HS35 := Sh.mk (HS3.out.grow hg5 HL.out.n3 HL.out.n3 (fun q hq => by obtain ⟨cs, hcs⟩ := HL.out.o; exact (own_cells hcs hq).choose_spec.2.2.1) hgf); clear HL HS HS3 hg5))
          go_roundw
          case rel => exact ⟨j + 1, by omega, by omega, by go_num, HL5, HS5, HS35⟩
          case measure => simp [intOf]; omega
        · obtain rfl : j = 64 := by omega
          obtain ⟨cs7, hcs7⟩ := HL.out.o
          obtain ⟨g7, p7, rfl, _, _⟩ := hcs7.form (by omega)
          clear hcs7 HL
          go_wp2_with fail
          refine (sameUnits_any (some ⟨G2, 0, none⟩) (some ⟨G3, 0, none⟩) c2 c3 k k xs xs _ HS.out.c2 HS.out.c3).mono ?_
          rintro e w6 ⟨rfl, hd6⟩
          rw [show decide (xs = xs) = true by simp]
          have hg6 := grow_below hd6.below
          have HSb := Sh.mk (HS.out.grow hg6 (by simp) (by simp) (fun q hq => by cases hq) hgf)
          have HS36 := Sh.mk (HS3.out.grow hg6 (by simp) (by simp) (fun q hq => by cases hq) hgf)
          have HLb := Sh.mk (show Longer w G3 G3 k (.slice (some ⟨G2, 0, none⟩) k c2) w6 by
            obtain ⟨cs, h⟩ := HSb.out.o2
            exact ⟨⟨cs, h.mono hw1⟩, by simp [Value.ownBlock]; omega, by simp [Value.ownBlock]; omega⟩)
          clear HS HS3 HSb hg6 hd6
          go_wp2
          -- b written over
          go_loopw [10] (fun i wr => ∃ j : Nat, j ≤ k ∧ i = .int .i64 j ∧ Sh (Longer w G3 G3 k (.slice (some ⟨G2, 0, none⟩) k c2) wr) ∧ Sh (Stay w G3 c3 w2.heap.size G3 k xs wr)) (fun i _ => k - (intOf i).toNat)
          case atStart => exact ⟨0, by omega, rfl, HLb, HS36⟩
          case round =>
            obtain ⟨j, hj, rfl, HL, HS3⟩ := hrel
            by_cases hlt3 : j < k
            · obtain ⟨cs, hcs⟩ := HL.out.o
              obtain ⟨⟨q0, x0⟩, f0⟩ := own_cellsAt hcs (j * 3) (by omega)
              obtain ⟨⟨q1, x1⟩, f1⟩ := own_cellsAt hcs (j * 3 + 1) (by omega)
              obtain ⟨⟨q2, x2⟩, f2⟩ := own_cellsAt hcs (j * 3 + 2) (by omega)
              have HCS := Sh.mk hcs
              clear hcs
              go_wp2
              go_roundw
              obtain ⟨ds, hds, hgr⟩ := own_set3 HCS.out (j * 3) (.int .i64 (-7)) (.int .i64 j) (.int .i64 0)
              case rel => exact ⟨j + 1, by omega, by go_num, ⟨⟨⟨ds, hds⟩, HL.out.n2, HL.out.n3⟩⟩, ⟨HS3.out.grow hgr HL.out.n3 HL.out.n3 (fun q hq => by cases hq; exact hwG2) hgf⟩⟩
              case measure => simp [intOf]; omega
            · obtain rfl : j = k := by omega
              go_wp2_with (first | ((with_reducible refine gate_builtin (b := .append) (xs := #[.tmp 61, .tmp 63]) rfl ?_); refine app_longer 35 Tryd.underlying35 info_unit (.tmp 61) (.tmp 63) G3 c3 w2.heap.size G3 _ _ xs _ _ _ _ hgf rfl rfl rfl rfl HL HS3 (by omega) ?_; intro v11 w7 HL7 HS7 hg7; clear HL HS3 hg7))
              go_loopw [11, 12] (fun v i wr => ∃ q : Nat, 1 ≤ q ∧ q ≤ 64 ∧ i = .int .i64 q ∧ Sh (Longer w G3 G3 (j + q) v wr) ∧ Sh (Stay w G3 c3 w2.heap.size G3 j xs wr)) (fun _ i _ => 64 - (intOf i).toNat)
              case atStart => exact ⟨1, by omega, by omega, rfl, HL7, HS7⟩
              case round =>
                obtain ⟨q, hq1, hq2, rfl, HL, HS3⟩ := hrel
                by_cases hlt4 : q < 64
                · go_wp2_with (first | ((with_reducible refine gate_builtin (b := .append) (xs := #[.tmp 69, .tmp 71]) rfl ?_); refine app_longer 35 Tryd.underlying35 info_unit (.tmp 69) (.tmp 71) G3 c3 w2.heap.size G3 _ _ xs _ _ _ _ hgf rfl rfl rfl rfl HL HS3 (by omega) ?_; intro v12 w8 HL8 HS8 hg8; clear HL HS3 hg8))
                  go_roundw
                  case rel => exact ⟨q + 1, by omega, by omega, by go_num, HL8, HS8⟩
                  case measure => simp [intOf]; omega
                · obtain rfl : q = 64 := by omega
                  obtain ⟨cs11, hcs11⟩ := HL.out.o
                  obtain ⟨g11, p11, rfl, _, _⟩ := hcs11.form (by omega)
                  clear hcs11 HL
                  go_wp2_with fail
                  rw [← HT.out]
                  refine (split_any T _ HS3.out.f (by rw [HTS.out]; omega)).mono ?_
                  rintro e w9 ⟨v9, rfl, ho9, hb9⟩
                  rw [← HXS.out] at ho9
                  obtain ⟨A9, c9, rfl, hc9, hC9⟩ := R_open ho9 j HN.out.symm
                  have HC9 := Sh.mk hC9
                  have HS9 := Sh.mk (HS3.out.grow (grow_below hb9) (by simp) (by simp) (fun q hq => by cases hq) hgf)
                  clear ho9 hC9 hb9 HS3
                  go_wp2_with fail
                  refine (sameUnits_any A9 (some ⟨G3, 0, none⟩) c9 c3 j j xs xs _ HC9.out HS9.out.c3).mono ?_
                  rintro e w10 ⟨rfl, hd10⟩
                  rw [show decide (xs = xs) = true by simp]
                  have HB10 := Sh.mk (below_of HS9.out.b hd10.below)
                  clear hd10
                  have zz : (((j : Int) + 64) == ((j : Int) + 64)) = true := by simp
                  go_wp2
                  go_ret
                  exact ⟨rfl, HB10.out⟩
end Go.Proofs.YtfiahgahphammaaDoor
