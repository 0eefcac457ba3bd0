/-
The walk of caesuralaw1.CodecBack: what was put is read again, in its order, and then nothing is left. Conditions: steps of bulk at most 2^20; the table and the refusals read as listed.
-/
import Derived.Test.YtlhnajgckdeedaaDoorPartsW
import Derived.Test.YtlhnajgckdeedaaDoorPutLaw
import Derived.Deep.QuietTactic
import Derived.BigQuiet
namespace Go.Proofs.YtlhnajgckdeedaaDoor
open Go Go.RowKit Go.Proofs.YtlhnajgckdeedaaDoorW.PrintWords Go.Proofs.YtlhnajgckdeedaaDoorW.PrintLast Go.Proofs.YtlhnajgckdeedaaDoorW.PrintMore
theorem Fx.belowAt {z B b : Nat} {w w1 : World} (h : Fx B b w w1) (h1 : z ≤ B) (h2 : z ≤ b) : Below z w w1 := ⟨h.os, h.tape, h.output, h.size, fun i hi => h.block i (by omega) (by omega)⟩
theorem below_up {z : Nat} {w w1 w2 : World} (h : Below z w w1) (hz : z ≤ w.heap.size) (k : Below w1.heap.size w1 w2) : Below z w w2 := h.trans (k.mono (by have := h.size; omega))
theorem below_gr {z : Nat} {w w1 w2 : World} {r : Option Nat} (h : Below z w w1) (hz : z ≤ w.heap.size) (k : w1.grownBy w2 r) (hr : ∀ i, r = some i → z ≤ i) : Below z w w2 := h.grown k (by have := h.size; omega) hr
theorem below_fx {z B b : Nat} {w w1 w2 : World} (h : Below z w w1) (k : Fx B b w1 w2) (h1 : z ≤ B) (h2 : z ≤ b) : Below z w w2 := h.trans (k.belowAt h1 h2)
theorem below_al {z : Nat} {w w1 : World} (h : Below z w w1) (hz : z ≤ w.heap.size) (o : Obj) : Below z w (w1.alloc o) := h.alloc (by have := h.size; omega) o
abbrev stepK : Kd Stp := Kd.pair Kd.bool (Kd.pair (Kd.int .i64) Kd.string)
theorem C_step {w : World} {A : Option Addr} {n : Nat} {xs : List Stp} (h : stepK.C w A n xs) (i : Nat) (hi : i < n) : ∃ ad, A = some ad ∧ w.cell? (ad.add (i * 3)) = some (.bool (rdS xs i).1) ∧ w.cell? ⟨(ad.add (i * 3)).block, (ad.add (i * 3)).off + 1, none⟩ = some (.int .i64 (rdS xs i).2.1) ∧ w.cell? ⟨(ad.add (i * 3)).block, (ad.add (i * 3)).off + 2, none⟩ = some (.string (rdS xs i).2.2) := by
  obtain ⟨h1, h2, h3⟩ := h
  obtain ⟨ad, e, hc⟩ := h3 (by omega)
  have hl : i < xs.length := by omega
  obtain ⟨c, hs, hp, hcell⟩ := hc i _ (List.getElem?_eq_getElem hl)
  obtain ⟨c0, c1, rfl, hc0, c2, c3, rfl, hc2, hc3⟩ := hp
  have e0 : rdS xs i = xs[i] := by simp [rdS, List.getD, hl]
  rw [e0]
  have k0 : c0 = [.bool xs[i].1] := hc0
  have k2 : c2 = [.int .i64 xs[i].2.1] := hc2
  have k3 : c3 = [.string xs[i].2.2] := hc3
  subst k0 k2 k3
  exact ⟨ad, e, hcell 0 _ rfl, by rw [← add_field _ _ 1 (by omega)]; exact hcell 1 _ rfl, by rw [← add_field _ _ 2 (by omega)]; exact hcell 2 _ rfl⟩
set_option maxHeartbeats 16000000 in
set_option maxRecDepth 100000 in
theorem backc_any (E : Nat → Addr) (A A2 : Option Addr) (c c2 n n2 : Nat) (P : ByteArray) (xs : List Stp) (w : World) (hT : CrcAt w) (hE : GS [1, 3, 4, 10] E w) (hC : stepK.C w A n xs)
    (hN : ∀ s ∈ xs, -9223372036854775808 ≤ s.2.1 ∧ s.2.1 ≤ 9223372036854775807) (hS : ∀ s ∈ xs, s.2.2.size ≤ 1048576) (hP : ∀ k, k ≤ n → (puts xs k).length ≤ 16777216) :
    Calls Tryd.prog 10 #[.agg #[.slice A n c, .string P, .slice A2 n2 c2]] w fun e w' => e = .returned (.bool true) ∧ Below w.heap.size w w' := by
  have HL := Sh.mk hC.1
  have hn := hC.2.1
  have HE := Sh.mk hE
  have HN := Sh.mk hN
  have HSz := Sh.mk hS
  have HPl := Sh.mk hP
  obtain ⟨W0, hW0⟩ : ∃ W0, W0 = w.alloc (.cells #[.slice A n c, .string P, .slice A2 n2 c2] 62) := ⟨_, rfl⟩
  have HX := Sh.mk (show Core w.heap.size #[.slice A n c, .string P, .slice A2 n2 c2] 62 w W0 by rw [hW0]; exact Core.new _ _ _ hT)
  have HC := Sh.mk (show stepK.C W0 A n xs by rw [hW0]; exact Kd.C_below hC ((Below.refl _ _).alloc (Nat.le_refl _) _))
  have HW := Sh.mk hW0
  obtain ⟨g, hg⟩ : ∃ g, g = w.heap.size := ⟨_, rfl⟩
  have HG := Sh.mk hg
  clear hg hT hW0 hE hC hN hS hP
  rw [← HG.out] at HX
  go_enter Tryd.func10, Tryd.ntmps10
  go_wp2_with fail
  rw [← HW.out, ← HG.out]
  clear HW
  refine (known_any W0 HX.out.tab).mono ?_
  rintro e w1 ⟨rfl, hb1⟩
  have HX1 := Sh.mk (HX.out.below hb1)
  have HC1 := Sh.mk (Kd.C_below HC.out hb1)
  have HB1 := Sh.mk (Below.refl w1.heap.size w1)
  clear HX hb1 HC
  obtain ⟨x0, x1, x2, _⟩ := S3.of HX1.out
  go_wp2_with fail
  refine (newWriter_any w1).mono ?_
  rintro e w2 ⟨rfl, hw2⟩
  obtain ⟨q, hq⟩ : ∃ q, q = w1.heap.size := ⟨_, rfl⟩
  have HQ := Sh.mk hq
  have HW2 := Sh.mk (show Wr w2 w1.heap.size q (.slice none 0 0) [] by rw [hw2, hq]; exact Wr.new _ _)
  have HB2 := Sh.mk (show Below w1.heap.size w1 w2 by rw [hw2]; exact (Below.refl _ _).alloc (Nat.le_refl _) _)
  have hq1 : w1.heap.size ≤ q := by omega
  rw [← HQ.out]
  clear hw2 hq x0 x1 x2
  go_wp2_with fail
  go_loopw [3, 5, 6] (fun ok i _ wr => ∃ (k : Nat) (v : Value), k ≤ n ∧ ok = .bool true ∧ i = .int .i64 k ∧ Sh (Wr wr w1.heap.size q v (puts xs k)) ∧ Sh (Below w1.heap.size w1 wr)) (fun _ i _ _ => n - (intOf i).toNat)
  case atStart => exact ⟨0, _, by omega, rfl, rfl, HW2, HB2⟩
  case round =>
    obtain ⟨k, v, hk, rfl, rfl, HWk, HBk⟩ := hrel
    obtain ⟨x0, x1, x2, _⟩ := S3.of (HX1.out.below HBk.out)
    have hsz : w1.heap.size ≤ wr.heap.size := HBk.out.size
    by_cases hlt : k < n
    · obtain ⟨ad, e1, y0, y1, y2⟩ := C_step (Kd.C_below HC1.out HBk.out) k hlt
      cases e1
      have hmem := rdS_mem xs k (by rw [HL.out]; exact hlt)
      have hNk := HN.out _ hmem
      have hSk := HSz.out _ hmem
      have hpk := HPl.out k hk
      have hpu := puts_succ xs k (by rw [HL.out]; exact hlt)
      obtain ⟨s, hs⟩ : ∃ s, s = rdS xs k := ⟨_, rfl⟩
      rw [← hs] at y0 y1 y2 hNk hSk hpu
      have HPu := Sh.mk hpu
      have HSk := Sh.mk hs
      clear hs hpu hmem
      obtain ⟨b, N, t⟩ := s
      simp only [] at y0 y1 y2 hNk hSk
      cases b with
      | true =>
        go_wp2_with fail
        refine (wtext_any w1.heap.size q v (puts xs k) t wr HWk.out (by omega) hsz).mono ?_
        rintro e w3 ⟨rfl, v3, hw3, hf3⟩
        have HW3 := Sh.mk hw3
        have HB3 := Sh.mk (below_fx HBk.out hf3 (Nat.le_refl _) hq1)
        clear hw3 hf3 x0 x1 x2 y0 y1 y2
        go_wp2
        go_roundw
        case rel => exact ⟨k + 1, v3, by omega, rfl, by go_num, ⟨by rw [HPu.out]; exact HW3.out⟩, HB3⟩
        case measure => simp [intOf]; omega
      | false =>
        go_wp2_with fail
        by_cases hN0 : N < 0
        · have hN1 : decide ((0 : Int) ≤ N) = false := by simp; omega
          have HEk := Sh.mk (HE.out.below (HX1.out.below HBk.out).bel)
          refine (wnum_neg E q N wr (HEk.out.sub (by decide)) hN0).mono ?_
          rintro e w3 ⟨rfl, rfl⟩
          go_wp2
          go_quiet (fail)
          go_wp2
          go_roundw
          case rel => exact ⟨k + 1, v, by omega, rfl, by go_num, ⟨by rw [HPu.out, putS, if_neg (by simp), if_neg (by simp; omega), List.append_nil]; exact HWk.out.below (pw_below_drewN (Below.refl _ _) _)⟩, ⟨pw_below_drewN HBk.out _⟩⟩
          case measure => simp [intOf]; omega
        · have hN1 : decide ((0 : Int) ≤ N) = true := by simp; omega
          obtain ⟨m, rfl⟩ := Int.eq_ofNat_of_zero_le (show 0 ≤ N by omega)
          refine (wnum_any w1.heap.size q v (puts xs k) m wr HWk.out (by omega) (by omega) hsz).mono ?_
          rintro e w3 ⟨rfl, v3, hw3, hf3⟩
          have HW3 := Sh.mk hw3
          have HB3 := Sh.mk (below_fx HBk.out hf3 (Nat.le_refl _) hq1)
          clear hw3 hf3 x0 x1 x2 y0 y1 y2
          obtain ⟨x0, x1, x2, _⟩ := S3.of (HX1.out.below HB3.out)
          obtain ⟨ad', e1, y0, y1, y2⟩ := C_step (Kd.C_below HC1.out HB3.out) k hlt
          cases e1
          rw [← HSk.out] at y0 y1 y2
          simp only [] at y0 y1 y2
          go_wp2
          go_quiet (fail)
          go_wp2
          go_roundw
          case rel => exact ⟨k + 1, v3, by omega, rfl, by go_num, ⟨by rw [HPu.out, putS, if_neg (by simp), if_pos (by omega)]; exact HW3.out.below (pw_below_drewN (Below.refl _ _) _)⟩, ⟨pw_below_drewN HB3.out _⟩⟩
          case measure => simp [intOf]; omega
    · obtain rfl : k = n := by omega
      have hpk := HPl.out k hk
      go_wp2_with fail
      refine (wbytes_any w1.heap.size q v (puts xs k) wr HWk.out (by omega)).mono ?_
      rintro e w3 ⟨⟨ga, ca, rfl, hga1, hga2, hca, hCa⟩, hwa, hgra⟩
      have HB3 := Sh.mk (below_gr HBk.out (Nat.le_refl _) hgra (fun i e => (HWk.out.own.lt i e).1))
      have HCa := Sh.mk hCa
      clear hCa hwa hgra x0 x1 x2
      go_wp2_with fail
      refine (newReader_any (some ⟨ga, 0, none⟩) ca (puts xs k).length (bytesOf ⟨(puts xs k).toArray⟩) w3 HCa.out (by omega)).mono ?_
      rintro e w4 ⟨r, A4, c4, rfl, hr, hrd, hb4⟩
      have hbi : bytesOf ⟨(puts xs k).toArray⟩ = ints (puts xs k) := rfl
      rw [hbi] at hrd
      have HR4 := Sh.mk hrd
      have HB4 := Sh.mk (below_up HB3.out (Nat.le_refl _) hb4)
      have hr1 : w1.heap.size ≤ r := by have := HB3.out.size; omega
      clear hbi hrd hb4 HCa HB3 hr
      go_wp2_with fail
      go_loopw [8, 9, 10, 11, 12, 13] (fun i _ _ _ _ _ wx => ∃ (j : Nat), j ≤ k ∧ i = .int .i64 j ∧ Sh (Rdr wx w3.heap.size r A4 c4 (ints (puts xs k)) (puts xs j).length) ∧ Sh (Below w1.heap.size w1 wx)) (fun i _ _ _ _ _ _ => k - (intOf i).toNat)
      case atStart => exact ⟨0, by omega, rfl, HR4, HB4⟩
      case round =>
        obtain ⟨j, hj, rfl, HRj, HBj⟩ := hrel
        obtain ⟨x0, x1, x2, _⟩ := S3.of (HX1.out.below HBj.out)
        have hszj : w1.heap.size ≤ wr.heap.size := HBj.out.size
        by_cases hltj : j < k
        · obtain ⟨ad, e1, y0, y1, y2⟩ := C_step (Kd.C_below HC1.out HBj.out) j hltj
          cases e1
          have hmem := rdS_mem xs j (by rw [HL.out]; exact hltj)
          have hNk := HN.out _ hmem
          have hSk := HSz.out _ hmem
          obtain ⟨s, hs⟩ : ∃ s, s = rdS xs j := ⟨_, rfl⟩
          rw [← hs] at y0 y1 y2 hNk hSk
          have HSk := Sh.mk hs
          clear hs hmem
          obtain ⟨b, N, t⟩ := s
          simp only [] at y0 y1 y2 hNk hSk
          obtain ⟨d, hd⟩ : ∃ d, d = wr.heap.size := ⟨_, rfl⟩
          have hrd0 : r ≠ d := by have := HRj.out.lt; omega
          have hd1 : w1.heap.size ≤ d := by omega
          have HD := Sh.mk hd
          clear hd
          cases b with
          | true =>
            obtain ⟨w5, hw5⟩ : ∃ w5, w5 = wr.alloc (.cells #[.bool true, .int .i64 N, .string t] 67) := ⟨_, rfl⟩
            have hb5 : Below wr.heap.size wr w5 := by rw [hw5]; exact (Below.refl _ _).alloc (Nat.le_refl _) _
            have HD5 := Sh.mk (show w5.heap[d]? = some (.cells #[.bool true, .int .i64 N, .string t] 67 (0, 0)) by rw [hw5, HD.out]; exact blk_new _ _)
            have HR5 := Sh.mk (HRj.out.below hb5)
            have HB5 := Sh.mk (below_up HBj.out (Nat.le_refl _) hb5)
            have HW5 := Sh.mk hw5
            clear hw5 hb5
            go_wp2_with fail
            rw [← HW5.out, ← HD.out]
            clear HW5 x0 x1 x2 y0 y1 y2
            have HE5 := Sh.mk (HE.out.below (HX1.out.below HB5.out).bel)
            have hread : rtext (t.size : Int) (ints (puts xs k)) (puts xs j).length = .ok (ints t.data.toList, (puts xs (j + 1)).length) := by
              obtain ⟨rest, hrest⟩ := puts_split xs j (by rw [HL.out]; exact hltj)
              rw [HL.out] at hrest
              have hp : putS (rdS xs j) = vnum t.size ++ t.data.toList := by rw [← HSk.out]; rfl
              rw [hrest, puts_succ xs j (by rw [HL.out]; exact hltj), hp, read_text _ _ _ (by omega)]
              simp only [List.length_append]
            refine (rtext_any E w3.heap.size r A4 c4 (ints (puts xs k)) (puts xs j).length (t.size : Int) w5 (HE5.out.sub (by decide)) HR5.out (ints_byte _)).mono ?_
            rw [hread]
            rintro e w6 ⟨rfl, hrd, hgr⟩
            rw [strOf_ints]
            have HR6 := Sh.mk hrd
            have HB6 := Sh.mk (below_gr HB5.out (Nat.le_refl _) hgr (fun i e => by cases e; exact hr1))
            have HD6 := Sh.mk ((hgr.block d (blk_lt HD5.out) (fun e => hrd0 (Option.some.inj e).symm)).trans HD5.out)
            clear hread hrd hgr HR5 HB5 HD5 HE5
            obtain ⟨x0, x1, x2, _⟩ := S3.of (HX1.out.below HB6.out)
            have z0 := blk_cell HD6.out 0
            have z1 := blk_cell HD6.out 1
            have z2 := blk_cell HD6.out 2
            simp only [List.getElem?_toArray, List.getElem?_cons_zero, List.getElem?_cons_succ] at z0 z1 z2
            have hss : (t.toList == t.toList) = true := by simp
            go_wp2
            go_roundw
            case rel => exact ⟨j + 1, by omega, by go_num, HR6, HB6⟩
            case measure => simp [intOf]; omega
          | false =>
            by_cases hN0 : N < 0
            · have hN1 : decide ((0 : Int) ≤ N) = false := by simp; omega
              have hb5 : Below wr.heap.size wr (wr.alloc (.cells #[.bool false, .int .i64 N, .string t] 67)) := (Below.refl _ _).alloc (Nat.le_refl _) _
              have HR5 := Sh.mk (HRj.out.below hb5)
              have HB5 := Sh.mk (below_up HBj.out (Nat.le_refl _) hb5)
              have hpu : puts xs (j + 1) = puts xs j := by rw [puts_succ xs j (by rw [HL.out]; exact hltj), ← HSk.out, putS, if_neg (by simp), if_neg (by simp; omega), List.append_nil]
              have HPu := Sh.mk hpu
              clear hb5 hpu
              go_wp2
              go_roundw
              case rel => exact ⟨j + 1, by omega, by go_num, by rw [HPu.out]; exact HR5, HB5⟩
              case measure => simp [intOf]; omega
            · have hN1 : decide ((0 : Int) ≤ N) = true := by simp; omega
              obtain ⟨m, rfl⟩ := Int.eq_ofNat_of_zero_le (show 0 ≤ N by omega)
              obtain ⟨w5, hw5⟩ : ∃ w5, w5 = wr.alloc (.cells #[.bool false, .int .i64 (m : Int), .string t] 67) := ⟨_, rfl⟩
              have hb5 : Below wr.heap.size wr w5 := by rw [hw5]; exact (Below.refl _ _).alloc (Nat.le_refl _) _
              have HD5 := Sh.mk (show w5.heap[d]? = some (.cells #[.bool false, .int .i64 (m : Int), .string t] 67 (0, 0)) by rw [hw5, HD.out]; exact blk_new _ _)
              have HR5 := Sh.mk (HRj.out.below hb5)
              have HB5 := Sh.mk (below_up HBj.out (Nat.le_refl _) hb5)
              have HW5 := Sh.mk hw5
              clear hw5 hb5
              go_wp2_with fail
              rw [← HW5.out, ← HD.out]
              clear HW5 x0 x1 x2 y0 y1 y2
              have HE5 := Sh.mk (HE.out.below (HX1.out.below HB5.out).bel)
              have hpu : puts xs (j + 1) = puts xs j ++ vnum m := by rw [puts_succ xs j (by rw [HL.out]; exact hltj), ← HSk.out, putS, if_neg (by simp), if_pos (by simp)]; rfl
              have hread : rnum 9 0 0 ((ints (puts xs k)).drop (puts xs j).length) = .ok (m, (vnum m).length) := by
                obtain ⟨rest, hrest⟩ := puts_split xs j (by rw [HL.out]; exact hltj)
                rw [HL.out] at hrest
                have hp : putS (rdS xs j) = vnum m := by rw [← HSk.out, putS, if_neg (by simp), if_pos (by simp)]; rfl
                rw [hrest, hp, read_num _ _ _ (by omega)]
              refine (rnum_any E w3.heap.size r A4 c4 (ints (puts xs k)) (puts xs j).length w5 (HE5.out.sub (by decide)) HR5.out (ints_byte _)).mono ?_
              rw [hread]
              rintro e w6 ⟨rfl, hrd, hgr, _⟩
              rw [← List.length_append, ← hpu] at hrd
              have HR6 := Sh.mk hrd
              have HB6 := Sh.mk (below_gr HB5.out (Nat.le_refl _) hgr (fun i e => by cases e; exact hr1))
              have HD6 := Sh.mk ((hgr.block d (blk_lt HD5.out) (fun e => hrd0 (Option.some.inj e).symm)).trans HD5.out)
              clear hread hrd hgr HR5 HB5 HD5 HE5 hpu
              obtain ⟨x0, x1, x2, _⟩ := S3.of (HX1.out.below HB6.out)
              have z0 := blk_cell HD6.out 0
              have z1 := blk_cell HD6.out 1
              have z2 := blk_cell HD6.out 2
              simp only [List.getElem?_toArray, List.getElem?_cons_zero, List.getElem?_cons_succ] at z0 z1 z2
              have hmm : ((m : Int) == (m : Int)) = true := by simp
              have hmm2 : ((m : Int) != (m : Int)) = false := by simp
              go_wp2
              go_roundw
              case rel => exact ⟨j + 1, by omega, by go_num, HR6, HB6⟩
              case measure => simp [intOf]; omega
        · obtain rfl : j = k := by omega
          go_wp2_with fail
          refine (left_any w3.heap.size r A4 c4 (ints (puts xs j)) (puts xs j).length wr HRj.out).mono ?_
          rintro e w7 ⟨rfl, hdr⟩
          have HB7 := Sh.mk (below_up HBj.out (Nat.le_refl _) hdr.below)
          rw [ints_len, Nat.sub_self]
          go_wp2
          go_ret
          exact ⟨rfl, (HX1.out.below HB7.out).bel⟩
end Go.Proofs.YtlhnajgckdeedaaDoor
