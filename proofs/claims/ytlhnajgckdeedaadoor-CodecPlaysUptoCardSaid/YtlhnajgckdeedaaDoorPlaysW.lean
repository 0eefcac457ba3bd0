/-
The walk of caesuralaw1.CodecPlays: a writer and a reader answer as the document's, over any bytes. Conditions: steps of bulk at most 2^20, a text of at most 2^20 bytes; the refusals read as listed.
-/
import Derived.Test.YtlhnajgckdeedaaDoorPlaysS
namespace Go.Proofs.YtlhnajgckdeedaaDoor
open Go Go.RowKit Go.Proofs.YtlhnajgckdeedaaDoorW.PrintWords Go.Proofs.YtlhnajgckdeedaaDoorW.PrintLast Go.Proofs.YtlhnajgckdeedaaDoorW.PrintMore
theorem quiet_dr {P : Program} {f : FuncId} {args : Array Value} {w : World} {n : Nat} {v : Value}
    (h : Calls P f args (w.drewN n) fun e w' => e = .returned v ∧ Drawn0 (w.drewN n) w') : Calls P f args (w.drewN n) fun e w'' => e = .returned v ∧ ∃ m, w'' = w.drewN m := by
  refine h.mono ?_
  rintro e w' ⟨rfl, ⟨m, rfl⟩⟩
  exact ⟨rfl, n + m, by simp⟩
theorem C_head {w : World} {A : Option Addr} {n m : Nat} {xs ys : List Int} (h : (Kd.int .u8).C w A n xs) (hm : m ≤ n) (e : xs.take m = ys) : (Kd.int .u8).C w A m ys := e ▸ C_take h m hm
theorem fulls_all (m : Int) (xs : List Int) (n : Nat) (h : xs.length = n) : fulls m n xs = List.replicate n m := by unfold fulls; rw [List.drop_eq_nil_of_le (by omega), List.append_nil]
theorem rtext_err (most : Int) (xs : List Int) (pos g : Nat) (h : rtext most xs pos = .error g) : g ∈ allS := by
  unfold rtext at h
  cases hr : rnum 9 0 0 (xs.drop pos) with
  | error g' =>
    rw [hr] at h
    have := rnum_err _ _ _ _ _ hr
    simp only [Except.error.injEq] at h
    rcases this with e | e <;> (rw [← h, e]; decide)
  | ok xu =>
    obtain ⟨x, u⟩ := xu
    rw [hr] at h
    simp only at h
    split at h
    · simp only [Except.error.injEq] at h; rw [← h]; decide
    · split at h
      · simp only [Except.error.injEq] at h; rw [← h]; decide
      · cases h
theorem rnum_errS {xs : List Int} {g : Nat} (h : rnum 9 0 0 xs = .error g) : g ∈ allS := by
  rcases rnum_err _ _ _ _ _ h with rfl | rfl <;> decide
set_option maxHeartbeats 16000000 in
set_option maxRecDepth 100000 in
theorem plays_any (E : Nat → Addr) (A A2 : Option Addr) (c c2 n n2 : Nat) (P : ByteArray) (xs ys : List Stp) (w : World) (hE : GS allS E w) (hC : stepK.C w A n xs) (hD : stepK.C w A2 n2 ys) (hs : P.size ≤ 1048576)
    (hN : ∀ s ∈ xs, -9223372036854775808 ≤ s.2.1 ∧ s.2.1 ≤ 9223372036854775807) (hS : ∀ s ∈ xs, s.2.2.size ≤ 1048576) (hP : ∀ k, k ≤ n → (puts xs k).length ≤ 16777216) :
    Calls Tryd.prog 9 #[.agg #[.slice A n c, .string P, .slice A2 n2 c2]] w fun e w' => e = .returned (.bool true) ∧ Below w.heap.size w w' := by
  have HL := Sh.mk (bytesOf_length P)
  have hn2 := hD.2.1
  have HE := Sh.mk hE
  have HN := Sh.mk hN
  have HSz := Sh.mk hS
  have HPl := Sh.mk hP
  obtain ⟨W0, hW0⟩ : ∃ W0, W0 = w.alloc (.cells #[.slice A n c, .string P, .slice A2 n2 c2] ScT) := ⟨_, rfl⟩
  have hb0 : Below w.heap.size w W0 := by rw [hW0]; exact (Below.refl _ _).alloc (Nat.le_refl _) _
  obtain ⟨g, hg⟩ : ∃ g, g = w.heap.size := ⟨_, rfl⟩
  have HX0 := Sh.mk (show W0.heap[g]? = some (.cells #[.slice A n c, .string P, .slice A2 n2 c2] ScT (0, 0)) by rw [hW0, hg]; exact blk_new _ _)
  have HB0 := Sh.mk hb0
  have HC0 := Sh.mk (Kd.C_below hC hb0)
  have HD := Sh.mk hD
  have HW := Sh.mk hW0
  have HG := Sh.mk hg
  clear hg hW0 hE hC hD hN hS hP hb0
  go_enter Tryd.func9, Tryd.ntmps9
  go_wp2_with fail
  rw [← HW.out, ← HG.out]
  clear HW
  have x0 := blk_cell HX0.out 0
  have x1 := blk_cell HX0.out 1
  simp only [List.getElem?_toArray, List.getElem?_cons_zero, List.getElem?_cons_succ] at x0 x1
  go_wp2_with fail
  -- writes
  refine (writes_any E A c n xs W0 (HE.out.below HB0.out) HC0.out HN.out HSz.out HPl.out).mono ?_
  rintro e w1 ⟨rfl, hb⟩
  have HX1 := Sh.mk (blk_below HX0.out hb)
  have HB1 := Sh.mk (below_of HB0.out hb)
  clear HX0 HB0 hb x0 x1 HC0 HN HSz HPl
  have x1 := blk_cell HX1.out 1
  simp only [List.getElem?_toArray, List.getElem?_cons_zero, List.getElem?_cons_succ] at x1
  go_wp2_with fail
  -- spare
  refine (spare_any P w1 (by omega)).mono ?_
  rintro e w2 ⟨v, rfl, ho, hb⟩
  have hlen : (bytesOf P ++ marks 64).length = P.size + 64 := by rw [List.length_append, HL.out, marks_len]
  obtain ⟨A3, c3, rfl, hc3, hC3⟩ := R_open ho (P.size + 64) hlen
  obtain ⟨G, rfl, hGb, hGl⟩ := R_lies ho hlen (by omega)
  have HO := Sh.mk (Kd.R_lower ho HB1.out.size)
  have HC3 := Sh.mk hC3
  have HX2 := Sh.mk (blk_below HX1.out hb)
  have HB2 := Sh.mk (below_of HB1.out hb)
  have HE3 := Sh.mk hlen
  clear HX1 HB1 hb x1 ho hC3 hlen
  have x1 := blk_cell HX2.out 1
  simp only [List.getElem?_toArray, List.getElem?_cons_zero, List.getElem?_cons_succ] at x1
  go_wp2_with fail
  -- the reader
  refine (newReader_any (some ⟨G, 0, none⟩) c3 P.size (bytesOf P) w2 (C_head HC3.out (by omega) (by rw [← HL.out]; exact List.take_left)) (by omega)).mono ?_
  rintro e w3 ⟨r1, A4, c4, rfl, hr1, ha, hb⟩
  have HO3 := Sh.mk (Kd.R_below HO.out hb)
  have HC4 := Sh.mk (Kd.C_below HC3.out hb)
  have HX3 := Sh.mk (blk_below HX2.out hb)
  have HB3 := Sh.mk (below_of HB2.out hb)
  have HA3 := Sh.mk ha
  have hs2 := HB2.out.size
  have hs3 := HB3.out.size
  have hs23 := hb.size
  clear HO HC3 HX2 HB2 hb x1 ha
  have x1 := blk_cell HX3.out 1
  simp only [List.getElem?_toArray, List.getElem?_cons_zero, List.getElem?_cons_succ] at x1
  go_wp2_with fail
  -- the document's reader
  refine (bytes_C P w3 (by omega)).mono ?_
  rintro e w4 ⟨A5, c5, rfl, hC5, hb⟩
  have HO4 := Sh.mk (Kd.R_below HO3.out hb)
  have HC5 := Sh.mk (Kd.C_below HC4.out hb)
  have HX4 := Sh.mk (blk_below HX3.out hb)
  have HB4 := Sh.mk (below_of HB3.out hb)
  have HA4 := Sh.mk (HA3.out.below hb)
  have hs34 := hb.size
  clear HO3 HC4 HX3 HB3 hb x1 HA3
  go_wp2_with fail
  refine (refNewReader_any A5 c5 P.size (bytesOf P) w4 hC5.out (by omega)).mono ?_
  rintro e w5 ⟨r2, A6, c6, rfl, hr2, hbb, hb⟩
  have HS5 := Sh.mk (show PS w w5 g #[.slice A n c, .string P, .slice A2 n2 c2] G c3 (P.size + 64) (bytesOf P ++ marks 64) w2.heap.size r1 A4 c4 w4.heap.size r2 A6 c6 (bytesOf P) 0 0 from
    ⟨below_of HB4.out hb, blk_below HX4.out hb, Kd.R_below HO4.out hb, HE3.out, HA4.out.below hb, hbb, by omega, by omega, by omega, by omega⟩)
  have HC6 := Sh.mk (Kd.C_below HC5.out hb)
  clear HO4 HC5 HX4 HB4 HA4 hb hbb hC5
  have x1 := HS5.out.cells 1
  simp only [List.getElem?_toArray, List.getElem?_cons_zero, List.getElem?_cons_succ] at x1
  go_wp2_with fail
  -- kept
  refine (kept_any P (some ⟨G, 0, none⟩) c3 w5 (by omega) HC6.out).mono ?_
  rintro e w6 ⟨rfl, hd⟩
  have HS6 := Sh.mk (HS5.out.below hd.below)
  clear HS5 HC6 hd x1
  go_wp2
  go_loopw [8] (fun i wr => ∃ k : Nat, k ≤ P.size + 64 ∧ i = .int .i64 k ∧ Sh (PS w wr g #[.slice A n c, .string P, .slice A2 n2 c2] G c3 (P.size + 64) (fulls 7 k (bytesOf P ++ marks 64)) w2.heap.size r1 A4 c4 w4.heap.size r2 A6 c6 (bytesOf P) 0 0)) (fun i _ => P.size + 64 - (intOf i).toNat)
  case atStart => exact ⟨0, by omega, rfl, ⟨by rw [show fulls 7 0 (bytesOf P ++ marks 64) = bytesOf P ++ marks 64 from rfl]; exact HS6.out⟩⟩
  case round =>
    obtain ⟨k, hk, rfl, HS⟩ := hrel
    by_cases hlt : k < P.size + 64
    · obtain ⟨hc0, hf0⟩ := R_ix HS.out.row k hlt
      go_wp2
      go_roundw
      case rel => exact ⟨k + 1, by omega, by go_num, ⟨by rw [← fulls_set _ _ _ (by rw [HE3.out]; exact hlt)]; exact HS.out.store k 7⟩⟩
      case measure => simp [intOf]; omega
    · obtain rfl : k = P.size + 64 := by omega
      rw [fulls_all _ _ _ HE3.out] at HS
      clear HS6
      obtain ⟨sv, hsv⟩ : ∃ sv : List Int, sv = List.replicate (P.size + 64) 7 := ⟨_, rfl⟩
      have hsl : sv.length = P.size + 64 := by rw [hsv, List.length_replicate]
      have hst : sv.take P.size = List.replicate P.size 7 := by rw [hsv, List.take_replicate, Nat.min_eq_left (by omega)]
      have hsr : ∀ k, k < P.size + 64 → rd sv (k : Int) = 7 := fun k hk => by rw [hsv]; simp [rd, List.getD, hk]
      rw [← hsv] at HS
      have HV := Sh.mk hsr
      clear hsv hsr
      have x1 := HS.out.cells 1
      simp only [List.getElem?_toArray, List.getElem?_cons_zero, List.getElem?_cons_succ] at x1
      go_wp2_with fail
      -- a reader of the same list
      refine (newReader_any (some ⟨G, 0, none⟩) c3 P.size (List.replicate P.size 7) wr (C_head (C_of_R HS.out.row hsl) (by omega) hst) (by omega)).mono ?_
      rintro e w7 ⟨r3, A7, c7, rfl, hr3, ha, hb⟩
      have HS7 := Sh.mk (HS.out.below hb)
      have HA7 := Sh.mk ha
      have hne3 : r1 ≠ r3 := by have := HS.out.a.lt; omega
      have hr30 : w.heap.size ≤ r3 := by have := HS.out.bel.size; omega
      clear ha hb HS hst x1 hr3
      obtain ⟨sev, hsev⟩ : ∃ sev : List Int, sev = List.replicate P.size 7 := ⟨_, rfl⟩
      have hsel : sev.length = P.size := by rw [hsev, List.length_replicate]
      rw [← hsev] at HA7
      have HSV := Sh.mk hsev
      have HBy := Sh.mk (ints_byte P.data.toList)
      rw [← ints_bytes] at HBy
      have hby7 : ∀ x ∈ sev, (0 : Int) ≤ x ∧ x < 256 := fun x hx => by rw [hsev] at hx; have := List.eq_of_mem_replicate hx; omega
      have HB7 := Sh.mk hby7
      have hleft : ∀ m, Calls Tryd.prog 25 #[.pointer (some ⟨r3, 0, none⟩)] (w7.drewN m) fun e w' => e = .returned (.int .i64 (P.size : Int)) ∧ ∃ q, w' = w7.drewN q := by
        intro m
        have := quiet_dr (left_any wr.heap.size r3 A7 c7 sev 0 (w7.drewN m) (HA7.out.below (pw_below_drewN (Below.refl _ _) m)))
        rw [hsel, Nat.sub_zero] at this
        exact this
      have HLf := Sh.mk hleft
      clear hsev hby7 hleft
      have x1 := HS7.out.cells 1
      simp only [List.getElem?_toArray, List.getElem?_cons_zero, List.getElem?_cons_succ] at x1
      have hpn : ((P.size : Int) != (P.size : Int)) = false := by simp
      go_wp2
      go_quiet ((go_at_call 25; exact HLf.out _))
      rename_i nq
      have hb : Below w7.heap.size w7 (w7.drewN nq) := pw_below_drewN (Below.refl _ _) nq
      have HS8 := Sh.mk (HS7.out.below hb)
      have HA8 := Sh.mk (HA7.out.below hb)
      clear x1 HLf HS7 HA7
      generalize w7.drewN nq = w8 at HS8 HA8 ⊢
      clear hb hpn
      have HE8 := Sh.mk (HE.out.below HS8.out.bel)
      go_wp2_with fail
      refine (rnum_any E wr.heap.size r3 A7 c7 sev 0 w8 (HE8.out.sub (by decide)) HA8.out HB7.out).mono ?_
      by_cases hp0 : P.size = 0
      · have hread : rnum 9 0 0 (sev.drop 0) = .error 4 := by
          rw [HSV.out, hp0]
          rfl
        rw [hread]
        rintro e w9 ⟨rfl, hd⟩
        have HS9 := Sh.mk (HS8.out.below hd.below)
        have hp1 : decide (0 < P.size) = false := decide_eq_false (by omega)
        clear hd hread HS8 HA8 HE8 HSV HB7 hp0 hne3 hr30 hsel
        have x1 := HS9.out.cells 1
        simp only [List.getElem?_toArray, List.getElem?_cons_zero, List.getElem?_cons_succ] at x1
        go_wp2
        go_loopw [12, 13, 14, 15, 16, 17, 18, 19, 20] (fun i _ _ _ _ _ _ _ _ wr => ∃ (k pos : Nat), k ≤ n2 ∧ i = .int .i64 k ∧ Sh (PS w wr g #[.slice A n c, .string P, .slice A2 n2 c2] G c3 (P.size + 64) sv w2.heap.size r1 A4 c4 w4.heap.size r2 A6 c6 (bytesOf P) pos pos)) (fun i _ _ _ _ _ _ _ _ _ => n2 - (intOf i).toNat)
        case atStart => exact ⟨0, 0, by omega, rfl, HS9⟩
        case round =>
          obtain ⟨k, pos, hk, rfl, HSr⟩ := hrel
          have x2 := HSr.out.cells 2
          simp only [List.getElem?_toArray, List.getElem?_cons_zero, List.getElem?_cons_succ] at x2
          by_cases hlt : k < n2
          · obtain ⟨ad, e1, y0, y1, _⟩ := C_step (Kd.C_below HD.out HSr.out.bel) k hlt
            cases e1
            have HEk := Sh.mk (HE.out.below HSr.out.bel)
            obtain ⟨s, hs⟩ : ∃ s, s = rdS ys k := ⟨_, rfl⟩
            rw [← hs] at y0 y1
            have HSk := Sh.mk hs
            clear hs
            obtain ⟨b, N, t⟩ := s
            simp only [] at y0 y1
            cases b with
            | true =>
              go_wp2_with fail
              refine (rtext_any E w2.heap.size r1 A4 c4 (bytesOf P) pos N wr (HEk.out.sub (by decide)) HSr.out.a HBy.out).mono ?_
              cases hr : rtext N (bytesOf P) pos with
              | ok lq =>
                obtain ⟨l, q⟩ := lq
                rintro e wc ⟨rfl, hrd, hgr⟩
                have HSc := Sh.mk (HSr.out.moveA hrd hgr)
                clear hrd hgr x2 y0 y1 HEk
                have x2 := HSc.out.cells 2
                simp only [List.getElem?_toArray, List.getElem?_cons_zero, List.getElem?_cons_succ] at x2
                obtain ⟨ad', e3, y0, y1, _⟩ := C_step (Kd.C_below HD.out HSc.out.bel) k hlt
                cases e3
                rw [← HSk.out] at y0 y1
                simp only [] at y0 y1
                go_wp2_with fail
                refine (refRtext_any w4.heap.size r2 A6 c6 (bytesOf P) pos N wc HSc.out.b HBy.out).mono ?_
                rw [hr]
                rintro e wd ⟨rfl, hrd, hgr⟩
                have HSd := Sh.mk (HSc.out.moveB hrd hgr)
                clear hrd hgr x2 y0 y1 hr HSc HSr
                have hss : ((strOfNums l).toList == (strOfNums l).toList) = true := by simp
                go_wp2_with fail
                refine (num_nil wd).mono ?_
                rintro e wn ⟨rfl, rfl⟩
                go_wp2_with fail
                refine (left_any w2.heap.size r1 A4 c4 (bytesOf P) q wd HSd.out.a).mono ?_
                rintro e wa ⟨rfl, hda⟩
                have HSa := Sh.mk (HSd.out.below hda.below)
                clear hda
                go_wp2_with fail
                refine (refLeft_any w4.heap.size r2 A6 c6 (bytesOf P) q wa HSa.out.b).mono ?_
                rintro e wb ⟨rfl, hdb⟩
                have HSb := Sh.mk (HSa.out.below hdb.below)
                clear hdb HSa
                obtain ⟨mm, hmm⟩ : ∃ mm, mm = (bytesOf P).length - q := ⟨_, rfl⟩
                rw [← hmm]
                clear hmm
                have hmn : ((mm : Int) != (mm : Int)) = false := by simp
                go_wp2
                go_roundw
                case rel => exact ⟨k + 1, q, by omega, by go_num, HSb⟩
                case measure => simp [intOf]; omega
              | error gg =>
                rintro e wc ⟨rfl, hrd, hgr⟩
                have HSc := Sh.mk (HSr.out.moveA hrd hgr)
                clear hrd hgr x2 y0 y1 HEk
                have x2 := HSc.out.cells 2
                simp only [List.getElem?_toArray, List.getElem?_cons_zero, List.getElem?_cons_succ] at x2
                obtain ⟨ad', e3, y0, y1, _⟩ := C_step (Kd.C_below HD.out HSc.out.bel) k hlt
                cases e3
                rw [← HSk.out] at y0 y1
                simp only [] at y0 y1
                go_wp2_with fail
                refine (refRtext_any w4.heap.size r2 A6 c6 (bytesOf P) pos N wc HSc.out.b HBy.out).mono ?_
                rw [hr]
                rintro e wd ⟨rfl, hrd, hgr⟩
                have HSd := Sh.mk (HSc.out.moveB hrd hgr)
                clear hrd hgr x2 y0 y1 HSc HSr
                have hgS : gg ∈ allS := rtext_err N (bytesOf P) pos gg hr
                have HEn := Sh.mk (HE.out.below HSd.out.bel)
                have hnum : Calls Tryd.prog 32 #[.iface 104 (.pointer (some (E gg)))] wd fun e' w' => e' = .returned (.int .i64 (gg : Int)) ∧ wd = w' := num_any E wd HEn.out (some gg) (by rintro _ ⟨⟩; exact hgS)
                have hgn : ((gg : Int) != (gg : Int)) = false := by simp
                go_wp2_with fail
                refine hnum.mono ?_
                rintro e wn ⟨rfl, rfl⟩
                clear hnum HEn
                go_wp2_with fail
                refine (left_any w2.heap.size r1 A4 c4 (bytesOf P) pos wd HSd.out.a).mono ?_
                rintro e wa ⟨rfl, hda⟩
                have HSa := Sh.mk (HSd.out.below hda.below)
                clear hda
                go_wp2_with fail
                refine (refLeft_any w4.heap.size r2 A6 c6 (bytesOf P) pos wa HSa.out.b).mono ?_
                rintro e wb ⟨rfl, hdb⟩
                have HSb := Sh.mk (HSa.out.below hdb.below)
                clear hdb HSa
                obtain ⟨mm, hmm⟩ : ∃ mm, mm = (bytesOf P).length - pos := ⟨_, rfl⟩
                rw [← hmm]
                clear hmm
                have hmn : ((mm : Int) != (mm : Int)) = false := by simp
                go_wp2
                go_roundw
                case rel => exact ⟨k + 1, pos, by omega, by go_num, HSb⟩
                case measure => simp [intOf]; omega
            | false =>
              go_wp2_with fail
              refine (rnum_any E w2.heap.size r1 A4 c4 (bytesOf P) pos wr (HEk.out.sub (by decide)) HSr.out.a HBy.out).mono ?_
              cases hr : rnum 9 0 0 ((bytesOf P).drop pos) with
              | ok lq =>
                obtain ⟨x, u⟩ := lq
                rintro e wc ⟨rfl, hrd, hgr, _⟩
                have HSc := Sh.mk (HSr.out.moveA hrd hgr)
                clear hrd hgr x2 y0 y1 HEk
                go_wp2_with fail
                refine (refRnum_any w4.heap.size r2 A6 c6 (bytesOf P) pos wc HSc.out.b HBy.out).mono ?_
                rw [hr]
                rintro e wd ⟨rfl, hrd, hgr, _⟩
                have HSd := Sh.mk (HSc.out.moveB hrd hgr)
                clear hrd hgr hr HSc HSr
                obtain ⟨q, hq⟩ : ∃ q, q = pos + u := ⟨_, rfl⟩
                rw [← hq] at HSd
                clear hq
                have hxx : ((x : Int) != (x : Int)) = false := by simp
                go_wp2_with fail
                refine (num_nil wd).mono ?_
                rintro e wn ⟨rfl, rfl⟩
                go_wp2_with fail
                refine (left_any w2.heap.size r1 A4 c4 (bytesOf P) q wd HSd.out.a).mono ?_
                rintro e wa ⟨rfl, hda⟩
                have HSa := Sh.mk (HSd.out.below hda.below)
                clear hda
                go_wp2_with fail
                refine (refLeft_any w4.heap.size r2 A6 c6 (bytesOf P) q wa HSa.out.b).mono ?_
                rintro e wb ⟨rfl, hdb⟩
                have HSb := Sh.mk (HSa.out.below hdb.below)
                clear hdb HSa
                obtain ⟨mm, hmm⟩ : ∃ mm, mm = (bytesOf P).length - q := ⟨_, rfl⟩
                rw [← hmm]
                clear hmm
                have hmn : ((mm : Int) != (mm : Int)) = false := by simp
                go_wp2
                go_roundw
                case rel => exact ⟨k + 1, q, by omega, by go_num, HSb⟩
                case measure => simp [intOf]; omega
              | error gg =>
                rintro e wc ⟨rfl, hd⟩
                have HSc := Sh.mk (HSr.out.below hd.below)
                clear hd x2 y0 y1 HEk
                go_wp2_with fail
                refine (refRnum_any w4.heap.size r2 A6 c6 (bytesOf P) pos wc HSc.out.b HBy.out).mono ?_
                rw [hr]
                rintro e wd ⟨rfl, hd⟩
                have HSd := Sh.mk (HSc.out.below hd.below)
                clear hd HSc HSr
                have hgS : gg ∈ allS := rnum_errS hr
                have HEn := Sh.mk (HE.out.below HSd.out.bel)
                have hnum : Calls Tryd.prog 32 #[.iface 104 (.pointer (some (E gg)))] wd fun e' w' => e' = .returned (.int .i64 (gg : Int)) ∧ wd = w' := num_any E wd HEn.out (some gg) (by rintro _ ⟨⟩; exact hgS)
                have hgn : ((gg : Int) != (gg : Int)) = false := by simp
                go_wp2_with fail
                refine hnum.mono ?_
                rintro e wn ⟨rfl, rfl⟩
                clear hnum HEn
                go_wp2_with fail
                refine (left_any w2.heap.size r1 A4 c4 (bytesOf P) pos wd HSd.out.a).mono ?_
                rintro e wa ⟨rfl, hda⟩
                have HSa := Sh.mk (HSd.out.below hda.below)
                clear hda
                go_wp2_with fail
                refine (refLeft_any w4.heap.size r2 A6 c6 (bytesOf P) pos wa HSa.out.b).mono ?_
                rintro e wb ⟨rfl, hdb⟩
                have HSb := Sh.mk (HSa.out.below hdb.below)
                clear hdb HSa
                obtain ⟨mm, hmm⟩ : ∃ mm, mm = (bytesOf P).length - pos := ⟨_, rfl⟩
                rw [← hmm]
                clear hmm
                have hmn : ((mm : Int) != (mm : Int)) = false := by simp
                go_wp2
                go_roundw
                case rel => exact ⟨k + 1, pos, by omega, by go_num, HSb⟩
                case measure => simp [intOf]; omega
          · obtain rfl : k = n2 := by omega
            go_wp2
            go_loop [21] (fun i => ∃ j : Nat, j ≤ P.size + 64 ∧ i = .int .i64 j) (fun i => P.size + 64 - (intOf i).toNat)
            case atStart => exact ⟨0, by omega, rfl⟩
            case round =>
              obtain ⟨j, hj, rfl⟩ := hrel
              by_cases hltj : j < P.size + 64
              · obtain ⟨hc0, hf0⟩ := R_ix HSr.out.row j hltj
                rw [HV.out j hltj] at hc0
                go_wp2
                go_round
                case rel => exact ⟨j + 1, by omega, by go_num⟩
                case measure => simp [intOf]; omega
              · obtain rfl : j = P.size + 64 := by omega
                go_wp2
                go_ret
                exact ⟨rfl, HSr.out.bel⟩
      · have hread : rnum 9 0 0 (sev.drop 0) = .ok (7, 1) := by
          rw [HSV.out]
          obtain ⟨z, hz⟩ : ∃ z, P.size = z + 1 := ⟨P.size - 1, by omega⟩
          rw [hz, List.replicate_succ, List.drop_zero, rnum, if_pos (by omega), if_neg (by omega)]
          rfl
        rw [hread]
        rintro e w9 ⟨rfl, hrd, hgr, _⟩
        have HS9 := Sh.mk (HS8.out.other HA8.out hne3 hr30 hgr)
        have hp1 : decide (0 < P.size) = true := decide_eq_true (by omega)
        clear hrd hgr hread HS8 HA8 HE8 HSV HB7 hp0 hne3 hr30 hsel
        have x1 := HS9.out.cells 1
        simp only [List.getElem?_toArray, List.getElem?_cons_zero, List.getElem?_cons_succ] at x1
        go_wp2
        go_loopw [12, 13, 14, 15, 16, 17, 18, 19, 20] (fun i _ _ _ _ _ _ _ _ wr => ∃ (k pos : Nat), k ≤ n2 ∧ i = .int .i64 k ∧ Sh (PS w wr g #[.slice A n c, .string P, .slice A2 n2 c2] G c3 (P.size + 64) sv w2.heap.size r1 A4 c4 w4.heap.size r2 A6 c6 (bytesOf P) pos pos)) (fun i _ _ _ _ _ _ _ _ _ => n2 - (intOf i).toNat)
        case atStart => exact ⟨0, 0, by omega, rfl, HS9⟩
        case round =>
          obtain ⟨k, pos, hk, rfl, HSr⟩ := hrel
          have x2 := HSr.out.cells 2
          simp only [List.getElem?_toArray, List.getElem?_cons_zero, List.getElem?_cons_succ] at x2
          by_cases hlt : k < n2
          · obtain ⟨ad, e1, y0, y1, _⟩ := C_step (Kd.C_below HD.out HSr.out.bel) k hlt
            cases e1
            have HEk := Sh.mk (HE.out.below HSr.out.bel)
            obtain ⟨s, hs⟩ : ∃ s, s = rdS ys k := ⟨_, rfl⟩
            rw [← hs] at y0 y1
            have HSk := Sh.mk hs
            clear hs
            obtain ⟨b, N, t⟩ := s
            simp only [] at y0 y1
            cases b with
            | true =>
              go_wp2_with fail
              refine (rtext_any E w2.heap.size r1 A4 c4 (bytesOf P) pos N wr (HEk.out.sub (by decide)) HSr.out.a HBy.out).mono ?_
              cases hr : rtext N (bytesOf P) pos with
              | ok lq =>
                obtain ⟨l, q⟩ := lq
                rintro e wc ⟨rfl, hrd, hgr⟩
                have HSc := Sh.mk (HSr.out.moveA hrd hgr)
                clear hrd hgr x2 y0 y1 HEk
                have x2 := HSc.out.cells 2
                simp only [List.getElem?_toArray, List.getElem?_cons_zero, List.getElem?_cons_succ] at x2
                obtain ⟨ad', e3, y0, y1, _⟩ := C_step (Kd.C_below HD.out HSc.out.bel) k hlt
                cases e3
                rw [← HSk.out] at y0 y1
                simp only [] at y0 y1
                go_wp2_with fail
                refine (refRtext_any w4.heap.size r2 A6 c6 (bytesOf P) pos N wc HSc.out.b HBy.out).mono ?_
                rw [hr]
                rintro e wd ⟨rfl, hrd, hgr⟩
                have HSd := Sh.mk (HSc.out.moveB hrd hgr)
                clear hrd hgr x2 y0 y1 hr HSc HSr
                have hss : ((strOfNums l).toList == (strOfNums l).toList) = true := by simp
                go_wp2_with fail
                refine (num_nil wd).mono ?_
                rintro e wn ⟨rfl, rfl⟩
                go_wp2_with fail
                refine (left_any w2.heap.size r1 A4 c4 (bytesOf P) q wd HSd.out.a).mono ?_
                rintro e wa ⟨rfl, hda⟩
                have HSa := Sh.mk (HSd.out.below hda.below)
                clear hda
                go_wp2_with fail
                refine (refLeft_any w4.heap.size r2 A6 c6 (bytesOf P) q wa HSa.out.b).mono ?_
                rintro e wb ⟨rfl, hdb⟩
                have HSb := Sh.mk (HSa.out.below hdb.below)
                clear hdb HSa
                obtain ⟨mm, hmm⟩ : ∃ mm, mm = (bytesOf P).length - q := ⟨_, rfl⟩
                rw [← hmm]
                clear hmm
                have hmn : ((mm : Int) != (mm : Int)) = false := by simp
                go_wp2
                go_roundw
                case rel => exact ⟨k + 1, q, by omega, by go_num, HSb⟩
                case measure => simp [intOf]; omega
              | error gg =>
                rintro e wc ⟨rfl, hrd, hgr⟩
                have HSc := Sh.mk (HSr.out.moveA hrd hgr)
                clear hrd hgr x2 y0 y1 HEk
                have x2 := HSc.out.cells 2
                simp only [List.getElem?_toArray, List.getElem?_cons_zero, List.getElem?_cons_succ] at x2
                obtain ⟨ad', e3, y0, y1, _⟩ := C_step (Kd.C_below HD.out HSc.out.bel) k hlt
                cases e3
                rw [← HSk.out] at y0 y1
                simp only [] at y0 y1
                go_wp2_with fail
                refine (refRtext_any w4.heap.size r2 A6 c6 (bytesOf P) pos N wc HSc.out.b HBy.out).mono ?_
                rw [hr]
                rintro e wd ⟨rfl, hrd, hgr⟩
                have HSd := Sh.mk (HSc.out.moveB hrd hgr)
                clear hrd hgr x2 y0 y1 HSc HSr
                have hgS : gg ∈ allS := rtext_err N (bytesOf P) pos gg hr
                have HEn := Sh.mk (HE.out.below HSd.out.bel)
                have hnum : Calls Tryd.prog 32 #[.iface 104 (.pointer (some (E gg)))] wd fun e' w' => e' = .returned (.int .i64 (gg : Int)) ∧ wd = w' := num_any E wd HEn.out (some gg) (by rintro _ ⟨⟩; exact hgS)
                have hgn : ((gg : Int) != (gg : Int)) = false := by simp
                go_wp2_with fail
                refine hnum.mono ?_
                rintro e wn ⟨rfl, rfl⟩
                clear hnum HEn
                go_wp2_with fail
                refine (left_any w2.heap.size r1 A4 c4 (bytesOf P) pos wd HSd.out.a).mono ?_
                rintro e wa ⟨rfl, hda⟩
                have HSa := Sh.mk (HSd.out.below hda.below)
                clear hda
                go_wp2_with fail
                refine (refLeft_any w4.heap.size r2 A6 c6 (bytesOf P) pos wa HSa.out.b).mono ?_
                rintro e wb ⟨rfl, hdb⟩
                have HSb := Sh.mk (HSa.out.below hdb.below)
                clear hdb HSa
                obtain ⟨mm, hmm⟩ : ∃ mm, mm = (bytesOf P).length - pos := ⟨_, rfl⟩
                rw [← hmm]
                clear hmm
                have hmn : ((mm : Int) != (mm : Int)) = false := by simp
                go_wp2
                go_roundw
                case rel => exact ⟨k + 1, pos, by omega, by go_num, HSb⟩
                case measure => simp [intOf]; omega
            | false =>
              go_wp2_with fail
              refine (rnum_any E w2.heap.size r1 A4 c4 (bytesOf P) pos wr (HEk.out.sub (by decide)) HSr.out.a HBy.out).mono ?_
              cases hr : rnum 9 0 0 ((bytesOf P).drop pos) with
              | ok lq =>
                obtain ⟨x, u⟩ := lq
                rintro e wc ⟨rfl, hrd, hgr, _⟩
                have HSc := Sh.mk (HSr.out.moveA hrd hgr)
                clear hrd hgr x2 y0 y1 HEk
                go_wp2_with fail
                refine (refRnum_any w4.heap.size r2 A6 c6 (bytesOf P) pos wc HSc.out.b HBy.out).mono ?_
                rw [hr]
                rintro e wd ⟨rfl, hrd, hgr, _⟩
                have HSd := Sh.mk (HSc.out.moveB hrd hgr)
                clear hrd hgr hr HSc HSr
                obtain ⟨q, hq⟩ : ∃ q, q = pos + u := ⟨_, rfl⟩
                rw [← hq] at HSd
                clear hq
                have hxx : ((x : Int) != (x : Int)) = false := by simp
                go_wp2_with fail
                refine (num_nil wd).mono ?_
                rintro e wn ⟨rfl, rfl⟩
                go_wp2_with fail
                refine (left_any w2.heap.size r1 A4 c4 (bytesOf P) q wd HSd.out.a).mono ?_
                rintro e wa ⟨rfl, hda⟩
                have HSa := Sh.mk (HSd.out.below hda.below)
                clear hda
                go_wp2_with fail
                refine (refLeft_any w4.heap.size r2 A6 c6 (bytesOf P) q wa HSa.out.b).mono ?_
                rintro e wb ⟨rfl, hdb⟩
                have HSb := Sh.mk (HSa.out.below hdb.below)
                clear hdb HSa
                obtain ⟨mm, hmm⟩ : ∃ mm, mm = (bytesOf P).length - q := ⟨_, rfl⟩
                rw [← hmm]
                clear hmm
                have hmn : ((mm : Int) != (mm : Int)) = false := by simp
                go_wp2
                go_roundw
                case rel => exact ⟨k + 1, q, by omega, by go_num, HSb⟩
                case measure => simp [intOf]; omega
              | error gg =>
                rintro e wc ⟨rfl, hd⟩
                have HSc := Sh.mk (HSr.out.below hd.below)
                clear hd x2 y0 y1 HEk
                go_wp2_with fail
                refine (refRnum_any w4.heap.size r2 A6 c6 (bytesOf P) pos wc HSc.out.b HBy.out).mono ?_
                rw [hr]
                rintro e wd ⟨rfl, hd⟩
                have HSd := Sh.mk (HSc.out.below hd.below)
                clear hd HSc HSr
                have hgS : gg ∈ allS := rnum_errS hr
                have HEn := Sh.mk (HE.out.below HSd.out.bel)
                have hnum : Calls Tryd.prog 32 #[.iface 104 (.pointer (some (E gg)))] wd fun e' w' => e' = .returned (.int .i64 (gg : Int)) ∧ wd = w' := num_any E wd HEn.out (some gg) (by rintro _ ⟨⟩; exact hgS)
                have hgn : ((gg : Int) != (gg : Int)) = false := by simp
                go_wp2_with fail
                refine hnum.mono ?_
                rintro e wn ⟨rfl, rfl⟩
                clear hnum HEn
                go_wp2_with fail
                refine (left_any w2.heap.size r1 A4 c4 (bytesOf P) pos wd HSd.out.a).mono ?_
                rintro e wa ⟨rfl, hda⟩
                have HSa := Sh.mk (HSd.out.below hda.below)
                clear hda
                go_wp2_with fail
                refine (refLeft_any w4.heap.size r2 A6 c6 (bytesOf P) pos wa HSa.out.b).mono ?_
                rintro e wb ⟨rfl, hdb⟩
                have HSb := Sh.mk (HSa.out.below hdb.below)
                clear hdb HSa
                obtain ⟨mm, hmm⟩ : ∃ mm, mm = (bytesOf P).length - pos := ⟨_, rfl⟩
                rw [← hmm]
                clear hmm
                have hmn : ((mm : Int) != (mm : Int)) = false := by simp
                go_wp2
                go_roundw
                case rel => exact ⟨k + 1, pos, by omega, by go_num, HSb⟩
                case measure => simp [intOf]; omega
          · obtain rfl : k = n2 := by omega
            go_wp2
            go_loop [21] (fun i => ∃ j : Nat, j ≤ P.size + 64 ∧ i = .int .i64 j) (fun i => P.size + 64 - (intOf i).toNat)
            case atStart => exact ⟨0, by omega, rfl⟩
            case round =>
              obtain ⟨j, hj, rfl⟩ := hrel
              by_cases hltj : j < P.size + 64
              · obtain ⟨hc0, hf0⟩ := R_ix HSr.out.row j hltj
                rw [HV.out j hltj] at hc0
                go_wp2
                go_round
                case rel => exact ⟨j + 1, by omega, by go_num⟩
                case measure => simp [intOf]; omega
              · obtain rfl : j = P.size + 64 := by omega
                go_wp2
                go_ret
                exact ⟨rfl, HSr.out.bel⟩
end Go.Proofs.YtlhnajgckdeedaaDoor
