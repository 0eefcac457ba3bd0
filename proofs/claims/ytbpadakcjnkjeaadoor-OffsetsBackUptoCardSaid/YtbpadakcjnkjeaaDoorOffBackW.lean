/-
The walk of caesuralaw26.OffsetsBack: from each edge of a text there and back, in each way; all rise. Conditions: a text of at most 2^20 bytes; the table and ErrArg read as listed.
-/
import Derived.Test.YtbpadakcjnkjeaaDoorOffKnown
namespace Go.Proofs.YtbpadakcjnkjeaaDoor
open Go Go.RowKit Go.Proofs.YtbpadakcjnkjeaaDoorW.PrintWords Go.Proofs.YtbpadakcjnkjeaaDoorW.PrintLast Go.Proofs.YtbpadakcjnkjeaaDoorW.PrintMore
set_option maxRecDepth 100000
/-- What lies in memory. -/
structure OB (w W : World) (b : Nat) (A B : Option Addr) (c n : Nat) (us : List Un) : Prop where
  bel : Below w.heap.size w W
  m : MapU W b A c us
  l : unitK.C W B n us
theorem OB.below {w W W1 : World} {b : Nat} {A B : Option Addr} {c n : Nat} {us : List Un} (h : OB w W b A B c n us) (hb : Below W.heap.size W W1) : OB w W1 b A B c n us := ⟨below_of h.bel hb, h.m.below hb, Kd.C_below h.l hb⟩
set_option maxHeartbeats 16000000 in
set_option maxRecDepth 100000 in
theorem offBack_any (E : Nat → Addr) (T : ByteArray) (w : World) (hE : GS [1] E w) (hf : FormsAt w) (hs : T.size ≤ 1048576) :
    Calls Tryd.prog 5 #[.string T] w fun e w' => e = .returned (.bool true) ∧ Below w.heap.size w w' := by
  have HE := Sh.mk hE
  have HF := Sh.mk hf
  have HCh := Sh.mk (chained_units T T.size 0)
  have hul := unitsFrom_len T T.size 0
  have HEnd := Sh.mk (end_units T)
  obtain ⟨us, hus⟩ : ∃ us, us = unitsFrom T T.size 0 := ⟨_, rfl⟩
  have HU := Sh.mk hus
  rw [← hus] at hul HCh HEnd
  obtain ⟨n, hn⟩ : ∃ n, n = us.length := ⟨_, rfl⟩
  have HN := Sh.mk hn
  rw [← hn] at hul HEnd
  clear hus hE hf hn
  go_enter Tryd.func5, Tryd.ntmps5
  go_wp2_with fail
  refine (offKnown_any E w HE.out HF.out).mono ?_
  rintro e w0 ⟨rfl, hb⟩
  have HB0 := Sh.mk hb
  clear hb
  go_wp2_with fail
  refine (offNew_any T w0 (HF.out.below HB0.out) (by omega)).mono ?_
  rintro e w1 ⟨b, v, rfl, hbb, hm, hb⟩
  rw [← HU.out] at hm
  obtain ⟨A, c, rfl, hmu⟩ := hm.open HCh.out (by rw [← HN.out]; omega)
  have HM1 := Sh.mk hmu
  have HB1 := Sh.mk (below_of HB0.out hb)
  clear hm hmu hb hbb HB0
  go_wp2_with fail
  refine (split_any T w1 (HF.out.below HB1.out) (by omega)).mono ?_
  rintro e w2 ⟨v2, rfl, ho, hb⟩
  rw [← HU.out] at ho
  obtain ⟨B, cl, rfl, hcl, hCl⟩ := R_open ho n HN.out.symm
  have HS2 := Sh.mk (show OB w w2 b A B c n us from ⟨below_of HB1.out hb, HM1.out.below hb, hCl⟩)
  clear hb ho hCl HB1 HM1
  go_wp2
  go_loopw [6, 7, 8, 9] (fun l cc wd i wr => ∃ (k : Nat), k ≤ n + 1 ∧ i = .int .i64 k ∧ wd = .int .i64 (pv us k).1 ∧ l = .int .i64 (pv us k).2.1 ∧ cc = .int .i64 (pv us k).2.2 ∧ Sh (OB w wr b A B c n us)) (fun _ _ _ i _ => n + 2 - (intOf i).toNat)
  case atStart => exact ⟨0, by omega, rfl, rfl, rfl, rfl, HS2⟩
  case round =>
    obtain ⟨k, hk, rfl, rfl, rfl, rfl, HS⟩ := hrel
    obtain ⟨⟨qW, qL, qC⟩, hq⟩ : ∃ q, q = pv us k := ⟨_, rfl⟩
    have HQ := Sh.mk hq
    by_cases hlt : k ≤ n
    · have hlt' : k ≤ us.length := by rw [← HN.out]; exact hlt
      have hpl := pv_lt us k hlt'
      obtain ⟨⟨pA, pW, pL, pC⟩, hp⟩ : ∃ p, p = plA us k := ⟨_, rfl⟩
      have HP := Sh.mk hp
      have HKB := Sh.mk (keyB_at HCh.out hlt')
      have HKW := Sh.mk (keyW_at (us := us) hlt')
      have HKL := Sh.mk (keyL_at (us := us) hlt')
      have HKN := Sh.mk (show plA us (k + 1 - 1) = (pA, pW, pL, pC) by rw [Nat.add_sub_cancel]; exact hp.symm)
      rw [← hp] at hpl HKB HKW HKL
      rw [← hq] at hpl
      rw [← hq]
      obtain ⟨hpw, hpx⟩ := hpl
      have HX := Sh.mk (show qL < pL ∨ qL = pL ∧ qC < pC from hpx)
      have HPW := Sh.mk (show qW < pW from hpw)
      have HPV := Sh.mk (show pv us (k + 1) = (pW, pL, pC) by show (plA us k).2 = _; rw [← hp])
      dsimp only at HKB HKW HKL
      clear hpx hpw hp hlt' hq HQ
      by_cases hlt2 : k < n
      · obtain ⟨ad, e1, y0, y1, y2⟩ := C_un HS.out.l k hlt2
        cases e1
        rw [start_at HCh.out (by rw [← HN.out]; exact hlt2), ← HP.out] at y1
        dsimp only at y1
        go_wp2_with fail
        clear y0 y1 y2
        have hct := unit_call E b A c us wr (HE.out.below HS.out.bel) HS.out.m pA
        rw [HKB.out, Option.map_some, show Int.ofNat k = (k : Int) from rfl] at hct
        refine hct.mono ?_
        clear hct
        rintro e w3 ⟨he, hb⟩
        obtain rfl := he
        have HS3 := Sh.mk (HS.out.below hb)
        clear hb
        go_wp2_with fail
        have hct := wide_call E b A c us w3 (HE.out.below HS3.out.bel) HS3.out.m pA
        rw [HKB.out, Option.map_some, ← HP.out] at hct
        refine hct.mono ?_
        clear hct
        rintro e w4 ⟨he, hb⟩
        obtain rfl := he
        have HS4 := Sh.mk (HS3.out.below hb)
        clear hb HS3
        go_wp2_with fail
        have hct := line_call E b A c us w4 (HE.out.below HS4.out.bel) HS4.out.m pA
        rw [HKB.out, Option.map_some, ← HP.out] at hct
        refine hct.mono ?_
        clear hct
        rintro e w5 ⟨he, hb⟩
        obtain rfl := he
        have HS5 := Sh.mk (HS4.out.below hb)
        clear hb HS4
        have hpw := HPW.out
        have hx0 : (pL < qL) = False ∧ ((pL == qL) = false ∨ (pL == qL) = true ∧ qC < pC) := by
          rcases HX.out with h | ⟨h, h2⟩
          · exact ⟨by simp; omega, Or.inl (by simp; omega)⟩
          · exact ⟨by simp; omega, Or.inr ⟨by simp; omega, h2⟩⟩
        have hx1 : ¬ pL < qL := by have := hx0.1; simpa using this
        have hx2 := hx0.2
        clear hx0
        rcases hx2 with hx2 | ⟨hx2, hx3⟩
        all_goals
          go_wp2_with fail
          have hbt := byte_call E b A c us w5 (HE.out.below HS5.out.bel) HS5.out.m (k : Int) (by omega)
          rw [if_pos ⟨by omega, by rw [← HN.out]; omega⟩, Int.toNat_natCast, ← HP.out] at hbt
          refine hbt.mono ?_
          clear hbt
          rintro e w6 ⟨he, hb⟩
          obtain rfl := he
          have HS6 := Sh.mk (HS5.out.below hb)
          clear hb HS5
          go_wp2_with fail
          have hnt := narrow_call E b A c us w6 (HE.out.below HS6.out.bel) HS6.out.m pW
          rw [HKW.out, Option.map_some, ← HP.out] at hnt
          refine hnt.mono ?_
          clear hnt
          rintro e w7 ⟨he, hb⟩
          obtain rfl := he
          have HS7 := Sh.mk (HS6.out.below hb)
          clear hb HS6
          go_wp2_with fail
          have hnt := at_call E b A c us w7 (HE.out.below HS7.out.bel) HS7.out.m pL pC
          rw [HKL.out, Option.map_some, ← HP.out] at hnt
          refine hnt.mono ?_
          clear hnt
          rintro e w8 ⟨he, hb⟩
          obtain rfl := he
          have HS8 := Sh.mk (HS7.out.below hb)
          clear hb HS7
          go_wp2
          go_roundw
          case rel => exact ⟨k + 1, by omega, by go_num, by rw [HPV.out], by rw [HPV.out], by rw [HPV.out], HS8⟩
          case measure => simp [intOf] <;> omega
      · obtain rfl : k = n := by omega
        have HSz := Sh.mk (show ((T.size : Nat) : Int) = pA by rw [← HEnd.out, ← HP.out])
        go_wp2_with fail
        rw [HSz.out]
        have hct := unit_call E b A c us wr (HE.out.below HS.out.bel) HS.out.m pA
        rw [HKB.out, Option.map_some, show Int.ofNat k = (k : Int) from rfl] at hct
        refine hct.mono ?_
        clear hct
        rintro e w3 ⟨he, hb⟩
        obtain rfl := he
        have HS3 := Sh.mk (HS.out.below hb)
        clear hb
        go_wp2_with fail
        have hct := wide_call E b A c us w3 (HE.out.below HS3.out.bel) HS3.out.m pA
        rw [HKB.out, Option.map_some, ← HP.out] at hct
        refine hct.mono ?_
        clear hct
        rintro e w4 ⟨he, hb⟩
        obtain rfl := he
        have HS4 := Sh.mk (HS3.out.below hb)
        clear hb HS3
        go_wp2_with fail
        have hct := line_call E b A c us w4 (HE.out.below HS4.out.bel) HS4.out.m pA
        rw [HKB.out, Option.map_some, ← HP.out] at hct
        refine hct.mono ?_
        clear hct
        rintro e w5 ⟨he, hb⟩
        obtain rfl := he
        have HS5 := Sh.mk (HS4.out.below hb)
        clear hb HS4
        have hpw := HPW.out
        have hx0 : (pL < qL) = False ∧ ((pL == qL) = false ∨ (pL == qL) = true ∧ qC < pC) := by
          rcases HX.out with h | ⟨h, h2⟩
          · exact ⟨by simp; omega, Or.inl (by simp; omega)⟩
          · exact ⟨by simp; omega, Or.inr ⟨by simp; omega, h2⟩⟩
        have hx1 : ¬ pL < qL := by have := hx0.1; simpa using this
        have hx2 := hx0.2
        clear hx0
        rcases hx2 with hx2 | ⟨hx2, hx3⟩
        all_goals
          go_wp2_with fail
          have hbt := byte_call E b A c us w5 (HE.out.below HS5.out.bel) HS5.out.m (k : Int) (by omega)
          rw [if_pos ⟨by omega, by rw [← HN.out]; omega⟩, Int.toNat_natCast, ← HP.out] at hbt
          refine hbt.mono ?_
          clear hbt
          rintro e w6 ⟨he, hb⟩
          obtain rfl := he
          have HS6 := Sh.mk (HS5.out.below hb)
          clear hb HS5
          go_wp2_with fail
          have hnt := narrow_call E b A c us w6 (HE.out.below HS6.out.bel) HS6.out.m pW
          rw [HKW.out, Option.map_some, ← HP.out] at hnt
          refine hnt.mono ?_
          clear hnt
          rintro e w7 ⟨he, hb⟩
          obtain rfl := he
          have HS7 := Sh.mk (HS6.out.below hb)
          clear hb HS6
          go_wp2_with fail
          have hnt := at_call E b A c us w7 (HE.out.below HS7.out.bel) HS7.out.m pL pC
          rw [HKL.out, Option.map_some, ← HP.out] at hnt
          refine hnt.mono ?_
          clear hnt
          rintro e w8 ⟨he, hb⟩
          obtain rfl := he
          have HS8 := Sh.mk (HS7.out.below hb)
          clear hb HS7
          go_wp2
          go_roundw
          case rel => exact ⟨k + 1, by omega, by go_num, by rw [HPV.out], by rw [HPV.out], by rw [HPV.out], HS8⟩
          case measure => simp [intOf] <;> omega
    · obtain rfl : k = n + 1 := by omega
      have HPn := Sh.mk (show pv us (n + 1) = (plA us n).2 from rfl)
      obtain ⟨⟨pA, pW, pL, pC⟩, hp⟩ : ∃ p, p = plA us n := ⟨_, rfl⟩
      have HP := Sh.mk hp
      have hqe : qW = pW ∧ qL = pL := by rw [HPn.out, ← hp] at hq; cases hq; exact ⟨rfl, rfl⟩
      obtain ⟨rfl, rfl⟩ := hqe
      have HSz := Sh.mk (show pA = ((T.size : Nat) : Int) by rw [← HEnd.out, ← hp])
      rw [← hq]
      clear hp hq HQ
      go_wp2_with fail
      have hct := count_any b A c us wr HS.out.m
      rw [← HN.out, ← HP.out, HSz.out] at hct
      refine hct.mono ?_
      clear hct
      rintro e w3 ⟨rfl, hb⟩
      have HS3 := Sh.mk (HS.out.below hb)
      clear hb
      go_wp2
      go_ret
      exact ⟨rfl, HS3.out.bel⟩
end Go.Proofs.YtbpadakcjnkjeaaDoor
