/-
The walk of caesuralaw2.UnitsEncodes. Conditions: at most 2^44 - 16 points; the sentinels lie as listed.
-/
import Derived.Test.YtfiahgahphammaaDoorRef2
import Derived.Test.YtfiahgahphammaaDoorLists
namespace Go.Proofs.YtfiahgahphammaaDoor
open Go Go.RowKit Go.Proofs.YtfiahgahphammaaDoorW.PrintWords Go.Proofs.YtfiahgahphammaaDoorW.PrintLast Go.Proofs.YtfiahgahphammaaDoorW.PrintMore
theorem encE_in (l : List Int) : ∀ g, encE l = some g → g ∈ allS := by
  intro g h
  unfold encE at h
  split at h
  · cases h
  · cases h; decide
set_option maxRecDepth 100000 in
set_option maxHeartbeats 4000000 in
theorem encodes_any (E : Nat → Addr) (A : Option Addr) (c : Nat) (n : Nat) (l : List Int) (w : World) (hg : GS allS E w) (hr : Kd.C (Kd.int .i64) w A n l) (hs : n ≤ 17592186044400) :
    Calls Tryd.prog 3 #[.slice A n c] w fun e w' => e = .returned (.bool true) ∧ Below w.heap.size w w' := by
  have HR := Sh.mk hr
  have HN := Sh.mk hr.1
  have HG := Sh.mk hg
  clear hr hg
  go_enter Tryd.func3, Tryd.ntmps3
  go_wp2_with fail
  -- List
  refine (list_any A c n l w HR.out hs).mono ?_
  rintro e w1 ⟨G, c1, rfl, hc1, ho, hb⟩
  obtain ⟨G', e1, hG1, hG2⟩ := R_lies ho (by rw [List.length_append, HN.out]; rfl) (by omega : 0 < n + 2)
  cases e1
  have HO := Sh.mk ho
  have HB := Sh.mk hb
  have HR1 := Sh.mk (Kd.C_below HR.out hb)
  have HL := Sh.mk (show Kd.C (Kd.int .i64) w1 (some ⟨G, 0, none⟩) n l by
    have h := C_take (C_of_R ho (by rw [List.length_append, HN.out]; rfl)) n (by omega)
    rwa [List.take_append_of_le_length (by rw [HN.out]; exact Nat.le_refl _), List.take_of_length_le (by rw [HN.out]; exact Nat.le_refl _)] at h)
  clear ho hb
  go_wp2_with fail
  -- Encode
  refine (encode_any allS (by decide) E _ _ n l w1 (HG.out.below HB.out) HL.out (by omega)).mono ?_
  rintro e w2 ⟨rfl, hb⟩
  have HO2 := Sh.mk (Kd.R_below HO.out hb)
  have HR2 := Sh.mk (Kd.C_below HR1.out hb)
  have HL2 := Sh.mk (Kd.C_below HL.out hb)
  have HB2 := Sh.mk (below_of HB.out hb)
  clear HO HB HR1 HL hb
  go_wp2_with fail
  -- the document's
  refine (refEncode_any A c n l w2 HR2.out (by omega)).mono ?_
  rintro e w3 ⟨rfl, hb⟩
  have HO3 := Sh.mk (Kd.R_below HO2.out hb)
  have HR3 := Sh.mk (Kd.C_below HR2.out hb)
  have HL3 := Sh.mk (Kd.C_below HL2.out hb)
  have HB3 := Sh.mk (below_of HB2.out hb)
  clear HO2 HB2 HR2 HL2 hb
  go_wp2_with fail
  -- SameInts
  refine (sameInts_any _ _ _ _ n n l l w3 HL3.out HR3.out).mono ?_
  rintro e w4 ⟨rfl, hd⟩
  have hb := hd.below
  have HO4 := Sh.mk (Kd.R_below HO3.out hb)
  have HR4 := Sh.mk (Kd.C_below HR3.out hb)
  have HB4 := Sh.mk (below_of HB3.out hb)
  clear HO3 HB3 HR3 HL3 hb hd
  rw [show decide (l = l) = true by simp]
  go_wp2_with fail
  -- ListLeft
  refine (listLeft_any (some ⟨G, 0, none⟩) c1 n l w4 HN.out hc1 (C_of_R HO4.out (by rw [List.length_append, HN.out]; rfl)) hs).mono ?_
  rintro e w5 ⟨rfl, rfl⟩
  have hss : ((encS l).toList == (encS l).toList) = true := by simp
  have hnn : (numOf (encE l) == numOf (encE l)) = true := by simp
  go_wp2_with fail
  refine (num_any E w4 (HG.out.below HB4.out) (encE l) (encE_in l)).mono ?_
  rintro e w5 ⟨rfl, rfl⟩
  by_cases h0 : n = 0
  · subst h0
    go_wp2
    go_ret
    exact ⟨rfl, HB4.out⟩
  · have hn0 : 0 < n := by omega
    have b0 : (n == 0) = false := by simpa using h0
    have b0' : ((n : Int) == 0) = false := by simp; omega
    obtain ⟨hc0, hf0⟩ := R_ix HO4.out 0 (by omega)
    have hGw : w.heap.size ≤ G := hG1
    have hb4 := HB4.out.size
    obtain ⟨ad, e1, hx⟩ := C_at (Kd.C_below HR.out (HB4.out.setCell (p := ⟨G, 0, none⟩) (by show w.heap.size ≤ G; omega) (.int .i64 66))) 0 hn0
    cases e1
    rw [show ad.add 0 = ad from rfl] at hx
    simp only [show ((0 : Nat) : Int) = 0 from rfl] at hx
    have HB4' := HB4.out.size
    by_cases h66 : rd l 0 = 66
    · have b6 : (rd l 0 == 66) = true := by simpa using h66
      obtain ⟨hc1, hf1⟩ := R_ix (R_st HO4.out 0 66) 0 (by omega)
      go_wp2_with fail

      obtain ⟨W, hW⟩ : ∃ W, W = (w4.setCell ⟨G, 0, none⟩ (.int .i64 66)).setCell ⟨G, 0, none⟩ (.int .i64 67) := ⟨_, rfl⟩
      have HB5 := Sh.mk (show Below w.heap.size w W by rw [hW]; exact (HB4.out.setCell (p := ⟨G, 0, none⟩) (by show w.heap.size ≤ G; omega) _).setCell (p := ⟨G, 0, none⟩) (by show w.heap.size ≤ G; omega) _)
      have HO5 := Sh.mk (show Kd.R (Kd.int .i64) 3 W w.heap.size (fun _ => True) (.slice (some ⟨G, 0, none⟩) (n + 2) c1) (((l ++ [-77, -77]).set 0 66).set 0 67) by rw [hW]; exact R_st (R_st HO4.out 0 66) 0 67)
      have HL5 := Sh.mk (show Kd.C (Kd.int .i64) W (some ⟨G, 0, none⟩) n ((((l ++ [-77, -77]).set 0 66).set 0 67).take n) from C_take (C_of_R HO5.out (by have := HN.out; simp; omega)) n (by omega))
      generalize (((l ++ [-77, -77]).set 0 66).set 0 67).take n = m at HL5
      rw [← hW]
      clear hW HO5 HR4 hx hc0 hf0
      refine (refEncode_any _ c1 n m W HL5.out (by omega)).mono ?_
      rintro e w6 ⟨rfl, hb⟩
      have HL6 := Sh.mk (Kd.C_below HL5.out hb)
      have HB6 := Sh.mk (below_of HB5.out hb)
      clear HL5 HB5 hb
      go_wp2_with fail
      refine (encode_any allS (by decide) E _ _ n m w6 (HG.out.below HB6.out) HL6.out (by omega)).mono ?_
      rintro e w7 ⟨rfl, hb⟩
      have HB7 := Sh.mk (below_of HB6.out hb)
      clear HL6 HB6 hb
      have hss : ((encS m).toList == (encS m).toList) = true := by simp
      have hnn : (numOf (encE m) == numOf (encE m)) = true := by simp
      go_wp2_with fail
      refine (num_any E w7 (HG.out.below HB7.out) (encE m) (encE_in m)).mono ?_
      rintro e w8 ⟨rfl, rfl⟩
      go_wp2
      go_ret
      exact ⟨rfl, HB7.out⟩
    · have b6 : (rd l 0 == 66) = false := by simpa using h66
      go_wp2_with fail

      obtain ⟨W, hW⟩ : ∃ W, W = w4.setCell ⟨G, 0, none⟩ (.int .i64 66) := ⟨_, rfl⟩
      have HB5 := Sh.mk (show Below w.heap.size w W by rw [hW]; exact HB4.out.setCell (p := ⟨G, 0, none⟩) (by show w.heap.size ≤ G; omega) _)
      have HO5 := Sh.mk (show Kd.R (Kd.int .i64) 3 W w.heap.size (fun _ => True) (.slice (some ⟨G, 0, none⟩) (n + 2) c1) ((l ++ [-77, -77]).set 0 66) by rw [hW]; exact R_st HO4.out 0 66)
      have HL5 := Sh.mk (show Kd.C (Kd.int .i64) W (some ⟨G, 0, none⟩) n (((l ++ [-77, -77]).set 0 66).take n) from C_take (C_of_R HO5.out (by have := HN.out; simp; omega)) n (by omega))
      generalize ((l ++ [-77, -77]).set 0 66).take n = m at HL5
      rw [← hW]
      clear hW HO5 HR4 hx hc0 hf0
      refine (refEncode_any _ c1 n m W HL5.out (by omega)).mono ?_
      rintro e w6 ⟨rfl, hb⟩
      have HL6 := Sh.mk (Kd.C_below HL5.out hb)
      have HB6 := Sh.mk (below_of HB5.out hb)
      clear HL5 HB5 hb
      go_wp2_with fail
      refine (encode_any allS (by decide) E _ _ n m w6 (HG.out.below HB6.out) HL6.out (by omega)).mono ?_
      rintro e w7 ⟨rfl, hb⟩
      have HB7 := Sh.mk (below_of HB6.out hb)
      clear HL6 HB6 hb
      have hss : ((encS m).toList == (encS m).toList) = true := by simp
      have hnn : (numOf (encE m) == numOf (encE m)) = true := by simp
      go_wp2_with fail
      refine (num_any E w7 (HG.out.below HB7.out) (encE m) (encE_in m)).mono ?_
      rintro e w8 ⟨rfl, rfl⟩
      go_wp2
      go_ret
      exact ⟨rfl, HB7.out⟩
end Go.Proofs.YtfiahgahphammaaDoor
