/-
The document's Next and Prev, walked. Conditions: the text's size.
-/
import Derived.Test.YtfiahgahphammaaDoorStepsW2
namespace Go.Proofs.YtfiahgahphammaaDoor
open Go Go.RowKit Go.Proofs.YtfiahgahphammaaDoorW.PrintWords Go.Proofs.YtfiahgahphammaaDoorW.PrintLast Go.Proofs.YtfiahgahphammaaDoorW.PrintMore
set_option maxRecDepth 100000 in
set_option maxHeartbeats 8000000 in
theorem refNext_any (s : ByteArray) (a : Int) (w : World) (hs : s.size ≤ 5000000000000) :
    Calls Tryd.prog 25 #[.string s, .int .i64 a] w fun e w' => e = .returned (.tuple #[uVal (oU ((unitsFrom s s.size 0).find? (fun u => u.2.1 == a))), .bool ((unitsFrom s s.size 0).find? (fun u => u.2.1 == a)).isSome]) ∧ Below w.heap.size w w' := by
  obtain ⟨W0, hW0⟩ : ∃ W0, W0 = w.alloc (.cells #[.int .i64 0, .int .i64 0, .int .i64 0] 39) := ⟨_, rfl⟩
  obtain ⟨g, hg⟩ : ∃ g, g = w.heap.size := ⟨_, rfl⟩
  have HG := Sh.mk hg
  have HB := Sh.mk (show Below w.heap.size w W0 by rw [hW0]; exact (Below.refl _ _).alloc (Nat.le_refl _) _)
  have HX := Sh.mk (show uBox g W0 by rw [hW0, hg]; exact blk_new _ _)
  have HW := Sh.mk hW0
  have hgw : w.heap.size ≤ g := by omega
  clear hW0 hg
  obtain ⟨xs, hxs⟩ : ∃ xs, xs = unitsFrom s s.size 0 := ⟨_, rfl⟩
  rw [← hxs]
  have HXS := Sh.mk hxs
  clear hxs
  go_enter Tryd.func25, Tryd.ntmps25
  go_wp2_with fail
  rw [← HW.out, ← HG.out]
  refine (refSplit_any s W0 hs).mono ?_
  rintro e w1 ⟨v, rfl, ho, hb1⟩
  rw [← HXS.out] at ho
  obtain ⟨n, hn⟩ : ∃ n, xs.length = n := ⟨_, rfl⟩
  have hn64 : n ≤ 9223372036854775807 := by obtain ⟨_, _, _, _, hC⟩ := R_open ho n hn; exact C_len hC
  obtain ⟨A, c, rfl, hc, hC⟩ := R_open ho n hn
  have HC := Sh.mk hC
  have HX1 := Sh.mk (blk_below HX.out hb1)
  have HB1 := Sh.mk (below_of HB.out hb1)
  have HN := Sh.mk hn
  clear ho hb1 hC HX HB hn HW HG
  go_wp2
  go_loop [7] (fun i => ∃ k : Nat, k ≤ n ∧ i = .int .i64 k ∧ Sh ((xs.take k).find? (fun u => u.2.1 == a) = none)) (fun i => n - (intOf i).toNat)
  case atStart => exact ⟨0, by omega, rfl, ⟨rfl⟩⟩
  case round =>
    obtain ⟨k, hk, rfl, HF⟩ := hrel
    by_cases hlt : k < n
    · obtain ⟨ad, e1, x0, x1, x2⟩ := C_unit HC.out k hlt
      cases e1
      have HS := Sh.mk (find_snoc (by rw [HN.out]; exact hlt) HF.out)
      obtain ⟨u, hu⟩ : ∃ u, u = rdU xs k := ⟨_, rfl⟩
      rw [← hu] at x0 x1 x2 HS
      clear hu HF
      obtain ⟨u0, u1, u2⟩ := u
      simp only [] at x0 x1 x2 HS
      by_cases h : u1 = a
      · subst h
        have z : (u1 == u1) = true := by simp
        have HR := Sh.mk (HS.out.1 z)
        clear HS
        go_wp2_with (first | (refine wpList_store_row rfl 39 (.tmp 4) (.tmp 26) rfl g #[.int .i64 u0, .int .i64 u1, .int .i64 u2] rfl rfl 39 #[.int .i64 0, .int .i64 0, .int .i64 0] HX1.out (by kernel_rfl) rfl (oneU _ _ _) ?_))
        have hR := setRow_heap w1 g _ #[.int .i64 u0, .int .i64 u1, .int .i64 u2] _ _ HX1.out
        (try simp only [Exit.inBlock, Exit.then])
        refine bodyPost_ret (results_cell_row2 rfl _ _ g 39 _ (0, 0) _ rfl hR Tryd.underlying39 rfl (by kernel_rfl)) rfl ?_
        exact ⟨by rw [HR.out]; rfl, below_setRow HB1.out hgw _⟩
      · have z : (u1 == a) = false := by simpa using h
        have HR := Sh.mk (HS.out.2 z)
        clear HS h
        go_wp2
        go_round
        case rel => exact ⟨k + 1, by omega, by go_num, HR⟩
        case measure => simp [intOf]; omega
    · have HR := Sh.mk (show xs.find? (fun u => u.2.1 == a) = none by have h := HF.out; rwa [List.take_of_length_le (by have := HN.out; omega)] at h)
      clear HF
      go_wp2_with (first | (refine wpList_store_row rfl 39 (.tmp 4) (.tmp 27) rfl g #[.int .i64 0, .int .i64 0, .int .i64 0] rfl rfl 39 #[.int .i64 0, .int .i64 0, .int .i64 0] HX1.out (by kernel_rfl) rfl (oneU _ _ _) ?_))
      have hR := setRow_heap w1 g _ #[.int .i64 0, .int .i64 0, .int .i64 0] _ _ HX1.out
      (try simp only [Exit.inBlock, Exit.then])
      refine bodyPost_ret (results_cell_row2 rfl _ _ g 39 _ (0, 0) _ rfl hR Tryd.underlying39 rfl (by kernel_rfl)) rfl ?_
      exact ⟨by rw [HR.out]; rfl, below_setRow HB1.out hgw _⟩
set_option maxRecDepth 100000 in
set_option maxHeartbeats 8000000 in
theorem refPrev_any (s : ByteArray) (a : Int) (w : World) (hs : s.size ≤ 5000000000000) :
    Calls Tryd.prog 27 #[.string s, .int .i64 a] w fun e w' => e = .returned (.tuple #[uVal (oU ((unitsFrom s s.size 0).find? (fun u => u.2.2 == a))), .bool ((unitsFrom s s.size 0).find? (fun u => u.2.2 == a)).isSome]) ∧ Below w.heap.size w w' := by
  obtain ⟨W0, hW0⟩ : ∃ W0, W0 = w.alloc (.cells #[.int .i64 0, .int .i64 0, .int .i64 0] 39) := ⟨_, rfl⟩
  obtain ⟨g, hg⟩ : ∃ g, g = w.heap.size := ⟨_, rfl⟩
  have HG := Sh.mk hg
  have HB := Sh.mk (show Below w.heap.size w W0 by rw [hW0]; exact (Below.refl _ _).alloc (Nat.le_refl _) _)
  have HX := Sh.mk (show uBox g W0 by rw [hW0, hg]; exact blk_new _ _)
  have HW := Sh.mk hW0
  have hgw : w.heap.size ≤ g := by omega
  clear hW0 hg
  obtain ⟨xs, hxs⟩ : ∃ xs, xs = unitsFrom s s.size 0 := ⟨_, rfl⟩
  rw [← hxs]
  have HXS := Sh.mk hxs
  clear hxs
  go_enter Tryd.func27, Tryd.ntmps27
  go_wp2_with fail
  rw [← HW.out, ← HG.out]
  refine (refSplit_any s W0 hs).mono ?_
  rintro e w1 ⟨v, rfl, ho, hb1⟩
  rw [← HXS.out] at ho
  obtain ⟨n, hn⟩ : ∃ n, xs.length = n := ⟨_, rfl⟩
  have hn64 : n ≤ 9223372036854775807 := by obtain ⟨_, _, _, _, hC⟩ := R_open ho n hn; exact C_len hC
  obtain ⟨A, c, rfl, hc, hC⟩ := R_open ho n hn
  have HC := Sh.mk hC
  have HX1 := Sh.mk (blk_below HX.out hb1)
  have HB1 := Sh.mk (below_of HB.out hb1)
  have HN := Sh.mk hn
  clear ho hb1 hC HX HB hn HW HG
  go_wp2
  go_loop [7] (fun i => ∃ k : Nat, k ≤ n ∧ i = .int .i64 k ∧ Sh ((xs.take k).find? (fun u => u.2.2 == a) = none)) (fun i => n - (intOf i).toNat)
  case atStart => exact ⟨0, by omega, rfl, ⟨rfl⟩⟩
  case round =>
    obtain ⟨k, hk, rfl, HF⟩ := hrel
    by_cases hlt : k < n
    · obtain ⟨ad, e1, x0, x1, x2⟩ := C_unit HC.out k hlt
      cases e1
      have HS := Sh.mk (find_snoc (by rw [HN.out]; exact hlt) HF.out)
      obtain ⟨u, hu⟩ : ∃ u, u = rdU xs k := ⟨_, rfl⟩
      rw [← hu] at x0 x1 x2 HS
      clear hu HF
      obtain ⟨u0, u1, u2⟩ := u
      simp only [] at x0 x1 x2 HS
      by_cases h : u2 = a
      · subst h
        have z : (u2 == u2) = true := by simp
        have HR := Sh.mk (HS.out.1 z)
        clear HS
        go_wp2_with (first | (refine wpList_store_row rfl 39 (.tmp 4) (.tmp 26) rfl g #[.int .i64 u0, .int .i64 u1, .int .i64 u2] rfl rfl 39 #[.int .i64 0, .int .i64 0, .int .i64 0] HX1.out (by kernel_rfl) rfl (oneU _ _ _) ?_))
        have hR := setRow_heap w1 g _ #[.int .i64 u0, .int .i64 u1, .int .i64 u2] _ _ HX1.out
        (try simp only [Exit.inBlock, Exit.then])
        refine bodyPost_ret (results_cell_row2 rfl _ _ g 39 _ (0, 0) _ rfl hR Tryd.underlying39 rfl (by kernel_rfl)) rfl ?_
        exact ⟨by rw [HR.out]; rfl, below_setRow HB1.out hgw _⟩
      · have z : (u2 == a) = false := by simpa using h
        have HR := Sh.mk (HS.out.2 z)
        clear HS h
        go_wp2
        go_round
        case rel => exact ⟨k + 1, by omega, by go_num, HR⟩
        case measure => simp [intOf]; omega
    · have HR := Sh.mk (show xs.find? (fun u => u.2.2 == a) = none by have h := HF.out; rwa [List.take_of_length_le (by have := HN.out; omega)] at h)
      clear HF
      go_wp2_with (first | (refine wpList_store_row rfl 39 (.tmp 4) (.tmp 27) rfl g #[.int .i64 0, .int .i64 0, .int .i64 0] rfl rfl 39 #[.int .i64 0, .int .i64 0, .int .i64 0] HX1.out (by kernel_rfl) rfl (oneU _ _ _) ?_))
      have hR := setRow_heap w1 g _ #[.int .i64 0, .int .i64 0, .int .i64 0] _ _ HX1.out
      (try simp only [Exit.inBlock, Exit.then])
      refine bodyPost_ret (results_cell_row2 rfl _ _ g 39 _ (0, 0) _ rfl hR Tryd.underlying39 rfl (by kernel_rfl)) rfl ?_
      exact ⟨by rw [HR.out]; rfl, below_setRow HB1.out hgw _⟩
end Go.Proofs.YtfiahgahphammaaDoor
