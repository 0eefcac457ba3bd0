/-
units.Prev, walked. Conditions: the text's size; the table reads as listed.
-/
import Derived.Test.YtfiahgahphammaaDoorStepsR
namespace Go.Proofs.YtfiahgahphammaaDoor
open Go Go.RowKit Go.Proofs.YtfiahgahphammaaDoorW.PrintWords Go.Proofs.YtfiahgahphammaaDoorW.PrintLast Go.Proofs.YtfiahgahphammaaDoorW.PrintMore
set_option maxRecDepth 100000 in
set_option maxHeartbeats 8000000 in
theorem prev_any (s : ByteArray) (a : Int) (w : World) (hf : FormsAt w) (hs : s.size ≤ 140737488355327) :
    Calls Tryd.prog 26 #[.string s, .int .i64 a] w fun e w' => e = .returned (.tuple #[uVal (oU (prevR s a)), .bool (prevR s a).isSome]) ∧ Below w.heap.size w w' := by
  have HF := Sh.mk hf
  clear hf
  obtain ⟨W0, hW0⟩ : ∃ W0, W0 = w.alloc (.cells #[.int .i64 0, .int .i64 0, .int .i64 0] 39) := ⟨_, rfl⟩
  obtain ⟨g, hg⟩ : ∃ g, g = w.heap.size := ⟨_, rfl⟩
  have HG := Sh.mk hg
  have HB := Sh.mk (show Below w.heap.size w W0 by rw [hW0]; exact (Below.refl _ _).alloc (Nat.le_refl _) _)
  have HX := Sh.mk (show uBox g W0 by rw [hW0, hg]; exact blk_new _ _)
  have HW := Sh.mk hW0
  have hgw : w.heap.size ≤ g := by omega
  clear hW0 hg
  by_cases hn : a ≤ 0
  · have HR := Sh.mk (show prevR s a = none by unfold prevR; rw [if_pos (Or.inl hn)])
    have l1 : decide (a ≤ 0) = true := by simpa using hn
    clear hn
    go_enter Tryd.func26, Tryd.ntmps26
    go_wp2_with (first | (refine wpList_store_row rfl 39 (.tmp 4) (.tmp 27) rfl g #[.int .i64 0, .int .i64 0, .int .i64 0] (by rw [HG.out]; rfl) rfl 39 #[.int .i64 0, .int .i64 0, .int .i64 0] (by rw [← HW.out]; exact HX.out) (by kernel_rfl) rfl (oneU _ _ _) ?_; rw [← HW.out, ← HG.out]))
    have hR := setRow_heap W0 g _ #[.int .i64 0, .int .i64 0, .int .i64 0] _ _ HX.out
    (try simp only [Exit.inBlock, Exit.then])
    refine bodyPost_ret (results_cell_row2 rfl _ _ g 39 _ (0, 0) _ rfl hR Tryd.underlying39 rfl (by kernel_rfl)) rfl ?_
    exact ⟨by rw [HR.out]; rfl, below_setRow HB.out hgw _⟩
  · obtain ⟨k, rfl⟩ := Int.eq_ofNat_of_zero_le (show 0 ≤ a by omega)
    have hk0 : 0 < k := by omega
    have l1 : decide ((k : Int) ≤ 0) = false := by simp; omega
    have l1' : decide (k ≤ 0) = false := by simp; omega
    have l1'' : (k == 0) = false := by simp; omega
    by_cases hk : s.size < k
    · have HR := Sh.mk (show prevR s (k : Int) = none by unfold prevR; rw [if_pos (Or.inr (Int.ofNat_lt.2 hk))])
      have l2 : decide (s.size < k) = true := by simpa using hk
      clear hk hn
      go_enter Tryd.func26, Tryd.ntmps26
      go_wp2_with (first | (refine wpList_store_row rfl 39 (.tmp 4) (.tmp 27) rfl g #[.int .i64 0, .int .i64 0, .int .i64 0] (by rw [HG.out]; rfl) rfl 39 #[.int .i64 0, .int .i64 0, .int .i64 0] (by rw [← HW.out]; exact HX.out) (by kernel_rfl) rfl (oneU _ _ _) ?_; rw [← HW.out, ← HG.out]))
      have hR := setRow_heap W0 g _ #[.int .i64 0, .int .i64 0, .int .i64 0] _ _ HX.out
      (try simp only [Exit.inBlock, Exit.then])
      refine bodyPost_ret (results_cell_row2 rfl _ _ g 39 _ (0, 0) _ rfl hR Tryd.underlying39 rfl (by kernel_rfl)) rfl ?_
      exact ⟨by rw [HR.out]; rfl, below_setRow HB.out hgw _⟩
    · have hle : k ≤ s.size := by omega
      have l2 : decide (s.size < k) = false := by simpa using hk
      have l2' : decide (k ≤ s.size) = true := by simpa using hle
      obtain ⟨m, hm⟩ : ∃ m, m = min 4 k := ⟨_, rfl⟩
      have hmin : min (4 : Int) (k : Int) = (m : Int) := by omega
      have hmin2 : (if (k : Int) < 4 then (k : Int) else 4) = (m : Int) := by split <;> omega
      have hm4 : m ≤ 4 := by omega
      have hmk : m ≤ k := by omega
      have HE0 := Sh.mk (show prevR s (k : Int) = if (k : Int) < s.size ∧ insideR s k = true then none else some (prevAux s k m) by unfold prevR; rw [if_neg (fun h => by rcases h with h | h <;> omega), Int.toNat_natCast, ← hm])
      clear hk hn hm
      by_cases hlt : k < s.size
      · have l3 : decide (k < s.size) = true := by simpa using hlt
        go_enter Tryd.func26, Tryd.ntmps26
        go_wp2_with fail
        rw [← HW.out, ← HG.out]
        refine (inside_any s k W0 (HF.out.below HB.out) hlt hs).mono ?_
        rintro e w1 ⟨rfl, hb1⟩
        have HX1 := Sh.mk (blk_below HX.out hb1)
        have HB1 := Sh.mk (below_of HB.out hb1)
        clear HX HB hb1
        cases hin : insideR s k with
        | true =>
          have HR := Sh.mk (show prevR s (k : Int) = none by rw [HE0.out, if_pos ⟨by omega, hin⟩])
          clear hin HE0
          go_wp2_with (first | (refine wpList_store_row rfl 39 (.tmp 4) (.tmp 27) rfl g #[.int .i64 0, .int .i64 0, .int .i64 0] rfl rfl 39 #[.int .i64 0, .int .i64 0, .int .i64 0] HX1.out (by kernel_rfl) rfl (oneU _ _ _) ?_))
          have hR := setRow_heap w1 g _ #[.int .i64 0, .int .i64 0, .int .i64 0] _ _ HX1.out
          (try simp only [Exit.inBlock, Exit.then])
          refine bodyPost_ret (results_cell_row2 rfl _ _ g 39 _ (0, 0) _ rfl hR Tryd.underlying39 rfl (by kernel_rfl)) rfl ?_
          exact ⟨by rw [HR.out]; rfl, below_setRow HB1.out hgw _⟩
        | false =>
          have HE := Sh.mk (show prevR s (k : Int) = some (prevAux s k m) by rw [HE0.out, if_neg (fun h => by rw [hin] at h; cases h.2)])
          clear hin HE0 HW HG
          go_wp2
          go_loopw [6] (fun v wr => ∃ b : Nat, b ≤ m ∧ v = .int .i64 b ∧ Sh (prevR s (k : Int) = some (prevAux s k b)) ∧ Sh (uBox g wr) ∧ Sh (Below w.heap.size w wr)) (fun v _ => (intOf v).toNat)
          case atStart => exact ⟨m, by omega, rfl, HE, HX1, HB1⟩
          case round =>
            obtain ⟨b, hb, rfl, HR, HX, HB⟩ := hrel
            by_cases hb1 : 1 < b
            · obtain ⟨c, hc⟩ : ∃ c, b = c + 2 := ⟨b - 2, by omega⟩
              obtain ⟨q, hq⟩ : ∃ q, q = k - b := ⟨_, rfl⟩
              have e1 : (k : Int) - (b : Int) = (q : Int) := by omega
              have hqs : q < s.size := by omega
              have HP := Sh.mk (show prevAux s k b = if unitPt s q ≠ -1 ∧ q + unitLen s q = k then unitTr s q else prevAux s k (c + 1) by rw [hc, prevAux, show k - (c + 2) = q by omega])
              have e3 : (b : Int) - 1 = ((c + 1 : Nat) : Int) := by omega
              have hcm : c + 1 ≤ m := by omega
              have hcb : c + 1 < b := by omega
              have l1 : decide ((1 : Int) < (b : Int)) = true := by simp; omega
              obtain ⟨d, hd⟩ : ∃ d, d = c + 1 := ⟨_, rfl⟩
              rw [← hd] at e3 hcm hcb HP
              clear hq hc hd
              go_wp2_with fail
              refine (unit_any s q wr (HF.out.below HB.out) hqs hs).mono ?_
              rintro e w2 ⟨rfl, hb2⟩
              have HX2 := Sh.mk (blk_below HX.out hb2)
              have HB2 := Sh.mk (below_of HB.out hb2)
              clear hb2 HX HB
              rw [Int.natCast_add]
              have HB3 : Sh (∀ o, Below w.heap.size w (w2.alloc o)) := ⟨fun o => HB2.out.alloc HB2.out.size o⟩
              have HX3 : Sh (∀ o, uBox g (w2.alloc o)) := ⟨fun o => blk_alloc HX2.out o⟩
              have hgs : g < w2.heap.size := blk_lt HX2.out
              clear HX2 HB2
              by_cases hcond : unitPt s q ≠ -1 ∧ q + unitLen s q = k
              · have HV := Sh.mk (show prevR s (k : Int) = some (unitTr s q) by rw [HR.out, HP.out, if_pos hcond])
                have c0 : (unitPt s q != -1) = true := by simpa using hcond.1
                have c1 : (unitPt s q == -1) = false := by simpa using hcond.1
                have c2 : ((q : Int) + (unitLen s q : Int) == (k : Int)) = true := by have := hcond.2; simp; omega
                have c3 : (unitPt s q != -1 && ((q : Int) + (unitLen s q : Int) == (k : Int))) = true := by rw [c0, c2]; rfl
                clear hcond HR HP
                go_wp2_with (first | (refine wpList_store_row rfl 39 (.tmp 4) (.tmp 48) rfl g #[.int .i64 (unitPt s q), .int .i64 q, .int .i64 (q + unitLen s q)] rfl rfl 39 #[.int .i64 0, .int .i64 0, .int .i64 0] (HX3.out _) (by kernel_rfl) rfl (oneU _ _ _) ?_))
                have hR := setRow_heap _ g _ #[.int .i64 (unitPt s q), .int .i64 q, .int .i64 (q + unitLen s q)] _ _ (HX3.out (.cells #[.int .i64 (unitPt s q), .int .i64 q, .int .i64 (q + unitLen s q)] 39))
                (try simp only [Exit.inBlock, Exit.then])
                refine bodyPost_ret (results_cell_row2 rfl _ _ g 39 _ (0, 0) _ rfl hR Tryd.underlying39 rfl (by kernel_rfl)) rfl ?_
                exact ⟨by rw [HV.out]; rfl, below_setRow (HB3.out _) hgw _⟩
              · have HV := Sh.mk (show prevR s (k : Int) = some (prevAux s k d) by rw [HR.out, HP.out, if_neg hcond])
                by_cases hp : unitPt s q = -1
                · have c0 : (unitPt s q != -1) = false := by simpa using hp
                  have c1 : (unitPt s q == -1) = true := by simpa using hp
                  have c3 : (unitPt s q != -1 && ((q : Int) + (unitLen s q : Int) == (k : Int))) = false := by rw [c0]; rfl
                  clear hcond HR HP hp
                  go_wp2
                  go_roundw
                  case rel => exact ⟨d, by omega, by go_num, HV, ⟨HX3.out _⟩, ⟨HB3.out _⟩⟩
                  case measure => simp [intOf]; omega
                · have c0 : (unitPt s q != -1) = true := by simpa using hp
                  have c1 : (unitPt s q == -1) = false := by simpa using hp
                  have c2 : ((q : Int) + (unitLen s q : Int) == (k : Int)) = false := by simp; intro h; exact hcond ⟨hp, by omega⟩
                  have c3 : (unitPt s q != -1 && ((q : Int) + (unitLen s q : Int) == (k : Int))) = false := by rw [c0, c2]; rfl
                  clear hcond HR HP hp
                  go_wp2
                  go_roundw
                  case rel => exact ⟨d, by omega, by go_num, HV, ⟨HX3.out _⟩, ⟨HB3.out _⟩⟩
                  case measure => simp [intOf]; omega
            · have l1 : decide ((1 : Int) < (b : Int)) = false := by simp; omega
              have hb01 : b = 0 ∨ b = 1 := by omega
              obtain ⟨q, hq⟩ : ∃ q, q = k - 1 := ⟨_, rfl⟩
              have e1 : (k : Int) - 1 = (q : Int) := by omega
              have hqs : q < s.size := by omega
              have HV := Sh.mk (show prevR s (k : Int) = some (unitTr s q) by rw [HR.out]; rcases hb01 with rfl | rfl <;> rw [hq] <;> rfl)
              clear hq HR hb01 hb1
              go_wp2_with fail
              refine (unit_any s q wr (HF.out.below HB.out) hqs hs).mono ?_
              rintro e w2 ⟨rfl, hb2⟩
              have HX2 := Sh.mk (blk_below HX.out hb2)
              have HB2 := Sh.mk (below_of HB.out hb2)
              clear hb2 HX HB
              rw [Int.natCast_add]
              go_wp2_with (first | (refine wpList_store_row rfl 39 (.tmp 4) (.tmp 52) rfl g #[.int .i64 (unitPt s q), .int .i64 q, .int .i64 (q + unitLen s q)] rfl rfl 39 #[.int .i64 0, .int .i64 0, .int .i64 0] HX2.out (by kernel_rfl) rfl (oneU _ _ _) ?_))
              have hR := setRow_heap w2 g _ #[.int .i64 (unitPt s q), .int .i64 q, .int .i64 (q + unitLen s q)] _ _ HX2.out
              (try simp only [Exit.inBlock, Exit.then])
              refine bodyPost_ret (results_cell_row2 rfl _ _ g 39 _ (0, 0) _ rfl hR Tryd.underlying39 rfl (by kernel_rfl)) rfl ?_
              exact ⟨by rw [HV.out]; rfl, below_setRow HB2.out hgw _⟩
      · have l3 : decide (k < s.size) = false := by simpa using hlt
        have HE := Sh.mk (show prevR s (k : Int) = some (prevAux s k m) by rw [HE0.out, if_neg (fun h => by omega)])
        clear HE0
        go_enter Tryd.func26, Tryd.ntmps26
        go_wp2
        rw [← HW.out, ← HG.out]
        go_loopw [6] (fun v wr => ∃ b : Nat, b ≤ m ∧ v = .int .i64 b ∧ Sh (prevR s (k : Int) = some (prevAux s k b)) ∧ Sh (uBox g wr) ∧ Sh (Below w.heap.size w wr)) (fun v _ => (intOf v).toNat)
        case atStart => exact ⟨m, by omega, rfl, HE, HX, HB⟩
        case round =>
          obtain ⟨b, hb, rfl, HR, HX, HB⟩ := hrel
          by_cases hb1 : 1 < b
          · obtain ⟨c, hc⟩ : ∃ c, b = c + 2 := ⟨b - 2, by omega⟩
            obtain ⟨q, hq⟩ : ∃ q, q = k - b := ⟨_, rfl⟩
            have e1 : (k : Int) - (b : Int) = (q : Int) := by omega
            have hqs : q < s.size := by omega
            have HP := Sh.mk (show prevAux s k b = if unitPt s q ≠ -1 ∧ q + unitLen s q = k then unitTr s q else prevAux s k (c + 1) by rw [hc, prevAux, show k - (c + 2) = q by omega])
            have e3 : (b : Int) - 1 = ((c + 1 : Nat) : Int) := by omega
            have hcm : c + 1 ≤ m := by omega
            have hcb : c + 1 < b := by omega
            have l1 : decide ((1 : Int) < (b : Int)) = true := by simp; omega
            obtain ⟨d, hd⟩ : ∃ d, d = c + 1 := ⟨_, rfl⟩
            rw [← hd] at e3 hcm hcb HP
            clear hq hc hd
            go_wp2_with fail
            refine (unit_any s q wr (HF.out.below HB.out) hqs hs).mono ?_
            rintro e w2 ⟨rfl, hb2⟩
            have HX2 := Sh.mk (blk_below HX.out hb2)
            have HB2 := Sh.mk (below_of HB.out hb2)
            clear hb2 HX HB
            rw [Int.natCast_add]
            have HB3 : Sh (∀ o, Below w.heap.size w (w2.alloc o)) := ⟨fun o => HB2.out.alloc HB2.out.size o⟩
            have HX3 : Sh (∀ o, uBox g (w2.alloc o)) := ⟨fun o => blk_alloc HX2.out o⟩
            have hgs : g < w2.heap.size := blk_lt HX2.out
            clear HX2 HB2
            by_cases hcond : unitPt s q ≠ -1 ∧ q + unitLen s q = k
            · have HV := Sh.mk (show prevR s (k : Int) = some (unitTr s q) by rw [HR.out, HP.out, if_pos hcond])
              have c0 : (unitPt s q != -1) = true := by simpa using hcond.1
              have c1 : (unitPt s q == -1) = false := by simpa using hcond.1
              have c2 : ((q : Int) + (unitLen s q : Int) == (k : Int)) = true := by have := hcond.2; simp; omega
              have c3 : (unitPt s q != -1 && ((q : Int) + (unitLen s q : Int) == (k : Int))) = true := by rw [c0, c2]; rfl
              clear hcond HR HP
              go_wp2_with (first | (refine wpList_store_row rfl 39 (.tmp 4) (.tmp 48) rfl g #[.int .i64 (unitPt s q), .int .i64 q, .int .i64 (q + unitLen s q)] rfl rfl 39 #[.int .i64 0, .int .i64 0, .int .i64 0] (HX3.out _) (by kernel_rfl) rfl (oneU _ _ _) ?_))
              have hR := setRow_heap _ g _ #[.int .i64 (unitPt s q), .int .i64 q, .int .i64 (q + unitLen s q)] _ _ (HX3.out (.cells #[.int .i64 (unitPt s q), .int .i64 q, .int .i64 (q + unitLen s q)] 39))
              (try simp only [Exit.inBlock, Exit.then])
              refine bodyPost_ret (results_cell_row2 rfl _ _ g 39 _ (0, 0) _ rfl hR Tryd.underlying39 rfl (by kernel_rfl)) rfl ?_
              exact ⟨by rw [HV.out]; rfl, below_setRow (HB3.out _) hgw _⟩
            · have HV := Sh.mk (show prevR s (k : Int) = some (prevAux s k d) by rw [HR.out, HP.out, if_neg hcond])
              by_cases hp : unitPt s q = -1
              · have c0 : (unitPt s q != -1) = false := by simpa using hp
                have c1 : (unitPt s q == -1) = true := by simpa using hp
                have c3 : (unitPt s q != -1 && ((q : Int) + (unitLen s q : Int) == (k : Int))) = false := by rw [c0]; rfl
                clear hcond HR HP hp
                go_wp2
                go_roundw
                case rel => exact ⟨d, by omega, by go_num, HV, ⟨HX3.out _⟩, ⟨HB3.out _⟩⟩
                case measure => simp [intOf]; omega
              · have c0 : (unitPt s q != -1) = true := by simpa using hp
                have c1 : (unitPt s q == -1) = false := by simpa using hp
                have c2 : ((q : Int) + (unitLen s q : Int) == (k : Int)) = false := by simp; intro h; exact hcond ⟨hp, by omega⟩
                have c3 : (unitPt s q != -1 && ((q : Int) + (unitLen s q : Int) == (k : Int))) = false := by rw [c0, c2]; rfl
                clear hcond HR HP hp
                go_wp2
                go_roundw
                case rel => exact ⟨d, by omega, by go_num, HV, ⟨HX3.out _⟩, ⟨HB3.out _⟩⟩
                case measure => simp [intOf]; omega
          · have l1 : decide ((1 : Int) < (b : Int)) = false := by simp; omega
            have hb01 : b = 0 ∨ b = 1 := by omega
            obtain ⟨q, hq⟩ : ∃ q, q = k - 1 := ⟨_, rfl⟩
            have e1 : (k : Int) - 1 = (q : Int) := by omega
            have hqs : q < s.size := by omega
            have HV := Sh.mk (show prevR s (k : Int) = some (unitTr s q) by rw [HR.out]; rcases hb01 with rfl | rfl <;> rw [hq] <;> rfl)
            clear hq HR hb01 hb1
            go_wp2_with fail
            refine (unit_any s q wr (HF.out.below HB.out) hqs hs).mono ?_
            rintro e w2 ⟨rfl, hb2⟩
            have HX2 := Sh.mk (blk_below HX.out hb2)
            have HB2 := Sh.mk (below_of HB.out hb2)
            clear hb2 HX HB
            rw [Int.natCast_add]
            go_wp2_with (first | (refine wpList_store_row rfl 39 (.tmp 4) (.tmp 52) rfl g #[.int .i64 (unitPt s q), .int .i64 q, .int .i64 (q + unitLen s q)] rfl rfl 39 #[.int .i64 0, .int .i64 0, .int .i64 0] HX2.out (by kernel_rfl) rfl (oneU _ _ _) ?_))
            have hR := setRow_heap w2 g _ #[.int .i64 (unitPt s q), .int .i64 q, .int .i64 (q + unitLen s q)] _ _ HX2.out
            (try simp only [Exit.inBlock, Exit.then])
            refine bodyPost_ret (results_cell_row2 rfl _ _ g 39 _ (0, 0) _ rfl hR Tryd.underlying39 rfl (by kernel_rfl)) rfl ?_
            exact ⟨by rw [HV.out]; rfl, below_setRow HB2.out hgw _⟩
end Go.Proofs.YtfiahgahphammaaDoor
