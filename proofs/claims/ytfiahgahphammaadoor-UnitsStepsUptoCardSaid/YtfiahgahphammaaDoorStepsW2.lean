/-
units.Next, Prev, the document's Next and Prev, walked. Conditions: the text's size; the table reads as listed.
-/
import Derived.Test.YtfiahgahphammaaDoorStepsW
namespace Go.Proofs.YtfiahgahphammaaDoor
open Go Go.RowKit Go.Proofs.YtfiahgahphammaaDoorW.PrintWords Go.Proofs.YtfiahgahphammaaDoorW.PrintLast Go.Proofs.YtfiahgahphammaaDoorW.PrintMore
/-- A unit that is answered beside a truth value. -/
def oU (o : Option (Int × Int × Int)) : Int × Int × Int := o.getD (0, 0, 0)
abbrev uVal (x : Int × Int × Int) : Value := .agg #[.int .i64 x.1, .int .i64 x.2.1, .int .i64 x.2.2]
abbrev uBox (g : Nat) (A : World) : Prop := A.heap[g]? = some (.cells #[.int .i64 0, .int .i64 0, .int .i64 0] 39 (0, 0))
set_option maxRecDepth 100000 in
set_option maxHeartbeats 8000000 in
theorem next_any (s : ByteArray) (a : Int) (w : World) (hf : FormsAt w) (hs : s.size ≤ 140737488355327) :
    Calls Tryd.prog 24 #[.string s, .int .i64 a] w fun e w' => e = .returned (.tuple #[uVal (oU (nextR s a)), .bool (nextR s a).isSome]) ∧ Below w.heap.size w w' := by
  have HF := Sh.mk hf
  clear hf
  obtain ⟨W0, hW0⟩ : ∃ W0, W0 = w.alloc (.cells #[.int .i64 0, .int .i64 0, .int .i64 0] 39) := ⟨_, rfl⟩
  obtain ⟨g, hg⟩ : ∃ g, g = w.heap.size := ⟨_, rfl⟩
  have HG := Sh.mk hg
  have HB := Sh.mk (show Below w.heap.size w W0 by rw [hW0]; exact (Below.refl _ _).alloc (Nat.le_refl _) _)
  have HX := Sh.mk (show uBox g W0 by rw [hW0, hg]; exact blk_new _ _)
  have HW := Sh.mk hW0
  have hgw : w.heap.size ≤ g := by omega
  clear hW0 hg
  by_cases hn : a < 0
  · have HR := Sh.mk (show nextR s a = none by unfold nextR; rw [if_pos (Or.inl hn)])
    have l1 : decide (a < 0) = true := by simpa using hn
    clear hn
    go_enter Tryd.func24, Tryd.ntmps24
    go_wp2_with (first | (refine wpList_store_row rfl 39 (.tmp 4) (.tmp 19) rfl g #[.int .i64 0, .int .i64 0, .int .i64 0] (by rw [HG.out]; rfl) rfl 39 #[.int .i64 0, .int .i64 0, .int .i64 0] (by rw [← HW.out]; exact HX.out) (by kernel_rfl) rfl (oneU _ _ _) ?_; rw [← HW.out, ← HG.out]))
    have hR := setRow_heap W0 g _ #[.int .i64 0, .int .i64 0, .int .i64 0] _ _ HX.out
    (try simp only [Exit.inBlock, Exit.then])
    refine bodyPost_ret (results_cell_row2 rfl _ _ g 39 _ (0, 0) _ rfl hR Tryd.underlying39 rfl (by kernel_rfl)) rfl ?_
    exact ⟨by rw [HR.out]; rfl, below_setRow HB.out hgw _⟩
  · obtain ⟨k, rfl⟩ := Int.eq_ofNat_of_zero_le (show 0 ≤ a by omega)
    have l1 : decide ((k : Int) < 0) = false := by simp
    by_cases hk : s.size ≤ k
    · have HR := Sh.mk (show nextR s (k : Int) = none by unfold nextR; rw [if_pos (Or.inr (Int.ofNat_le.2 hk))])
      have l2 : decide (s.size ≤ k) = true := by simpa using hk
      have l2' : decide (k < s.size) = false := by simpa using hk
      clear hk hn
      go_enter Tryd.func24, Tryd.ntmps24
      go_wp2_with (first | (refine wpList_store_row rfl 39 (.tmp 4) (.tmp 19) rfl g #[.int .i64 0, .int .i64 0, .int .i64 0] (by rw [HG.out]; rfl) rfl 39 #[.int .i64 0, .int .i64 0, .int .i64 0] (by rw [← HW.out]; exact HX.out) (by kernel_rfl) rfl (oneU _ _ _) ?_; rw [← HW.out, ← HG.out]))
      have hR := setRow_heap W0 g _ #[.int .i64 0, .int .i64 0, .int .i64 0] _ _ HX.out
      (try simp only [Exit.inBlock, Exit.then])
      refine bodyPost_ret (results_cell_row2 rfl _ _ g 39 _ (0, 0) _ rfl hR Tryd.underlying39 rfl (by kernel_rfl)) rfl ?_
      exact ⟨by rw [HR.out]; rfl, below_setRow HB.out hgw _⟩
    · have hlt : k < s.size := by omega
      have l2 : decide (s.size ≤ k) = false := by simpa using hk
      have HE := Sh.mk (show nextR s (k : Int) = if insideR s k then none else some (unitTr s k) by unfold nextR; rw [if_neg (fun h => by rcases h with h | h <;> omega), Int.toNat_natCast])
      clear hk hn
      go_enter Tryd.func24, Tryd.ntmps24
      go_wp2_with fail
      rw [← HW.out, ← HG.out]
      refine (inside_any s k W0 (HF.out.below HB.out) hlt hs).mono ?_
      rintro e w1 ⟨rfl, hb1⟩
      have HX1 := Sh.mk (blk_below HX.out hb1)
      have HB1 := Sh.mk (below_of HB.out hb1)
      clear HX HB hb1
      cases hin : insideR s k with
      | true =>
        have HR := Sh.mk (show nextR s (k : Int) = none by rw [HE.out, hin]; rfl)
        clear hin HE
        go_wp2_with (first | (refine wpList_store_row rfl 39 (.tmp 4) (.tmp 19) rfl g #[.int .i64 0, .int .i64 0, .int .i64 0] rfl rfl 39 #[.int .i64 0, .int .i64 0, .int .i64 0] HX1.out (by kernel_rfl) rfl (oneU _ _ _) ?_))
        have hR := setRow_heap w1 g _ #[.int .i64 0, .int .i64 0, .int .i64 0] _ _ HX1.out
        (try simp only [Exit.inBlock, Exit.then])
        refine bodyPost_ret (results_cell_row2 rfl _ _ g 39 _ (0, 0) _ rfl hR Tryd.underlying39 rfl (by kernel_rfl)) rfl ?_
        exact ⟨by rw [HR.out]; rfl, below_setRow HB1.out hgw _⟩
      | false =>
        have HR := Sh.mk (show nextR s (k : Int) = some (unitTr s k) by rw [HE.out, hin]; rfl)
        clear hin HE
        go_wp2_with fail
        refine (unit_any s k w1 (HF.out.below HB1.out) hlt hs).mono ?_
        rintro e w2 ⟨rfl, hb2⟩
        have HX2 := Sh.mk (blk_below HX1.out hb2)
        have HB2 := Sh.mk (below_of HB1.out hb2)
        clear HX1 HB1 hb2
        rw [Int.natCast_add]
        go_wp2_with (first | (refine wpList_store_row rfl 39 (.tmp 4) (.tmp 22) rfl g #[.int .i64 (unitPt s k), .int .i64 k, .int .i64 (k + unitLen s k)] rfl rfl 39 #[.int .i64 0, .int .i64 0, .int .i64 0] HX2.out (by kernel_rfl) rfl (oneU _ _ _) ?_))
        have hR := setRow_heap w2 g _ #[.int .i64 (unitPt s k), .int .i64 k, .int .i64 (k + unitLen s k)] _ _ HX2.out
        (try simp only [Exit.inBlock, Exit.then])
        refine bodyPost_ret (results_cell_row2 rfl _ _ g 39 _ (0, 0) _ rfl hR Tryd.underlying39 rfl (by kernel_rfl)) rfl ?_
        exact ⟨by rw [HR.out]; rfl, below_setRow HB2.out hgw _⟩
theorem find_snoc {xs : List (Int × Int × Int)} {k : Nat} (hk : k < xs.length) {p : Int × Int × Int → Bool} (h : (xs.take k).find? p = none) : (p (rdU xs k) = true → xs.find? p = some (rdU xs k)) ∧ (p (rdU xs k) = false → (xs.take (k + 1)).find? p = none) := by
  constructor
  · intro hp
    have e : xs = xs.take k ++ (rdU xs k :: xs.drop (k + 1)) := by
      conv => lhs; rw [← List.take_append_drop k xs, List.drop_eq_getElem_cons hk]
      simp [rdU, List.getD, hk]
    rw [e, List.find?_append, h]
    simp [rdU] at hp ⊢
    have e2 : ((xs.take k ++ (xs[k]?.getD (0, 0, 0)) :: xs.drop (k + 1))[k]?.getD (0, 0, 0)) = xs[k]?.getD (0, 0, 0) := by
      rw [List.getElem?_append_right (by simp; omega)]
      simp [List.length_take, show min k xs.length = k by omega]
    rw [e2]
    simp [hp]
  · intro hp
    rw [take_snocU xs k hk, List.find?_append, h]
    simp [hp]
end Go.Proofs.YtfiahgahphammaaDoor
