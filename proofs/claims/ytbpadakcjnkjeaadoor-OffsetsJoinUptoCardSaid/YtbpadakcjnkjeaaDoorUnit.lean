/-
units.unit, walked. Conditions: the table reads as listed; the place lies in the text.
-/
import Derived.Test.YtbpadakcjnkjeaaDoorUnitEq
namespace Go.Proofs.YtbpadakcjnkjeaaDoor
open Go Go.RowKit Go.Proofs.YtbpadakcjnkjeaaDoorW.PrintWords Go.Proofs.YtbpadakcjnkjeaaDoorW.PrintLast Go.Proofs.YtbpadakcjnkjeaaDoorW.PrintMore
set_option maxRecDepth 100000
/-- How far a unit goes; the unit. -/
def unitLen (s : ByteArray) (i : Nat) : Nat := match unitO s i with | some (_, n) => n | none => 1
def unitPt (s : ByteArray) (i : Nat) : Int := match unitO s i with | some (p, _) => p | none => -1
/-- A unit's cells. -/
def uCells (p a b : Int) : Array Value := #[.int .i64 p, .int .i64 a, .int .i64 b]
theorem oneU (a b c : Int) : (#[.int .i64 a, .int .i64 b, .int .i64 c] : Array Value).all (·.oneCell') = true := by simp [Value.oneCell']
theorem unitLen_pos (s : ByteArray) (i : Nat) : 1 ≤ unitLen s i ∧ unitLen s i ≤ 4 := by
  unfold unitLen unitO
  by_cases h128 : bt s i < 128
  · rw [run_ascii h128]; simp
  · cases hl : leadF (bt s i) with
    | none => rw [run_none (by omega) hl]; simp
    | some k =>
      have hf := form_facts k (leadF_lt hl)
      have hu : ∀ x : Option (Int × Nat), (x = none ∨ ∃ p n, x = some (p, n) ∧ 1 ≤ n ∧ n ≤ 4) → 1 ≤ (match x with | some (_, n) => n | none => 1) ∧ (match x with | some (_, n) => n | none => 1) ≤ 4 := by
        rintro x (rfl | ⟨p, n, rfl, h1, h2⟩)
        · exact ⟨Nat.le_refl _, by decide⟩
        · exact ⟨h1, h2⟩
      apply hu
      have hz : formAt k 4 = 2 ∨ formAt k 4 = 3 ∨ formAt k 4 = 4 := by omega
      have he : unitO s i = none ∨ ∃ p n, unitO s i = some (p, n) ∧ 1 ≤ n ∧ n ≤ 4 := by
        rcases hz with hz | hz | hz
        · rw [unit_form2 (by omega) hl hz]; split
          · exact Or.inr ⟨_, _, rfl, by decide, by decide⟩
          · exact Or.inl rfl
        · rw [unit_form3 (by omega) hl hz]; split
          · exact Or.inr ⟨_, _, rfl, by decide, by decide⟩
          · exact Or.inl rfl
        · rw [unit_form4 (by omega) hl hz]; split
          · exact Or.inr ⟨_, _, rfl, by decide, by decide⟩
          · exact Or.inl rfl
      exact he
set_option maxRecDepth 100000 in
set_option maxHeartbeats 4000000 in
theorem unit_any (s : ByteArray) (i : Nat) (w : World) (hf : FormsAt w) (hi : i < s.size) (hs : s.size ≤ 140737488355327) :
    Calls Tryd.prog 47 #[.string s, .int .i64 i] w fun e w' => e = .returned (.agg #[.int .i64 (unitPt s i), .int .i64 i, .int .i64 ((i + unitLen s i : Nat) : Int)]) ∧ Below w.heap.size w w' := by
  have HF := Sh.mk hf
  clear hf
  obtain ⟨W0, hW0⟩ : ∃ W0, W0 = w.alloc (.cells #[.int .i64 0, .int .i64 0, .int .i64 0] 50) := ⟨_, rfl⟩
  obtain ⟨g, hg⟩ : ∃ g, g = w.heap.size := ⟨_, rfl⟩
  have HG := Sh.mk hg
  have HB := Sh.mk (show Below w.heap.size w W0 by rw [hW0]; exact (Below.refl _ _).alloc (Nat.le_refl _) _)
  have HX := Sh.mk (show W0.heap[g]? = some (.cells #[.int .i64 0, .int .i64 0, .int .i64 0] 50 (0, 0)) by rw [hW0, hg]; exact blk_new _ _)
  have HW := Sh.mk hW0
  have hgw : w.heap.size ≤ g := by omega
  clear hW0 hg
  go_enter Tryd.func47, Tryd.ntmps47
  go_wp2_with fail
  rw [← HW.out, ← HG.out]
  refine (run_any s i W0 (HF.out.below HB.out) hi hs).mono ?_
  rintro e w1 ⟨rfl, hb1⟩
  have HX1 := Sh.mk (blk_below HX.out hb1)
  have HB1 := Sh.mk (below_of HB.out hb1)
  clear hb1 HX HB HW HG
  by_cases h0 : (runR s i).1 = 0 ∨ (runR s i).1 < (runR s i).2.1
  · have e0 : unitO s i = none := by unfold unitO; rw [if_pos h0]
    have HE := Sh.mk (show unitPt s i = -1 ∧ unitLen s i = 1 by unfold unitPt unitLen; rw [e0]; exact ⟨rfl, rfl⟩)
    clear e0
    by_cases h1 : (runR s i).1 = 0
    · have l1 : ((runR s i).1 == 0) = true := by simpa using h1
      have l1' : (((runR s i).1 : Int) == 0) = true := by simp; omega
      clear h0 h1
      go_wp2_with (first | (refine wpList_store_row rfl 50 (.tmp 4) (.tmp 25) rfl g #[.int .i64 (-1), .int .i64 i, .int .i64 (i + 1)] rfl rfl 50 #[.int .i64 0, .int .i64 0, .int .i64 0] HX1.out (by kernel_rfl) rfl (oneU _ _ _) ?_))
      have hR := setRow_heap w1 g _ #[.int .i64 (-1), .int .i64 i, .int .i64 (i + 1)] _ _ HX1.out
      (try simp only [Exit.inBlock, Exit.then])
      refine bodyPost_ret (results_cell_row rfl _ _ g 50 _ (0, 0) _ rfl hR Tryd.underlying50 rfl (by kernel_rfl)) rfl ?_
      exact ⟨by rw [HE.out.1, HE.out.2]; rfl, below_setRow HB1.out hgw _⟩
    · have h2 : (runR s i).1 < (runR s i).2.1 := by omega
      have l1 : ((runR s i).1 == 0) = false := by simpa using h1
      have l1' : (((runR s i).1 : Int) == 0) = false := by simp; omega
      have l2 : decide ((runR s i).1 < (runR s i).2.1) = true := by simpa using h2
      clear h0 h1 h2
      go_wp2_with (first | (refine wpList_store_row rfl 50 (.tmp 4) (.tmp 25) rfl g #[.int .i64 (-1), .int .i64 i, .int .i64 (i + 1)] rfl rfl 50 #[.int .i64 0, .int .i64 0, .int .i64 0] HX1.out (by kernel_rfl) rfl (oneU _ _ _) ?_))
      have hR := setRow_heap w1 g _ #[.int .i64 (-1), .int .i64 i, .int .i64 (i + 1)] _ _ HX1.out
      (try simp only [Exit.inBlock, Exit.then])
      refine bodyPost_ret (results_cell_row rfl _ _ g 50 _ (0, 0) _ rfl hR Tryd.underlying50 rfl (by kernel_rfl)) rfl ?_
      exact ⟨by rw [HE.out.1, HE.out.2]; rfl, below_setRow HB1.out hgw _⟩
  · have e0 : unitO s i = some ((runR s i).2.2, (runR s i).1) := by unfold unitO; rw [if_neg h0]
    have hlen := unitLen_pos s i
    have HE := Sh.mk (show unitPt s i = (runR s i).2.2 ∧ unitLen s i = (runR s i).1 by unfold unitPt unitLen; rw [e0]; exact ⟨rfl, rfl⟩)
    have hr1 : (runR s i).1 ≤ 4 := by rw [← HE.out.2]; exact hlen.2
    have l1 : ((runR s i).1 == 0) = false := by simp; omega
    have l1' : (((runR s i).1 : Int) == 0) = false := by simp; omega
    have l2 : decide ((runR s i).1 < (runR s i).2.1) = false := by simp; omega
    have hs4 : (i : Int) + ((runR s i).1 : Int) ≤ 140737488355331 := by omega
    clear h0 e0 hlen
    go_wp2_with (first | (refine wpList_store_row rfl 50 (.tmp 4) (.tmp 31) rfl g #[.int .i64 (runR s i).2.2, .int .i64 i, .int .i64 (i + (runR s i).1)] rfl rfl 50 #[.int .i64 0, .int .i64 0, .int .i64 0] HX1.out (by kernel_rfl) rfl (oneU _ _ _) ?_))
    have hR := setRow_heap w1 g _ #[.int .i64 (runR s i).2.2, .int .i64 i, .int .i64 (i + (runR s i).1)] _ _ HX1.out
    (try simp only [Exit.inBlock, Exit.then])
    refine bodyPost_ret (results_cell_row rfl _ _ g 50 _ (0, 0) _ rfl hR Tryd.underlying50 rfl (by kernel_rfl)) rfl ?_
    exact ⟨by rw [HE.out.1, HE.out.2, Int.natCast_add], below_setRow HB1.out hgw _⟩
end Go.Proofs.YtbpadakcjnkjeaaDoor
