/-
caesurakit.Pick; caesuralaw2.first. Condition: the table reads as listed.
-/
import Derived.Test.YtfiahgahphammaaDoorSameUnits
namespace Go.Proofs.YtfiahgahphammaaDoor
open Go Go.RowKit Go.Proofs.YtfiahgahphammaaDoorW.PrintWords Go.Proofs.YtfiahgahphammaaDoorW.PrintLast Go.Proofs.YtfiahgahphammaaDoorW.PrintMore
theorem emod_tmod (k n : Int) (h : 0 < n) : k % n = if Int.tmod k n < 0 then Int.tmod k n + n else Int.tmod k n := by
  have h1 := Int.tmod_eq_emod (a := k) (b := n)
  rw [h1]
  have := Int.emod_nonneg k (by omega : n ≠ 0)
  have := Int.emod_lt_of_pos k h
  have hna : (n.natAbs : Int) = n := Int.natAbs_of_nonneg (by omega)
  split <;> split <;> omega
set_option maxRecDepth 100000 in
theorem pick_any (k : Int) (n : Nat) (w : World) (hn : 1 ≤ n) (hn2 : n ≤ 4611686018427387904) :
    Calls Tryd.prog 23 #[.int .i64 k, .int .i64 n] w fun e w' => e = .returned (.int .i64 (k % n)) ∧ w = w' := by
  have l0 : decide (n < 1) = false := by simp; omega
  have l0' : decide ((n : Int) < 1) = false := by simp; omega
  have l1 : ((n : Int) == 0) = false := by simp; omega
  have l1' : (n == 0) = false := by simp; omega
  have hE := emod_tmod k n (by omega)
  have hb0 := Int.emod_nonneg k (by omega : (n : Int) ≠ 0)
  have hb1 := Int.emod_lt_of_pos k (show 0 < (n : Int) by omega)
  have HE := Sh.mk hE
  by_cases hneg : Int.tmod k n < 0
  · rw [if_pos hneg] at hE
    have l2 : decide (Int.tmod k n < 0) = true := by simpa using hneg
    have hr1 : -4611686018427387904 ≤ Int.tmod k n := by omega
    have hr2 : Int.tmod k n ≤ 4611686018427387904 := by omega
    have HE := Sh.mk hE
    clear hE hb0 hb1
    go_enter Tryd.func23, Tryd.ntmps23
    go_wp2
    go_ret
    exact ⟨by rw [HE.out]; rfl, rfl⟩
  · rw [if_neg hneg] at hE
    have l2 : decide (Int.tmod k n < 0) = false := by simpa using hneg
    have HE := Sh.mk hE
    have hr1 : 0 ≤ Int.tmod k n := by omega
    have hr2 : Int.tmod k n ≤ 4611686018427387904 := by omega
    clear hE hb0 hb1
    go_enter Tryd.func23, Tryd.ntmps23
    go_wp2
    go_ret
    exact ⟨by rw [HE.out]; rfl, rfl⟩
theorem units_first : unitsFrom { data := #[97, 195, 169, 128] } 4 0 = [(97, 0, 1), (233, 1, 3), (-1, 3, 4)] := by decide +kernel
/-- A literal row of three units, read. -/
theorem lit_C3 (W : World) (u0 u1 u2 : Int × Int × Int) : unitK.C (W.alloc (.cells #[.int .i64 u0.1, .int .i64 u0.2.1, .int .i64 u0.2.2, .int .i64 u1.1, .int .i64 u1.2.1, .int .i64 u1.2.2, .int .i64 u2.1, .int .i64 u2.2.1, .int .i64 u2.2.2] 39)) (some ⟨W.heap.size, 0, none⟩) 3 [u0, u1, u2] := by
  refine ⟨rfl, by omega, fun _ => ⟨_, rfl, fun j p hj => ?_⟩⟩
  refine ⟨[.int .i64 p.1, .int .i64 p.2.1, .int .i64 p.2.2], rfl, ⟨[.int .i64 p.1], [.int .i64 p.2.1, .int .i64 p.2.2], rfl, rfl, [.int .i64 p.2.1], [.int .i64 p.2.2], rfl, rfl, rfl⟩, fun i u hu => ?_⟩
  have e : ∀ m, (⟨W.heap.size, 0, none⟩ : Addr).add m = ⟨W.heap.size, m, none⟩ := fun m => by unfold Addr.add; split <;> simp_all
  rw [e, blk_cell (blk_new W _)]
  match j, hj with
  | 0, hj => cases hj; match i, hu with | 0, hu => cases hu; rfl | 1, hu => cases hu; rfl | 2, hu => cases hu; rfl
  | 1, hj => cases hj; match i, hu with | 0, hu => cases hu; rfl | 1, hu => cases hu; rfl | 2, hu => cases hu; rfl
  | 2, hj => cases hj; match i, hu with | 0, hu => cases hu; rfl | 1, hu => cases hu; rfl | 2, hu => cases hu; rfl
set_option maxRecDepth 100000 in
set_option maxHeartbeats 4000000 in
theorem first_any (w : World) (hf : FormsAt w) :
    Calls Tryd.prog 28 #[] w fun e w' => e = .returned (.bool true) ∧ Below w.heap.size w w' := by
  have HF := Sh.mk hf
  clear hf
  go_enter Tryd.func28, Tryd.ntmps28
  go_wp2_with fail
  refine (split_any { data := #[97, 195, 169, 128] } w HF.out (by decide)).mono ?_
  rintro e w1 ⟨v, rfl, ho, hb1⟩
  rw [show ({ data := #[97, 195, 169, 128] } : ByteArray).size = 4 from rfl, units_first] at ho
  obtain ⟨A, c, rfl, hc, hC⟩ := R_open ho 3 rfl
  have HC := Sh.mk hC
  have HB := Sh.mk hb1
  clear ho hC hb1
  go_wp2_with fail
  have HL := lit_C3 w1 (97, 0, 1) (233, 1, 3) (-1, 3, 4)
  have ha : Below w1.heap.size w1 (w1.alloc (.cells #[.int .i64 97, .int .i64 0, .int .i64 1, .int .i64 233, .int .i64 1, .int .i64 3, .int .i64 (-1), .int .i64 3, .int .i64 4] 39)) := (Below.refl _ _).alloc (Nat.le_refl _) _
  refine (sameUnits_any A _ c _ 3 3 _ _ _ (Kd.C_below HC.out ha) HL).mono ?_
  rintro e w2 ⟨rfl, hd⟩
  have HB2 := Sh.mk (below_of (below_of HB.out ha) hd.below)
  clear hd HL ha
  go_wp2
  go_ret
  exact ⟨rfl, HB2.out⟩
end Go.Proofs.YtfiahgahphammaaDoor
