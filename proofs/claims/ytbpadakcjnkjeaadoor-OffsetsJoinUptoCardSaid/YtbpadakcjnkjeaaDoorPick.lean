/-
caesurakit.Pick, walked. No condition.
-/
import Derived.Test.YtbpadakcjnkjeaaDoorAp
namespace Go.Proofs.YtbpadakcjnkjeaaDoor
open Go Go.RowKit Go.Proofs.YtbpadakcjnkjeaaDoorW.PrintWords Go.Proofs.YtbpadakcjnkjeaaDoorW.PrintLast Go.Proofs.YtbpadakcjnkjeaaDoorW.PrintMore
set_option maxRecDepth 100000
theorem emod_tmod (k n : Int) (h : 0 < n) : k % n = if Int.tmod k n < 0 then Int.tmod k n + n else Int.tmod k n := by
  have h1 := Int.tmod_eq_emod (a := k) (b := n)
  rw [h1]
  have := Int.emod_nonneg k (by omega : n ≠ 0)
  have := Int.emod_lt_of_pos k h
  have hna : (n.natAbs : Int) = n := Int.natAbs_of_nonneg (by omega)
  split <;> split <;> omega
set_option maxRecDepth 100000 in
theorem pick_any (k : Int) (n : Nat) (w : World) (hn : 1 ≤ n) (hn2 : n ≤ 4611686018427387904) :
    Calls Tryd.prog 17 #[.int .i64 k, .int .i64 n] w fun e w' => e = .returned (.int .i64 (k % n)) ∧ w = w' := by
  have l0 : decide (n < 1) = false := by simp; omega
  have l0' : decide ((n : Int) < 1) = false := by simp; omega
  have l1 : ((n : Int) == 0) = false := by simp; omega
  have l1' : (n == 0) = false := by simp; omega
  have hE := emod_tmod k n (by omega)
  have hb0 := Int.emod_nonneg k (by omega : (n : Int) ≠ 0)
  have hb1 := Int.emod_lt_of_pos k (show 0 < (n : Int) by omega)
  have HE := Sh.mk hE
  by_cases hneg : Int.tmod k n < 0
  · rw [if_pos hneg] at hE
    have l2 : decide (Int.tmod k n < 0) = true := by simpa using hneg
    have hr1 : -4611686018427387904 ≤ Int.tmod k n := by omega
    have hr2 : Int.tmod k n ≤ 4611686018427387904 := by omega
    have HE := Sh.mk hE
    clear hE hb0 hb1
    go_enter Tryd.func17, Tryd.ntmps17
    go_wp2
    go_ret
    exact ⟨by rw [HE.out]; rfl, rfl⟩
  · rw [if_neg hneg] at hE
    have l2 : decide (Int.tmod k n < 0) = false := by simpa using hneg
    have HE := Sh.mk hE
    have hr1 : 0 ≤ Int.tmod k n := by omega
    have hr2 : Int.tmod k n ≤ 4611686018427387904 := by omega
    clear hE hb0 hb1
    go_enter Tryd.func17, Tryd.ntmps17
    go_wp2
    go_ret
    exact ⟨by rw [HE.out]; rfl, rfl⟩
end Go.Proofs.YtbpadakcjnkjeaaDoor
