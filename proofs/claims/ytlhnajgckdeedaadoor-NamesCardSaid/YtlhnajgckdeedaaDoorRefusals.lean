/-
caesuralaw0.refusals answers true. Conditions: the sentinels lie as the list says.
-/
import Derived.Test.YtlhnajgckdeedaaDoorNum

import Derived.StillTailTactics
namespace Go.Proofs.YtlhnajgckdeedaaDoor
open Go Go.RowKit
theorem still_of {f : Nat} {args : Array Value} {w : World} {v : Value} (h : Calls Tryd.prog f args w fun e w' => e = .returned v ∧ w = w') : Calls Tryd.prog f args w fun e w' => e = .returned v ∧ w' = w :=
  h.mono fun _ _ ⟨a, b⟩ => ⟨a, b.symm⟩
set_option maxRecDepth 100000 in
set_option maxHeartbeats 4000000 in
theorem refusals_any (E : Nat → Addr) (w : World) (h : GS allS E w) :
    Calls Tryd.prog 11 #[] w fun e w' => e = .returned (.bool true) ∧ Below w.heap.size w w' := by
  have hd : GS allS E w.drew := h.below (Below.refl _ _).drew
  have c4 := (h.s 4 (by decide)).cell
  have c5 := (h.s 5 (by decide)).cell
  have c6 := (h.s 6 (by decide)).cell
  have c7 := (h.s 7 (by decide)).cell
  have c8 := (h.s 8 (by decide)).cell
  have c9 := (h.s 9 (by decide)).cell
  have c10 := (h.s 10 (by decide)).cell
  have c11 := (h.s 11 (by decide)).cell
  have c12 := (h.s 12 (by decide)).cell
  have c13 := (h.s 13 (by decide)).cell
  have c14 := (h.s 14 (by decide)).cell
  go_enter Tryd.func11, Tryd.ntmps11
  go_wp2
  go_still_tail 22, (by kernel_rfl)
  still_call (still_of (num_4 E _ hd))
  repeat still_step
  still_call (still_of (num_5 E _ hd))
  repeat still_step
  still_call (still_of (num_6 E _ hd))
  repeat still_step
  still_call (still_of (num_7 E _ hd))
  repeat still_step
  still_call (still_of (num_8 E _ hd))
  repeat still_step
  still_call (still_of (num_9 E _ hd))
  repeat still_step
  still_call (still_of (num_10 E _ hd))
  repeat still_step
  still_call (still_of (num_11 E _ hd))
  repeat still_step
  still_call (still_of (num_12 E _ hd))
  repeat still_step
  still_call (still_of (num_13 E _ hd))
  repeat still_step
  still_call (still_of (num_14 E _ hd))
  repeat still_step
  refine wpStill_nil ?_
  change wpList _ _ _ _ _ w.drew
  go_wp2
  go_loop [2] (fun i => ∃ k : Nat, k ≤ 11 ∧ i = .int .i64 k) (fun i => 11 - (intOf i).toNat)
  case atStart => exact ⟨0, by omega, rfl⟩
  case round =>
    obtain ⟨k, hk, rfl⟩ := hrel
    have hk' : k = 0 ∨ k = 1 ∨ k = 2 ∨ k = 3 ∨ k = 4 ∨ k = 5 ∨ k = 6 ∨ k = 7 ∨ k = 8 ∨ k = 9 ∨ k = 10 ∨ k = 11 := by omega
    clear hk
    rcases hk' with rfl | rfl | rfl | rfl | rfl | rfl | rfl | rfl | rfl | rfl | rfl | rfl

    · go_wp2
      exact ⟨⟨1, by omega, rfl⟩, by simp [intOf]⟩
    · go_wp2
      exact ⟨⟨2, by omega, rfl⟩, by simp [intOf]⟩
    · go_wp2
      exact ⟨⟨3, by omega, rfl⟩, by simp [intOf]⟩
    · go_wp2
      exact ⟨⟨4, by omega, rfl⟩, by simp [intOf]⟩
    · go_wp2
      exact ⟨⟨5, by omega, rfl⟩, by simp [intOf]⟩
    · go_wp2
      exact ⟨⟨6, by omega, rfl⟩, by simp [intOf]⟩
    · go_wp2
      exact ⟨⟨7, by omega, rfl⟩, by simp [intOf]⟩
    · go_wp2
      exact ⟨⟨8, by omega, rfl⟩, by simp [intOf]⟩
    · go_wp2
      exact ⟨⟨9, by omega, rfl⟩, by simp [intOf]⟩
    · go_wp2
      exact ⟨⟨10, by omega, rfl⟩, by simp [intOf]⟩
    · go_wp2
      exact ⟨⟨11, by omega, rfl⟩, by simp [intOf]⟩
    · go_wp2
      go_ret
      exact ⟨rfl, ((Below.refl _ _).alloc (Nat.le_refl _) _).drew⟩
end Go.Proofs.YtlhnajgckdeedaaDoor
