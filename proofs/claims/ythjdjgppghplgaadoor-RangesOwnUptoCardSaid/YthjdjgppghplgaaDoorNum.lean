/-
caesurakit.Num at nil and at each of the eleven refusals. Conditions: the sentinels lie as the list says.
-/
import Derived.Test.YthjdjgppghplgaaDoorSen
namespace Go.Proofs.YthjdjgppghplgaaDoor
open Go Go.RowKit
abbrev allS : List Nat := [1, 2, 3, 4, 5, 6, 7, 8, 9, 10, 11]
/-- The number of a refusal. -/
def numOf : Option Nat → Int
  | none => 0
  | some g => (g : Int)
set_option maxRecDepth 100000 in
theorem num_nil (w : World) :
    Calls Tryd.prog 40 #[.nilIface] w fun e w' => e = .returned (.int .i64 0) ∧ w = w' := by
  go_enter Tryd.func40, Tryd.ntmps40
  go_wp2
  go_ret
  exact ⟨rfl, rfl⟩
set_option maxRecDepth 100000 in
theorem num_1 (E : Nat → Addr) (w : World) (h : GS allS E w) :
    Calls Tryd.prog 40 #[.iface 95 (.pointer (some (E 1)))] w fun e w' => e = .returned (.int .i64 1) ∧ w = w' := by
  have c1 := (h.s 1 (by decide)).cell
  simp only [errG] at c1
  have e1 := eq_same w (E 1)
  go_enter Tryd.func40, Tryd.ntmps40
  go_wp2
  go_ret
  exact ⟨rfl, rfl⟩
set_option maxRecDepth 100000 in
theorem num_2 (E : Nat → Addr) (w : World) (h : GS allS E w) :
    Calls Tryd.prog 40 #[.iface 95 (.pointer (some (E 2)))] w fun e w' => e = .returned (.int .i64 2) ∧ w = w' := by
  have c1 := (h.s 1 (by decide)).cell
  have c2 := (h.s 2 (by decide)).cell
  simp only [errG] at c1 c2
  have e1 := eq_other h 2 1 (by decide) (by decide) (by decide)
  have e2 := eq_same w (E 2)
  go_enter Tryd.func40, Tryd.ntmps40
  go_wp2
  go_ret
  exact ⟨rfl, rfl⟩
set_option maxRecDepth 100000 in
theorem num_3 (E : Nat → Addr) (w : World) (h : GS allS E w) :
    Calls Tryd.prog 40 #[.iface 95 (.pointer (some (E 3)))] w fun e w' => e = .returned (.int .i64 3) ∧ w = w' := by
  have c1 := (h.s 1 (by decide)).cell
  have c2 := (h.s 2 (by decide)).cell
  have c3 := (h.s 3 (by decide)).cell
  simp only [errG] at c1 c2 c3
  have e1 := eq_other h 3 1 (by decide) (by decide) (by decide)
  have e2 := eq_other h 3 2 (by decide) (by decide) (by decide)
  have e3 := eq_same w (E 3)
  go_enter Tryd.func40, Tryd.ntmps40
  go_wp2
  go_ret
  exact ⟨rfl, rfl⟩
set_option maxRecDepth 100000 in
theorem num_4 (E : Nat → Addr) (w : World) (h : GS allS E w) :
    Calls Tryd.prog 40 #[.iface 95 (.pointer (some (E 4)))] w fun e w' => e = .returned (.int .i64 4) ∧ w = w' := by
  have c1 := (h.s 1 (by decide)).cell
  have c2 := (h.s 2 (by decide)).cell
  have c3 := (h.s 3 (by decide)).cell
  have c4 := (h.s 4 (by decide)).cell
  simp only [errG] at c1 c2 c3 c4
  have e1 := eq_other h 4 1 (by decide) (by decide) (by decide)
  have e2 := eq_other h 4 2 (by decide) (by decide) (by decide)
  have e3 := eq_other h 4 3 (by decide) (by decide) (by decide)
  have e4 := eq_same w (E 4)
  go_enter Tryd.func40, Tryd.ntmps40
  go_wp2
  go_ret
  exact ⟨rfl, rfl⟩
set_option maxRecDepth 100000 in
theorem num_5 (E : Nat → Addr) (w : World) (h : GS allS E w) :
    Calls Tryd.prog 40 #[.iface 95 (.pointer (some (E 5)))] w fun e w' => e = .returned (.int .i64 5) ∧ w = w' := by
  have c1 := (h.s 1 (by decide)).cell
  have c2 := (h.s 2 (by decide)).cell
  have c3 := (h.s 3 (by decide)).cell
  have c4 := (h.s 4 (by decide)).cell
  have c5 := (h.s 5 (by decide)).cell
  simp only [errG] at c1 c2 c3 c4 c5
  have e1 := eq_other h 5 1 (by decide) (by decide) (by decide)
  have e2 := eq_other h 5 2 (by decide) (by decide) (by decide)
  have e3 := eq_other h 5 3 (by decide) (by decide) (by decide)
  have e4 := eq_other h 5 4 (by decide) (by decide) (by decide)
  have e5 := eq_same w (E 5)
  go_enter Tryd.func40, Tryd.ntmps40
  go_wp2
  go_ret
  exact ⟨rfl, rfl⟩
set_option maxRecDepth 100000 in
theorem num_6 (E : Nat → Addr) (w : World) (h : GS allS E w) :
    Calls Tryd.prog 40 #[.iface 95 (.pointer (some (E 6)))] w fun e w' => e = .returned (.int .i64 6) ∧ w = w' := by
  have c1 := (h.s 1 (by decide)).cell
  have c2 := (h.s 2 (by decide)).cell
  have c3 := (h.s 3 (by decide)).cell
  have c4 := (h.s 4 (by decide)).cell
  have c5 := (h.s 5 (by decide)).cell
  have c6 := (h.s 6 (by decide)).cell
  simp only [errG] at c1 c2 c3 c4 c5 c6
  have e1 := eq_other h 6 1 (by decide) (by decide) (by decide)
  have e2 := eq_other h 6 2 (by decide) (by decide) (by decide)
  have e3 := eq_other h 6 3 (by decide) (by decide) (by decide)
  have e4 := eq_other h 6 4 (by decide) (by decide) (by decide)
  have e5 := eq_other h 6 5 (by decide) (by decide) (by decide)
  have e6 := eq_same w (E 6)
  go_enter Tryd.func40, Tryd.ntmps40
  go_wp2
  go_ret
  exact ⟨rfl, rfl⟩
set_option maxRecDepth 100000 in
theorem num_7 (E : Nat → Addr) (w : World) (h : GS allS E w) :
    Calls Tryd.prog 40 #[.iface 95 (.pointer (some (E 7)))] w fun e w' => e = .returned (.int .i64 7) ∧ w = w' := by
  have c1 := (h.s 1 (by decide)).cell
  have c2 := (h.s 2 (by decide)).cell
  have c3 := (h.s 3 (by decide)).cell
  have c4 := (h.s 4 (by decide)).cell
  have c5 := (h.s 5 (by decide)).cell
  have c6 := (h.s 6 (by decide)).cell
  have c7 := (h.s 7 (by decide)).cell
  simp only [errG] at c1 c2 c3 c4 c5 c6 c7
  have e1 := eq_other h 7 1 (by decide) (by decide) (by decide)
  have e2 := eq_other h 7 2 (by decide) (by decide) (by decide)
  have e3 := eq_other h 7 3 (by decide) (by decide) (by decide)
  have e4 := eq_other h 7 4 (by decide) (by decide) (by decide)
  have e5 := eq_other h 7 5 (by decide) (by decide) (by decide)
  have e6 := eq_other h 7 6 (by decide) (by decide) (by decide)
  have e7 := eq_same w (E 7)
  go_enter Tryd.func40, Tryd.ntmps40
  go_wp2
  go_ret
  exact ⟨rfl, rfl⟩
set_option maxRecDepth 100000 in
theorem num_8 (E : Nat → Addr) (w : World) (h : GS allS E w) :
    Calls Tryd.prog 40 #[.iface 95 (.pointer (some (E 8)))] w fun e w' => e = .returned (.int .i64 8) ∧ w = w' := by
  have c1 := (h.s 1 (by decide)).cell
  have c2 := (h.s 2 (by decide)).cell
  have c3 := (h.s 3 (by decide)).cell
  have c4 := (h.s 4 (by decide)).cell
  have c5 := (h.s 5 (by decide)).cell
  have c6 := (h.s 6 (by decide)).cell
  have c7 := (h.s 7 (by decide)).cell
  have c8 := (h.s 8 (by decide)).cell
  simp only [errG] at c1 c2 c3 c4 c5 c6 c7 c8
  have e1 := eq_other h 8 1 (by decide) (by decide) (by decide)
  have e2 := eq_other h 8 2 (by decide) (by decide) (by decide)
  have e3 := eq_other h 8 3 (by decide) (by decide) (by decide)
  have e4 := eq_other h 8 4 (by decide) (by decide) (by decide)
  have e5 := eq_other h 8 5 (by decide) (by decide) (by decide)
  have e6 := eq_other h 8 6 (by decide) (by decide) (by decide)
  have e7 := eq_other h 8 7 (by decide) (by decide) (by decide)
  have e8 := eq_same w (E 8)
  go_enter Tryd.func40, Tryd.ntmps40
  go_wp2
  go_ret
  exact ⟨rfl, rfl⟩
set_option maxRecDepth 100000 in
theorem num_9 (E : Nat → Addr) (w : World) (h : GS allS E w) :
    Calls Tryd.prog 40 #[.iface 95 (.pointer (some (E 9)))] w fun e w' => e = .returned (.int .i64 9) ∧ w = w' := by
  have c1 := (h.s 1 (by decide)).cell
  have c2 := (h.s 2 (by decide)).cell
  have c3 := (h.s 3 (by decide)).cell
  have c4 := (h.s 4 (by decide)).cell
  have c5 := (h.s 5 (by decide)).cell
  have c6 := (h.s 6 (by decide)).cell
  have c7 := (h.s 7 (by decide)).cell
  have c8 := (h.s 8 (by decide)).cell
  have c9 := (h.s 9 (by decide)).cell
  simp only [errG] at c1 c2 c3 c4 c5 c6 c7 c8 c9
  have e1 := eq_other h 9 1 (by decide) (by decide) (by decide)
  have e2 := eq_other h 9 2 (by decide) (by decide) (by decide)
  have e3 := eq_other h 9 3 (by decide) (by decide) (by decide)
  have e4 := eq_other h 9 4 (by decide) (by decide) (by decide)
  have e5 := eq_other h 9 5 (by decide) (by decide) (by decide)
  have e6 := eq_other h 9 6 (by decide) (by decide) (by decide)
  have e7 := eq_other h 9 7 (by decide) (by decide) (by decide)
  have e8 := eq_other h 9 8 (by decide) (by decide) (by decide)
  have e9 := eq_same w (E 9)
  go_enter Tryd.func40, Tryd.ntmps40
  go_wp2
  go_ret
  exact ⟨rfl, rfl⟩
set_option maxRecDepth 100000 in
theorem num_10 (E : Nat → Addr) (w : World) (h : GS allS E w) :
    Calls Tryd.prog 40 #[.iface 95 (.pointer (some (E 10)))] w fun e w' => e = .returned (.int .i64 10) ∧ w = w' := by
  have c1 := (h.s 1 (by decide)).cell
  have c2 := (h.s 2 (by decide)).cell
  have c3 := (h.s 3 (by decide)).cell
  have c4 := (h.s 4 (by decide)).cell
  have c5 := (h.s 5 (by decide)).cell
  have c6 := (h.s 6 (by decide)).cell
  have c7 := (h.s 7 (by decide)).cell
  have c8 := (h.s 8 (by decide)).cell
  have c9 := (h.s 9 (by decide)).cell
  have c10 := (h.s 10 (by decide)).cell
  simp only [errG] at c1 c2 c3 c4 c5 c6 c7 c8 c9 c10
  have e1 := eq_other h 10 1 (by decide) (by decide) (by decide)
  have e2 := eq_other h 10 2 (by decide) (by decide) (by decide)
  have e3 := eq_other h 10 3 (by decide) (by decide) (by decide)
  have e4 := eq_other h 10 4 (by decide) (by decide) (by decide)
  have e5 := eq_other h 10 5 (by decide) (by decide) (by decide)
  have e6 := eq_other h 10 6 (by decide) (by decide) (by decide)
  have e7 := eq_other h 10 7 (by decide) (by decide) (by decide)
  have e8 := eq_other h 10 8 (by decide) (by decide) (by decide)
  have e9 := eq_other h 10 9 (by decide) (by decide) (by decide)
  have e10 := eq_same w (E 10)
  go_enter Tryd.func40, Tryd.ntmps40
  go_wp2
  go_ret
  exact ⟨rfl, rfl⟩
set_option maxRecDepth 100000 in
theorem num_11 (E : Nat → Addr) (w : World) (h : GS allS E w) :
    Calls Tryd.prog 40 #[.iface 95 (.pointer (some (E 11)))] w fun e w' => e = .returned (.int .i64 11) ∧ w = w' := by
  have c1 := (h.s 1 (by decide)).cell
  have c2 := (h.s 2 (by decide)).cell
  have c3 := (h.s 3 (by decide)).cell
  have c4 := (h.s 4 (by decide)).cell
  have c5 := (h.s 5 (by decide)).cell
  have c6 := (h.s 6 (by decide)).cell
  have c7 := (h.s 7 (by decide)).cell
  have c8 := (h.s 8 (by decide)).cell
  have c9 := (h.s 9 (by decide)).cell
  have c10 := (h.s 10 (by decide)).cell
  have c11 := (h.s 11 (by decide)).cell
  simp only [errG] at c1 c2 c3 c4 c5 c6 c7 c8 c9 c10 c11
  have e1 := eq_other h 11 1 (by decide) (by decide) (by decide)
  have e2 := eq_other h 11 2 (by decide) (by decide) (by decide)
  have e3 := eq_other h 11 3 (by decide) (by decide) (by decide)
  have e4 := eq_other h 11 4 (by decide) (by decide) (by decide)
  have e5 := eq_other h 11 5 (by decide) (by decide) (by decide)
  have e6 := eq_other h 11 6 (by decide) (by decide) (by decide)
  have e7 := eq_other h 11 7 (by decide) (by decide) (by decide)
  have e8 := eq_other h 11 8 (by decide) (by decide) (by decide)
  have e9 := eq_other h 11 9 (by decide) (by decide) (by decide)
  have e10 := eq_other h 11 10 (by decide) (by decide) (by decide)
  have e11 := eq_same w (E 11)
  go_enter Tryd.func40, Tryd.ntmps40
  go_wp2
  go_ret
  exact ⟨rfl, rfl⟩
/-- Num of any error that is nil or one of the eleven. -/
theorem num_any (E : Nat → Addr) (w : World) (h : GS allS E w) (e : Option Nat) (he : ∀ g, e = some g → g ∈ allS) :
    Calls Tryd.prog 40 #[errV E e] w fun e' w' => e' = .returned (.int .i64 (numOf e)) ∧ w = w' := by
  cases e with
  | none => exact num_nil w
  | some g =>
    have hg := he g rfl
    simp only [allS, List.mem_cons, List.not_mem_nil, or_false] at hg
    rcases hg with rfl | rfl | rfl | rfl | rfl | rfl | rfl | rfl | rfl | rfl | rfl
    · exact num_1 E w h
    · exact num_2 E w h
    · exact num_3 E w h
    · exact num_4 E w h
    · exact num_5 E w h
    · exact num_6 E w h
    · exact num_7 E w h
    · exact num_8 E w h
    · exact num_9 E w h
    · exact num_10 E w h
    · exact num_11 E w h
end Go.Proofs.YthjdjgppghplgaaDoor
