/-
caesuralaw3.kept: a list with one more behind it is as it was. Conditions: at most 2^20 ranges.
-/
import Derived.Test.YthjdjgppghplgaaDoorRgAnsW
import Derived.Deep.RegionHeld3
import Derived.Deep.DrawnRows
namespace Go.Proofs.YthjdjgppghplgaaDoor
open Go Go.RowKit Go.Proofs.YthjdjgppghplgaaDoorW.PrintWords Go.Proofs.YthjdjgppghplgaaDoorW.PrintLast Go.Proofs.YthjdjgppghplgaaDoorW.PrintMore
structure KC (w W : World) (A B : Option Addr) (n : Nat) (l : List Rg) : Prop where
  bel : Below w.heap.size w W
  f : rgK.C W A (n + 1) (l ++ [(77, 7)])
  l : rgK.C W B n l
theorem KC.below {w W W1 : World} {A B : Option Addr} {n : Nat} {l : List Rg} (h : KC w W A B n l) (hb : Below W.heap.size W W1) : KC w W1 A B n l := ⟨below_of h.bel hb, Kd.C_below h.f hb, Kd.C_below h.l hb⟩
abbrev SK (w : World) (ad : Addr) (B : Option Addr) (n : Nat) (l : List Rg) (W : World) : Prop := W.cell? (ad.add (n * 2)) = some (.int .i64 77) ∧ W.cell? ⟨(ad.add (n * 2)).block, (ad.add (n * 2)).off + 1, none⟩ = some (.int .i64 7) ∧ Sh (KC w W (some ad) B n l)
theorem SK.of {w W : World} {ad : Addr} {B : Option Addr} {n : Nat} {l : List Rg} (h : KC w W (some ad) B n l) : SK w ad B n l W := by
  obtain ⟨ad', e, h0, h1⟩ := C_rg h.f n (by omega)
  cases e
  have e2 : rdR (l ++ [(77, 7)]) n = (77, 7) := by have := rd_last l (77, 7); rw [h.l.1] at this; exact this
  rw [e2] at h0 h1
  exact ⟨h0, h1, ⟨h⟩⟩
theorem SK.drew {w W : World} {ad : Addr} {B : Option Addr} {n : Nat} {l : List Rg} (h : SK w ad B n l W) : SK w ad B n l W.drew := SK.of (h.2.2.out.below (below_drew (Below.refl _ _)))
theorem SK.below {w W W1 : World} {ad : Addr} {B : Option Addr} {n : Nat} {l : List Rg} (h : SK w ad B n l W) (hb : Below W.heap.size W W1) : SK w ad B n l W1 := SK.of (h.2.2.out.below hb)
theorem skk {w W : World} {ad : Addr} {B : Option Addr} {n : Nat} {l : List Rg} (h : SK w ad B n l W) : KC w W (some ad) B n l := h.2.2.out
theorem take_snoc_one (l : List Rg) (x : Rg) {n : Nat} (h : l.length = n) : (l ++ [x]).take n = l := by rw [← h]; simp
set_option maxHeartbeats 8000000 in
set_option maxRecDepth 100000 in
theorem kept_any (A B : Option Addr) (cA cB n : Nat) (l : List Rg) (w : World) (hA : rgK.C w A (n + 1) (l ++ [(77, 7)])) (hB : rgK.C w B n l) (hcA : n + 1 ≤ cA) (hcB : n ≤ cB) (hn : n ≤ 1048576) :
    Calls Tryd.prog 18 #[.slice A (n + 1) cA, .slice B n cB] w fun e w' => e = .returned (.bool true) ∧ Below w.heap.size w w' := by
  obtain ⟨ad, rfl, _, _⟩ := C_rg hA n (by omega)
  have hsk := SK.of (w := w) (W := w) ⟨Below.refl _ _, hA, hB⟩
  have HLl := Sh.mk hB.1
  have HSM : ∀ (W : World), SK w ad B n l W → Calls Tryd.prog 21 #[.slice (some ad) n cA, .slice B n cB] W fun e w' => e = .returned (.bool true) ∧ Below W.heap.size W w' := fun W h => by
    have hf := C_take (skk h).f n (by omega)
    rw [take_snoc_one l _ HLl.out] at hf
    refine (same_any (some ad) B cA cB n n l l W hf (skk h).l (by omega) hcB (by omega)).mono ?_
    rintro e w' ⟨rfl, hd⟩
    exact ⟨by rw [decide_eq_true rfl], hd.below⟩
  have HSM := Sh.mk HSM
  have q1 : IntKind.i64.wrap ((n : Int) + 1) = (n : Int) + 1 := IntWalk.i64_in _ (by omega)
  have q2 : (0 : Int) ≤ (n : Int) := by omega
  have q3 : (n : Int) ≤ (cA : Int) := by omega
  have q4 : (n : Int) < (n : Int) + 1 := by omega
  obtain ⟨y0, y1, HK⟩ := hsk
  clear hA hB
  go_enter Tryd.func18, Tryd.ntmps18
  go_wp2_with fail
  go_region_held3 (SK w ad B n l) (first | assumption | exact SK.drew (by assumption) | exact SK.of (HK.out.below (below_drew (Below.refl _ _))) | exact SK.below (by assumption) (by assumption))
    (first
      | (go_at_call 21; refine (HSM.out _ (by assumption)).mono ?_; rintro e w4 ⟨rfl, hb4⟩)
      | (go_at_call 16; refine (behind_any _).mono ?_; rintro e w4 ⟨rfl, hb4⟩))
  all_goals go_wp2
  all_goals (go_ret; exact ⟨rfl, (skk (by assumption)).bel⟩)
end Go.Proofs.YthjdjgppghplgaaDoor
