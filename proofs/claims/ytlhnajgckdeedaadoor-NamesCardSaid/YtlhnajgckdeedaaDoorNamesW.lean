/-
caesuralaw0.Names answers true: the sentinels are apart, the tables agree. Conditions: the listed variables read as listed.
-/
import Derived.Test.YtlhnajgckdeedaaDoorRefusals
import Derived.Deep.QuietTactic
import Derived.BigQuiet
namespace Go.Proofs.YtlhnajgckdeedaaDoor
open Go Go.RowKit
/-- A table of ints. -/
def TabAt (g : Nat) (zs : List Int) (w : World) : Prop := ∀ i, i < zs.length → w.cell? ⟨g, i, none⟩ = some (.int .i64 (zs.getD i 0))
theorem TabAt.below {g : Nat} {zs : List Int} {w w1 : World} (h : TabAt g zs w) (hb : Below w.heap.size w w1) : TabAt g zs w1 :=
  fun i hi => (hb.cell (World.block_lt_of_cell? w _ (h i hi))).trans (h i hi)
theorem belowN {w w1 : World} (h : Below w.heap.size w w1) (n : Nat) : Below w.heap.size w (w1.drewN n) := ⟨h.os, h.tape, h.output, h.size, h.block⟩
set_option maxRecDepth 100000 in
set_option maxHeartbeats 4000000 in
theorem names_any (E : Nat → Addr) (zs ks : List Int) (hz : zs.length = 25) (hk : ks.length = 11) (w : World) (h : GS allS E w) (h0 : TabAt 0 zs w) (h1 : TabAt 1 zs w) (h2 : TabAt 2 ks w) (h3 : TabAt 3 ks w) :
    Calls Tryd.prog 3 #[] w fun e w' => e = .returned (.bool true) ∧ Below w.heap.size w w' := by
  have HZ := Sh.mk hz
  have HK := Sh.mk hk
  have H0 := Sh.mk h0
  have H1 := Sh.mk h1
  have H2 := Sh.mk h2
  have H3 := Sh.mk h3
  clear hz hk h0 h1 h2 h3
  go_enter Tryd.func3, Tryd.ntmps3
  go_wp2_with (go_at_call 11; refine (refusals_any E _ h).mono ?_; rintro e w1 ⟨rfl, hb⟩)
  have HB := Sh.mk hb
  clear hb
  go_loopw [2] (fun i wr => ∃ k : Nat, k ≤ 25 ∧ i = .int .i64 k ∧ Sh (Below w.heap.size w wr)) (fun i _ => 25 - (intOf i).toNat)
  case atStart => exact ⟨0, by omega, rfl, HB⟩
  case round =>
    obtain ⟨k, hk, rfl, HR⟩ := hrel
    by_cases hlt : k < 25
    · have c0 := (H0.out.below HR.out) k (by rw [HZ.out]; exact hlt)
      have c1 := (H1.out.below HR.out) k (by rw [HZ.out]; exact hlt)
      go_wp2
      go_quiet (fail)
      go_wp2
      go_roundw
      case rel => exact ⟨k + 1, by omega, by go_num, ⟨belowN HR.out _⟩⟩
      case measure => simp [intOf]; omega
    · go_wp2
      go_loopw [3] (fun i ws => ∃ k : Nat, k ≤ 11 ∧ i = .int .i64 k ∧ Sh (Below w.heap.size w ws)) (fun i _ => 11 - (intOf i).toNat)
      case atStart => exact ⟨0, by omega, rfl, HR⟩
      case round =>
        obtain ⟨j, hj, rfl, HS⟩ := hrel
        by_cases hlt : j < 11
        · have c0 := (H2.out.below HS.out) j (by rw [HK.out]; exact hlt)
          have c1 := (H3.out.below HS.out) j (by rw [HK.out]; exact hlt)
          go_wp2
          go_quiet (fail)
          go_wp2
          go_roundw
          case rel => exact ⟨j + 1, by omega, by go_num, ⟨belowN HS.out _⟩⟩
          case measure => simp [intOf]; omega
        · go_wp2
          go_ret
          exact ⟨rfl, HS.out⟩
end Go.Proofs.YtlhnajgckdeedaaDoor
