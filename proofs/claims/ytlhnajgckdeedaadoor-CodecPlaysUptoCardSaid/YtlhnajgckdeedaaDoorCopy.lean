/-
caesurakit.Copy: a new row of the same bytes. Condition: at most 2^47 - 1 bytes.
-/
import Derived.Test.YtlhnajgckdeedaaDoorBytes
namespace Go.Proofs.YtlhnajgckdeedaaDoor
open Go Go.RowKit Go.Proofs.YtlhnajgckdeedaaDoorW.PrintWords Go.Proofs.YtlhnajgckdeedaaDoorW.PrintLast Go.Proofs.YtlhnajgckdeedaaDoorW.PrintMore
set_option maxRecDepth 100000 in
theorem copy_any (A : Option Addr) (c : Nat) (n : Nat) (l : List Int) (w : World) (hr : Kd.C (Kd.int .u8) w A n l) (hs : n ≤ 140737488355327) :
    Calls Tryd.prog 19 #[.slice A n c] w fun e w' => ∃ v, e = .returned v ∧ Kd.R (Kd.int .u8) 5 w' w.heap.size (fun _ => True) v l ∧ Below w.heap.size w w' := by
  have HR := Sh.mk hr
  have HN := Sh.mk hr.1
  clear hr
  go_enter Tryd.func19, Tryd.ntmps19
  go_wp2
  go_loopw [3, 4] (fun v i wr => ∃ k : Nat, k ≤ n ∧ i = .int .i64 k ∧ Sh (Kd.R (Kd.int .u8) 5 wr w.heap.size (fun _ => True) v (l.take k)) ∧ Sh (Below w.heap.size w wr)) (fun _ i _ => n - (intOf i).toNat)
  case atStart => exact ⟨0, by omega, rfl, ⟨Kd.R_nil _ _ _ _ _⟩, ⟨Below.refl _ _⟩⟩
  case round =>
    obtain ⟨k, hk, rfl, HO, HB⟩ := hrel
    by_cases hlt : k < n
    · obtain ⟨ad, e1, hx⟩ := C_at (Kd.C_below HR.out HB.out) k hlt
      cases e1
      have hlen : (l.take k).length ≤ k := List.length_take_le _ _
      go_wp2_with (first | ((with_reducible refine gate_builtin (b := .append) (xs := #[.tmp 11, .tmp 16]) rfl ?_); refine app_int 28 5 .u8 1 Tryd.underlying28 info_u8 (by omega) (w0 := w) (.tmp 11) (.tmp 16) _ _ _ rfl rfl rfl rfl HO HB (by omega) ?_; clear HO HB; intro v1 w1 HO HB))
      go_roundw
      case rel => exact ⟨k + 1, by omega, by go_num, by rw [take_snoc l k (by rw [HN.out]; exact hlt)]; exact HO, HB⟩
      case measure => simp [intOf]; omega
    · have e : l.take k = l := List.take_of_length_le (by rw [HN.out]; omega)
      rw [e] at HO
      go_wp2
      go_ret
      exact ⟨_, rfl, HO.out, HB.out⟩
end Go.Proofs.YtlhnajgckdeedaaDoor
