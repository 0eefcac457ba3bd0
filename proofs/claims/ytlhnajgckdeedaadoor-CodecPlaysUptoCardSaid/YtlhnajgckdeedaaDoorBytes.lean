/-
caesurakit.Bytes: a new row of a text's bytes. Condition: the text has at most 2^47 - 1 bytes.
-/
import Derived.Test.YtlhnajgckdeedaaDoorAp
namespace Go.Proofs.YtlhnajgckdeedaaDoor
open Go Go.RowKit Go.Proofs.YtlhnajgckdeedaaDoorW.PrintWords Go.Proofs.YtlhnajgckdeedaaDoorW.PrintLast Go.Proofs.YtlhnajgckdeedaaDoorW.PrintMore
set_option maxRecDepth 100000 in
theorem bytes_any (s : ByteArray) (w : World) (hs : s.size ≤ 140737488355327) :
    Calls Tryd.prog 16 #[.string s] w fun e w' => ∃ v, e = .returned v ∧ Kd.R (Kd.int .u8) 5 w' w.heap.size (fun _ => True) v (bytesOf s) ∧ Below w.heap.size w w' := by
  go_enter Tryd.func16, Tryd.ntmps16
  go_wp2
  go_loopw [3, 4] (fun v i wr => ∃ k : Nat, k ≤ s.size ∧ i = .int .i64 k ∧ Sh (Kd.R (Kd.int .u8) 5 wr w.heap.size (fun _ => True) v ((bytesOf s).take k)) ∧ Sh (Below w.heap.size w wr)) (fun _ i _ => s.size - (intOf i).toNat)
  case atStart => exact ⟨0, by omega, rfl, ⟨Kd.R_nil _ _ _ _ _⟩, ⟨Below.refl _ _⟩⟩
  case round =>
    obtain ⟨k, hk, rfl, HO, HB⟩ := hrel
    by_cases hlt : k < s.size
    · have hx := bt_nat s k
      have hlen : ((bytesOf s).take k).length ≤ k := List.length_take_le _ _
      go_wp2_with (first | ((with_reducible refine gate_builtin (b := .append) (xs := #[.tmp 11, .tmp 15]) rfl ?_); refine app_int 28 5 .u8 1 Tryd.underlying28 info_u8 (by omega) (w0 := w) (.tmp 11) (.tmp 15) _ _ _ rfl rfl rfl rfl HO HB (by omega) ?_; clear HO HB; intro v1 w1 HO HB))
      go_roundw
      case rel => exact ⟨k + 1, by omega, by go_num, by rw [takeB s k hlt]; exact HO, HB⟩
      case measure => simp [intOf]; omega
    · have e : (bytesOf s).take k = bytesOf s := List.take_of_length_le (by have := bytesOf_length s; omega)
      rw [e] at HO
      go_wp2
      go_ret
      exact ⟨_, rfl, HO.out, HB.out⟩
end Go.Proofs.YtlhnajgckdeedaaDoor
