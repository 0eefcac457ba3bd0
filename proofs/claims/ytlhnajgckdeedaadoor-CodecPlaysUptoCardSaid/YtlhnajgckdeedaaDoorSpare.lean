/-
caesuralaw1.spare and kept: a text's bytes with 64 marks behind; they are as they were. Conditions: at most 2^47 - 128 bytes.
-/
import Derived.Test.YtlhnajgckdeedaaDoorCopy
import Derived.Deep.QuietTactic
import Derived.BigQuiet
namespace Go.Proofs.YtlhnajgckdeedaaDoor
open Go Go.RowKit Go.Proofs.YtlhnajgckdeedaaDoorW.PrintWords Go.Proofs.YtlhnajgckdeedaaDoorW.PrintLast Go.Proofs.YtlhnajgckdeedaaDoorW.PrintMore
/-- The marks behind. -/
def markAt (i : Nat) : Int := 200 + (i : Int) % 7
def marks (n : Nat) : List Int := (List.range n).map markAt
theorem marks_len (n : Nat) : (marks n).length = n := by simp [marks]
theorem marks_succ (n : Nat) : marks (n + 1) = marks n ++ [markAt n] := by simp [marks, List.range_succ]
set_option maxRecDepth 100000 in
theorem spare_any (s : ByteArray) (w : World) (hs : s.size ≤ 140737488355200) :
    Calls Tryd.prog 12 #[.string s] w fun e w' => ∃ v, e = .returned v ∧ Kd.R (Kd.int .u8) 5 w' w.heap.size (fun _ => True) v (bytesOf s ++ marks 64) ∧ Below w.heap.size w w' := by
  have hlen := bytesOf_length s
  have HL := Sh.mk hlen
  clear hlen
  go_enter Tryd.func12, Tryd.ntmps12
  go_wp2_with (go_at_call 16; refine (bytes_any s _ (by omega)).mono ?_; rintro e w1 ⟨v, rfl, ho, hb⟩)
  go_loopw [3, 4] (fun v i wr => ∃ k : Nat, k ≤ 64 ∧ i = .int .i64 k ∧ Sh (Kd.R (Kd.int .u8) 5 wr w.heap.size (fun _ => True) v (bytesOf s ++ marks k)) ∧ Sh (Below w.heap.size w wr)) (fun _ i _ => 64 - (intOf i).toNat)
  case atStart => exact ⟨0, by omega, rfl, ⟨by rw [show marks 0 = [] from rfl, List.append_nil]; exact ho⟩, ⟨hb⟩⟩
  case round =>
    obtain ⟨k, hk, rfl, HO, HB⟩ := hrel
    by_cases hlt : k < 64
    · have hl2 : (bytesOf s ++ marks k).length = s.size + k := by rw [List.length_append, HL.out, marks_len]
      have HL2 := Sh.mk hl2
      clear hl2
      go_wp2_with (first | ((with_reducible refine gate_builtin (b := .append) (xs := #[.tmp 11, .tmp 16]) rfl ?_); refine app_int 28 5 .u8 1 Tryd.underlying28 info_u8 (by omega) (w0 := w) (.tmp 11) (.tmp 16) _ _ _ rfl rfl rfl rfl HO HB (by rw [HL2.out]; omega) ?_; clear HO HB; intro v1 w1 HO HB))
      go_roundw
      case rel => exact ⟨k + 1, by omega, by go_num, by rw [marks_succ, ← List.append_assoc]; exact HO, HB⟩
      case measure => simp [intOf]; omega
    · obtain rfl : k = 64 := by omega
      go_wp2
      go_ret
      exact ⟨_, rfl, HO.out, HB.out⟩
set_option maxRecDepth 100000 in
set_option maxHeartbeats 2000000 in
theorem kept_any (s : ByteArray) (A : Option Addr) (c : Nat) (w : World) (hs : s.size ≤ 140737488355200) (hr : Kd.C (Kd.int .u8) w A (s.size + 64) (bytesOf s ++ marks 64)) :
    Calls Tryd.prog 15 #[.slice A (s.size + 64) c, .string s] w fun e w' => e = .returned (.bool true) ∧ Drawn0 w w' := by
  have HR := Sh.mk hr
  clear hr
  go_enter Tryd.func15, Tryd.ntmps15
  go_wp2
  go_loopw [5] (fun i wr => ∃ k : Nat, k ≤ s.size + 64 ∧ i = .int .i64 k ∧ Drawn0 w wr) (fun i _ => s.size + 64 - (intOf i).toNat)
  case atStart => exact ⟨0, by omega, rfl, Drawn0.refl _⟩
  case round =>
    obtain ⟨k, hk, rfl, ⟨m, rfl⟩⟩ := hrel
    by_cases hlt : k < s.size + 64
    · obtain ⟨ad, e1, hx⟩ := C_at HR.out k hlt
      cases e1
      by_cases h1 : k < s.size
      · have e : rd (bytesOf s ++ marks 64) k = bt s k := by
          rw [← rd_bytesOf]
          simp [rd, List.getD, List.getElem?_append, bytesOf_length, h1]
        rw [e] at hx
        clear e
        have hy := bt_nat s k
        have h1b : decide (k < s.size) = true := by simpa using h1
        have h1c : decide (s.size ≤ k) = false := by simp; omega
        go_wp2
        go_quiet (fail)
        go_wp2
        go_roundw
        case rel => exact ⟨k + 1, by omega, by go_num, ⟨⟨_, rfl⟩⟩⟩
        case measure => simp [intOf]; omega
      · have e : rd (bytesOf s ++ marks 64) k = markAt (k - s.size) := by
          simp only [rd, List.getD, Int.toNat_natCast, List.getElem?_append, bytesOf_length, if_neg h1]
          simp [marks, show k - s.size < 64 by omega]
        rw [e, markAt, show ((k - s.size : Nat) : Int) = (k : Int) - s.size by omega] at hx
        clear e
        have h1b : decide (k < s.size) = false := by simpa using h1
        have h1c : decide (s.size ≤ k) = true := by simp; omega
        go_wp2
        go_quiet (fail)
        go_wp2
        go_roundw
        case rel => exact ⟨k + 1, by omega, by go_num, ⟨⟨_, rfl⟩⟩⟩
        case measure => simp [intOf]; omega
    · obtain rfl : k = s.size + 64 := by omega
      go_wp2
      go_ret
      exact ⟨rfl, ⟨_, rfl⟩⟩
end Go.Proofs.YtlhnajgckdeedaaDoor
