/-
units.scalar, put and Encode, as what they compute. Conditions: a list of at most 2^44 points.
-/
import Derived.Test.YtbpadakcjnkjeaaDoorAp
import Derived.Test.YtbpadakcjnkjeaaDoorSen
import Derived.WalkKit
import Derived.Deep.QuietTactic
import Derived.BigQuiet
namespace Go.Proofs.YtbpadakcjnkjeaaDoor
open Go Go.RowKit Go.Proofs.YtbpadakcjnkjeaaDoorW.PrintWords Go.Proofs.YtbpadakcjnkjeaaDoorW.PrintLast Go.Proofs.YtbpadakcjnkjeaaDoorW.PrintMore
set_option maxRecDepth 100000
/-- A scalar value? -/
def isSc (p : Int) : Bool := decide (0 ≤ p ∧ p ≤ 1114111 ∧ (p < 55296 ∨ 57343 < p))
/-- A point's bytes. -/
def encP (p : Int) : List Int :=
  if p < 128 then [p] else if p < 2048 then [192 + p / 64, 128 + p % 64]
  else if p < 65536 then [224 + p / 4096, 128 + p / 64 % 64, 128 + p % 64]
  else [240 + p / 262144, 128 + p / 4096 % 64, 128 + p / 64 % 64, 128 + p % 64]
theorem i64_and63 (n : Int) : bits .and .i64 n 63 = n % 64 := by
  have h63 : (BitVec.ofInt 64 63).toNat = 2 ^ 6 - 1 := by decide
  have key : (BitVec.ofInt 64 n &&& BitVec.ofInt 64 63).toNat = (n % ((2 ^ 64 : Nat) : Int)).toNat % 2 ^ 6 := by
    rw [BitVec.toNat_and, BitVec.toNat_ofInt, h63, Nat.and_two_pow_sub_one_eq_mod]
  show IntKind.i64.wrap ((BitVec.ofInt 64 n &&& BitVec.ofInt 64 63).toNat : Nat) = n % 64
  rw [key, IntKind.wrap_i64]
  omega
theorem encP_len (p : Int) : (encP p).length ≤ 4 := by
  unfold encP
  repeat (first | split | simp)
set_option maxRecDepth 100000 in
theorem scalar_any (p : Int) (w : World) :
    Calls Tryd.prog 22 #[.int .i64 p] w fun e w' => e = .returned (.bool (isSc p)) ∧ w = w' := by
  by_cases h1 : 0 ≤ p
  · by_cases h2 : p ≤ 1114111
    · by_cases h3 : p < 55296
      · have e : isSc p = true := by simp [isSc]; omega
        rw [e]
        clear e
        have b1 : decide (0 ≤ p) = true := by simpa using h1
        have b2 : decide (p ≤ 1114111) = true := by simpa using h2
        have b3 : decide (p < 55296) = true := by simpa using h3
        clear h1 h2 h3
        go_enter Tryd.func22, Tryd.ntmps22
        go_wp2
        go_ret
        exact ⟨rfl, rfl⟩
      · by_cases h4 : 57343 < p
        · have e : isSc p = true := by simp [isSc]; omega
          rw [e]
          clear e
          have b1 : decide (0 ≤ p) = true := by simpa using h1
          have b2 : decide (p ≤ 1114111) = true := by simpa using h2
          have b3 : decide (p < 55296) = false := by simpa using h3
          have b4 : decide (57343 < p) = true := by simpa using h4
          clear h1 h2 h3 h4
          go_enter Tryd.func22, Tryd.ntmps22
          go_wp2
          go_ret
          exact ⟨rfl, rfl⟩
        · have e : isSc p = false := by simp [isSc]; omega
          rw [e]
          clear e
          have b1 : decide (0 ≤ p) = true := by simpa using h1
          have b2 : decide (p ≤ 1114111) = true := by simpa using h2
          have b3 : decide (p < 55296) = false := by simpa using h3
          have b4 : decide (57343 < p) = false := by simpa using h4
          clear h1 h2 h3 h4
          go_enter Tryd.func22, Tryd.ntmps22
          go_wp2
          go_ret
          exact ⟨rfl, rfl⟩
    · have e : isSc p = false := by simp [isSc]; omega
      rw [e]
      clear e
      have b1 : decide (0 ≤ p) = true := by simpa using h1
      have b2 : decide (p ≤ 1114111) = false := by simpa using h2
      clear h1 h2
      go_enter Tryd.func22, Tryd.ntmps22
      go_wp2
      go_ret
      exact ⟨rfl, rfl⟩
  · have e : isSc p = false := by simp [isSc]; omega
    rw [e]
    clear e
    have b1 : decide (0 ≤ p) = false := by simpa using h1
    clear h1
    go_enter Tryd.func22, Tryd.ntmps22
    go_wp2
    go_ret
    exact ⟨rfl, rfl⟩
set_option maxRecDepth 100000 in
set_option maxHeartbeats 2000000 in
theorem put_any (v : Value) (xs : List Int) (p : Int) (base : Nat) (w0 w : World) (hp : 0 ≤ p) (hp2 : p ≤ 1114111) (hl : xs.length ≤ 140737488355000) (hbase : base ≤ w.heap.size)
    (ho : Kd.R (Kd.int .u8) 5 w base (fun _ => True) v xs) (hb : Below base w0 w) :
    Calls Tryd.prog 23 #[v, .int .i64 p] w fun e w' => ∃ v', e = .returned v' ∧ Kd.R (Kd.int .u8) 5 w' base (fun _ => True) v' (xs ++ encP p) ∧ Below base w0 w' := by
  obtain ⟨A, c, rfl, hc, hC⟩ := R_open ho xs.length rfl
  have HO := Sh.mk ho
  have HB := Sh.mk hb
  clear ho hb hC
  by_cases h1 : p < 128
  · have e : encP p = [p] := by unfold encP; rw [if_pos h1]
    rw [e]
    clear e
    have b1 : decide (p < 128) = true := by simpa using h1
    go_enter Tryd.func23, Tryd.ntmps23
    go_wp2_with (first | ((with_reducible refine gate_builtin (b := .append) (xs := #[.tmp 8, .tmp 11]) rfl ?_); refine app_intB 53 5 .u8 1 Tryd.underlying53 info_u8 (by omega) (w0 := w0) (.tmp 8) (.tmp 11) _ _ _ rfl rfl rfl rfl HO HB hbase (by omega) ?_; clear HO HB; intro v1 w1 HO HB))
    go_ret
    exact ⟨_, rfl, HO.out, HB.out⟩
  · have b1 : decide (p < 128) = false := by simpa using h1
    have a1 := i64_and63 p
    have o1 := u8_or128 (p % 64) (by omega) (by omega)
    by_cases h2 : p < 2048
    · have e : encP p = [192 + p / 64, 128 + p % 64] := by unfold encP; rw [if_neg h1, if_pos h2]
      rw [e]
      clear e
      have b2 : decide (p < 2048) = true := by simpa using h2
      have o2 := u8_or192 (p / 64) (by omega) (by omega)
      go_enter Tryd.func23, Tryd.ntmps23
      go_wp2_with (first | ((with_reducible refine gate_builtin (b := .append) (xs := #[.tmp 16, .tmp 25]) rfl ?_); refine app_intsB 53 5 .u8 1 Tryd.underlying53 info_u8 (by omega) (w0 := w0) (.tmp 16) (.tmp 25) _ _ [192 + p / 64, 128 + p % 64] (some ⟨w.heap.size, 0, none⟩) 2 2 rfl rfl rfl rfl (ShR.alloc HO _) (lit_C w 5 .u8 [192 + p / 64, 128 + p % 64] (by simp)) (ShB.alloc HB hbase _) (by simp; omega) (by omega) ?_; clear HO HB; intro v1 w1 HO HB))
      go_ret
      exact ⟨_, rfl, HO.out, HB.out⟩
    · have b2 : decide (p < 2048) = false := by simpa using h2
      have a2 := i64_and63 (p / 64)
      have o3 := u8_or128 (p / 64 % 64) (by omega) (by omega)
      by_cases h3 : p < 65536
      · have e : encP p = [224 + p / 4096, 128 + p / 64 % 64, 128 + p % 64] := by unfold encP; rw [if_neg h1, if_neg h2, if_pos h3]
        rw [e]
        clear e
        have b3 : decide (p < 65536) = true := by simpa using h3
        have o2 := u8_or224 (p / 4096) (by omega) (by omega)
        go_enter Tryd.func23, Tryd.ntmps23
        go_wp2_with (first | ((with_reducible refine gate_builtin (b := .append) (xs := #[.tmp 30, .tmp 44]) rfl ?_); refine app_intsB 53 5 .u8 1 Tryd.underlying53 info_u8 (by omega) (w0 := w0) (.tmp 30) (.tmp 44) _ _ [224 + p / 4096, 128 + p / 64 % 64, 128 + p % 64] (some ⟨w.heap.size, 0, none⟩) 3 3 rfl rfl rfl rfl (ShR.alloc HO _) (lit_C w 5 .u8 [224 + p / 4096, 128 + p / 64 % 64, 128 + p % 64] (by simp)) (ShB.alloc HB hbase _) (by simp; omega) (by omega) ?_; clear HO HB; intro v1 w1 HO HB))
        go_ret
        exact ⟨_, rfl, HO.out, HB.out⟩
      · have e : encP p = [240 + p / 262144, 128 + p / 4096 % 64, 128 + p / 64 % 64, 128 + p % 64] := by unfold encP; rw [if_neg h1, if_neg h2, if_neg h3]
        rw [e]
        clear e
        have b3 : decide (p < 65536) = false := by simpa using h3
        have a3 := i64_and63 (p / 4096)
        have o2 := u8_or240 (p / 262144) (by omega) (by omega)
        have o4 := u8_or128 (p / 4096 % 64) (by omega) (by omega)
        go_enter Tryd.func23, Tryd.ntmps23
        go_wp2_with (first | ((with_reducible refine gate_builtin (b := .append) (xs := #[.tmp 46, .tmp 65]) rfl ?_); refine app_intsB 53 5 .u8 1 Tryd.underlying53 info_u8 (by omega) (w0 := w0) (.tmp 46) (.tmp 65) _ _ [240 + p / 262144, 128 + p / 4096 % 64, 128 + p / 64 % 64, 128 + p % 64] (some ⟨w.heap.size, 0, none⟩) 4 4 rfl rfl rfl rfl (ShR.alloc HO _) (lit_C w 5 .u8 [240 + p / 262144, 128 + p / 4096 % 64, 128 + p / 64 % 64, 128 + p % 64] (by simp)) (ShB.alloc HB hbase _) (by simp; omega) (by omega) ?_; clear HO HB; intro v1 w1 HO HB))
        go_ret
        exact ⟨_, rfl, HO.out, HB.out⟩
end Go.Proofs.YtbpadakcjnkjeaaDoor
