/-
A number in its form, as plain bytes: seven bits a byte, the low ones first; what is read of it. No condition.
-/
import Derived.Test.YtlhnajgckdeedaaDoorAp
namespace Go.Proofs.YtlhnajgckdeedaaDoor
open Go Go.RowKit Go.Proofs.YtlhnajgckdeedaaDoorW.PrintWords Go.Proofs.YtlhnajgckdeedaaDoorW.PrintLast Go.Proofs.YtlhnajgckdeedaaDoorW.PrintMore
/-- The form of a number. -/
def vnum (n : Nat) : List UInt8 := if h : n > 127 then UInt8.ofNat (n % 128 + 128) :: vnum (n / 128) else [UInt8.ofNat n]
termination_by n
decreasing_by omega
theorem vnum_more {n : Nat} (h : n > 127) : vnum n = UInt8.ofNat (n % 128 + 128) :: vnum (n / 128) := by rw [vnum, dif_pos h]
theorem vnum_last {n : Nat} (h : ¬ n > 127) : vnum n = [UInt8.ofNat n] := by rw [vnum, dif_neg h]
theorem vnum_ne (n : Nat) : vnum n ≠ [] := by
  by_cases h : n > 127
  · rw [vnum_more h]; simp
  · rw [vnum_last h]; simp
theorem vnum_len (d : Nat) : ∀ n, n < 128 ^ (d + 1) → (vnum n).length ≤ d + 1 := by
  induction d with
  | zero => intro n hn; rw [vnum_last (by simpa using Nat.le_of_lt_succ hn)]; simp
  | succ d ih =>
    intro n hn
    by_cases h : n > 127
    · rw [vnum_more h, List.length_cons]
      have := ih (n / 128) (by rw [Nat.div_lt_iff_lt_mul (by omega)]; rw [Nat.pow_succ] at hn; exact hn)
      omega
    · rw [vnum_last h]; simp
theorem vnum_nine (n : Nat) (h : n < 9223372036854775808) : (vnum n).length ≤ 9 := vnum_len 8 n (by omega)
theorem vbits : ∀ r : Fin 256, Go.bits .or .u8 (Go.bits .and .u8 (r.val : Int) 127) 128 = ((UInt8.ofNat (r.val % 128 + 128)).toNat : Int) := by decide +kernel
theorem vbyte (n : Nat) : Go.bits .or .u8 (Go.bits .and .u8 ((n : Int) % 256) 127) 128 = ((UInt8.ofNat (n % 128 + 128)).toNat : Int) := by
  have h := vbits ⟨n % 256, by omega⟩
  simp only at h
  rw [show ((n : Int) % 256) = ((n % 256 : Nat) : Int) by omega, h]
  congr 3
  omega
theorem vlast (n : Nat) (h : n ≤ 127) : (n : Int) = ((UInt8.ofNat n).toNat : Int) := by
  rw [UInt8.toNat_ofNat']
  omega
end Go.Proofs.YtlhnajgckdeedaaDoor
