/-
What a number's form and a reader's Num have to do with one another: what was put is read; what was read is the form; no form is another's beginning. No condition.
-/
import Derived.Test.YtlhnajgckdeedaaDoorRnum
namespace Go.Proofs.YtlhnajgckdeedaaDoor
open Go Go.RowKit Go.Proofs.YtlhnajgckdeedaaDoorW.PrintWords Go.Proofs.YtlhnajgckdeedaaDoorW.PrintLast Go.Proofs.YtlhnajgckdeedaaDoorW.PrintMore
/-- Bytes as numbers. -/
def ints (l : List UInt8) : List Int := l.map fun b => (b.toNat : Int)
theorem ints_len (l : List UInt8) : (ints l).length = l.length := by simp [ints]
theorem ints_append (a b : List UInt8) : ints (a ++ b) = ints a ++ ints b := by simp [ints]
theorem ints_bytes (s : ByteArray) : bytesOf s = ints s.data.toList := rfl
theorem ints_byte (l : List UInt8) : ∀ x ∈ ints l, 0 ≤ x ∧ x < 256 := by
  intro x hx
  obtain ⟨c, _, rfl⟩ := List.mem_map.1 hx
  have := c.toNat_lt
  omega
theorem ints_inj {a b : List UInt8} (h : ints a = ints b) : a = b := by
  refine (List.map_inj_right (fun x y e => ?_)).1 h
  exact UInt8.toNat_inj.1 (by omega)
theorem ofNat_toNat {n : Nat} (h : n < 256) : ((UInt8.ofNat n).toNat : Int) = (n : Int) := by rw [UInt8.toNat_ofNat']; omega
theorem pow_split (i m a t : Nat) : m + a * 128 ^ i + t * 128 ^ (i + 1) = m + (a + 128 * t) * 128 ^ i := by
  rw [Nat.pow_succ, Nat.add_mul, Nat.mul_comm (128 ^ i) 128, ← Nat.mul_assoc, Nat.mul_comm t 128, Nat.add_assoc]
/-- What was put is read. -/
theorem rnum_vnum (k : Nat) : ∀ (i m t : Nat) (rest : List Int), (vnum t).length ≤ k → (0 < i → 0 < t) → rnum k i m (ints (vnum t) ++ rest) = .ok (m + t * 128 ^ i, i + (vnum t).length) := by
  induction k with
  | zero =>
    intro i m t rest h _
    have := List.length_pos_iff.2 (vnum_ne t)
    omega
  | succ k ih =>
    intro i m t rest h h0
    by_cases ht : t > 127
    · rw [vnum_more ht] at h ⊢
      simp only [ints, List.map_cons, List.cons_append, List.length_cons] at h ⊢
      rw [ofNat_toNat (by omega), rnum, if_neg (by omega)]
      have := ih (i + 1) (m + (((t % 128 + 128 : Nat) : Int) - 128).toNat * 128 ^ i) (t / 128) rest (by omega) (by omega)
      simp only [ints] at this
      rw [this]
      have e : (((t % 128 + 128 : Nat) : Int) - 128).toNat = t % 128 := by omega
      rw [e, pow_split, show t % 128 + 128 * (t / 128) = t by omega, show i + 1 + (List.length (vnum (t / 128))) = i + ((vnum (t / 128)).length + 1) by omega]
    · rw [vnum_last ht]
      simp only [ints, List.map_cons, List.map_nil, List.cons_append, List.nil_append, List.length_cons, List.length_nil]
      rw [ofNat_toNat (by omega), rnum, if_pos (by omega), if_neg (by omega)]
      simp
/-- What was read is the form. -/
theorem rnum_form (k : Nat) : ∀ (i m x u : Nat) (l : List Int), (∀ b ∈ l, 0 ≤ b ∧ b < 256) → rnum k i m l = .ok (x, u) → ∃ (t : Nat) (r : List Int), x = m + t * 128 ^ i ∧ u = i + (vnum t).length ∧ l = ints (vnum t) ++ r ∧ (0 < i → 0 < t) := by
  induction k with
  | zero => intro i m x u l _ h; simp [rnum] at h
  | succ k ih =>
    intro i m x u l hl h
    cases l with
    | nil => simp [rnum] at h
    | cons b l =>
      have hb := hl b (List.mem_cons_self ..)
      obtain ⟨n, rfl⟩ := Int.eq_ofNat_of_zero_le hb.1
      rw [rnum] at h
      by_cases h1 : (n : Int) < 128
      · rw [if_pos h1] at h
        by_cases h2 : (n : Int) = 0 ∧ 0 < i
        · rw [if_pos h2] at h; cases h
        · rw [if_neg h2] at h
          simp only [Except.ok.injEq, Prod.mk.injEq, Int.toNat_natCast] at h
          have hv := vnum_last (n := n) (by omega)
          refine ⟨n, l, h.1.symm, by rw [hv]; exact h.2.symm, ?_, by omega⟩
          rw [hv]
          simp only [ints, List.map_cons, List.map_nil, List.cons_append, List.nil_append]
          rw [ofNat_toNat (by omega)]
      · rw [if_neg h1] at h
        obtain ⟨t, r, e1, e2, e3, e4⟩ := ih _ _ _ _ l (fun c hc => hl c (List.mem_cons_of_mem _ hc)) h
        have ht := e4 (by omega)
        have hv := vnum_more (n := (n - 128) + 128 * t) (by omega)
        have d1 : ((n - 128) + 128 * t) % 128 + 128 = n := by omega
        have d2 : ((n - 128) + 128 * t) / 128 = t := by omega
        rw [d1, d2] at hv
        refine ⟨(n - 128) + 128 * t, r, ?_, ?_, ?_, fun _ => by omega⟩
        · rw [e1, pow_split, show ((n : Int) - 128).toNat = n - 128 by omega]
        · rw [hv, e2, List.length_cons]; omega
        · rw [hv, e3]
          simp only [ints, List.map_cons, List.cons_append]
          rw [ofNat_toNat (by omega)]
/-- No form is another's beginning. -/
theorem vnum_prefix (x y : Nat) (hx : x < 9223372036854775808) (hy : y < 9223372036854775808) (r : List UInt8) (h : vnum y = vnum x ++ r) : x = y := by
  have h1 := rnum_vnum 9 0 0 x (ints r) (vnum_nine x hx) (by omega)
  have h2 := rnum_vnum 9 0 0 y [] (vnum_nine y hy) (by omega)
  rw [List.append_nil, h, ints_append, h1] at h2
  simp only [Except.ok.injEq, Prod.mk.injEq] at h2
  omega
end Go.Proofs.YtlhnajgckdeedaaDoor
