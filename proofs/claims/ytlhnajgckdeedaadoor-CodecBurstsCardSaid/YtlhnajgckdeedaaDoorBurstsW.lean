/-
The walk of caesuralaw1.CodecBursts: true where bits turned within 32 make another sum. Conditions: a text of at most 2^47 - 4096 bytes; the table and ErrArg read as listed.
-/
import Derived.Test.YtlhnajgckdeedaaDoorPartsW
import Derived.Test.YtlhnajgckdeedaaDoorCopy
import Derived.Deep.QuietTactic
import Derived.BigQuiet
namespace Go.Proofs.YtlhnajgckdeedaaDoor
open Go Go.RowKit Go.Proofs.YtlhnajgckdeedaaDoorW.PrintWords Go.Proofs.YtlhnajgckdeedaaDoorW.PrintLast Go.Proofs.YtlhnajgckdeedaaDoorW.PrintMore
/-- caesurakit.Pick. -/
def pickF (k n : Int) : Int := if n < 1 then 0 else k % n
set_option maxRecDepth 100000 in
theorem pick_any (k n : Int) (w : World) (hk : -9223372036854775808 ≤ k ∧ k ≤ 9223372036854775807) (hn : n ≤ 4611686018427387904) :
    Calls Tryd.prog 21 #[.int .i64 k, .int .i64 n] w fun e w' => e = .returned (.int .i64 (pickF k n)) ∧ w = w' := by
  obtain ⟨hk1, hk2⟩ := hk
  by_cases h1 : n < 1
  · have e : pickF k n = 0 := by unfold pickF; rw [if_pos h1]
    have HE := Sh.mk e
    clear e
    go_enter Tryd.func21, Tryd.ntmps21
    go_wp2
    go_ret
    rw [HE.out]
    exact ⟨rfl, rfl⟩
  · have e : pickF k n = k % n := by unfold pickF; rw [if_neg h1]
    have hr : k.tmod n = if 0 ≤ k ∨ n ∣ k then k % n else k % n - n := by
      rw [Int.tmod_eq_emod]
      split <;> simp [Int.natAbs_of_nonneg (show 0 ≤ n by omega)]
    have hb := Int.emod_nonneg k (show n ≠ 0 by omega)
    have hb2 := Int.emod_lt_of_pos k (show 0 < n by omega)
    have HE := Sh.mk e
    have H1 := Sh.mk h1
    obtain ⟨t, ht⟩ : ∃ t, t = k.tmod n := ⟨_, rfl⟩
    rw [← ht] at hr
    have HT := Sh.mk ht
    have hcase : (t = k % n ∧ 0 ≤ t) ∨ (t = k % n - n ∧ t < 0) := by
      split at hr
      · exact .inl ⟨hr, by omega⟩
      · exact .inr ⟨hr, by omega⟩
    clear e ht hr
    go_enter Tryd.func21, Tryd.ntmps21
    go_wp2
    · have h2 : k.tmod n < 0 := by assumption
      rw [← HT.out] at h2
      go_ret
      refine ⟨?_, rfl⟩
      rw [HE.out, show k % n = wrap64 (k.tmod n + n) by rw [← HT.out]; unfold wrap64; omega]
      rfl
    · have h2 : 0 ≤ k.tmod n := by assumption
      rw [← HT.out] at h2
      go_ret
      refine ⟨?_, rfl⟩
      rw [HE.out, show k % n = k.tmod n by rw [← HT.out]; omega]
      rfl
/-- The law's box, the table, the row p, what was there. -/
structure Core2 (g : Nat) (cs : Array Value) (t : TypeId) (A : Option Addr) (n : Nat) (P : List Int) (w0 W : World) : Prop where
  core : Core g cs t w0 W
  row : (Kd.int .u8).C W A n P
theorem Core2.below {g : Nat} {cs : Array Value} {t : TypeId} {A : Option Addr} {n : Nat} {P : List Int} {w0 W W1 : World} (h : Core2 g cs t A n P w0 W) (hb : Below W.heap.size W W1) : Core2 g cs t A n P w0 W1 :=
  ⟨h.core.below hb, Kd.C_below h.row hb⟩
/-- What the turned bits are, k of them looked at. -/
def fm (tb : Nat → Bool) (a k b : Nat) : Bool := decide (a ≤ b) && decide (b < a + k) && tb (b - a)
theorem fm_zero (tb : Nat → Bool) (a b : Nat) : fm tb a 0 b = false := by
  unfold fm
  by_cases h : a ≤ b
  · simp [show ¬ b < a by omega]
  · simp [h]
theorem fm_succ (tb : Nat → Bool) (a k b : Nat) : fm tb a (k + 1) b = (fm tb a k b ^^ (b == a + k && tb k)) := by
  unfold fm
  by_cases h : b = a + k
  · subst h
    simp
  · have hb : (b == a + k) = false := by simpa using h
    rw [hb, Bool.false_and, Bool.xor_false]
    by_cases h2 : a ≤ b
    · by_cases h3 : b < a + k
      · simp [h2, h3, show b < a + (k + 1) by omega]
      · simp [h3, show ¬ b < a + (k + 1) by omega]
    · simp [h2]
theorem byte_bytes (s : ByteArray) : crc.Byte (bytesOf s) := by
  intro x hx
  obtain ⟨c, _, rfl⟩ := List.mem_map.1 hx
  have := c.toNat_lt
  omega
theorem pow_mod (r : Nat) (h : r < 8) : (2 : Int) ^ r % 256 = ((2 ^ r : Nat) : Int) := by
  have : r = 0 ∨ r = 1 ∨ r = 2 ∨ r = 3 ∨ r = 4 ∨ r = 5 ∨ r = 6 ∨ r = 7 := by omega
  rcases this with rfl | rfl | rfl | rfl | rfl | rfl | rfl | rfl <;> rfl
set_option maxHeartbeats 8000000 in
set_option maxRecDepth 100000 in
theorem bursts_any (p : ByteArray) (k0 turn : Int) (w : World) (hp : p.size ≤ 140737488351232) (hk : -9223372036854775808 ≤ k0 ∧ k0 ≤ 9223372036854775807) (hT : CrcAt w) :
    Calls Tryd.prog 6 #[.agg #[.string p, .int .i64 k0, .int .u32 turn]] w fun e w' => e = .returned (.bool true) ∧ Below w.heap.size w w' := by
  have HL := Sh.mk (bytesOf_length p)
  obtain ⟨W0, hW0⟩ : ∃ W0, W0 = w.alloc (.cells #[.string p, .int .i64 k0, .int .u32 turn] 39) := ⟨_, rfl⟩
  have HX := Sh.mk (show Core w.heap.size #[.string p, .int .i64 k0, .int .u32 turn] 39 w W0 by rw [hW0]; exact Core.new _ _ _ hT)
  have HW := Sh.mk hW0
  obtain ⟨g, hg⟩ : ∃ g, g = w.heap.size := ⟨_, rfl⟩
  have HG := Sh.mk hg
  clear hg hT hW0
  rw [← HG.out] at HX
  go_enter Tryd.func6, Tryd.ntmps6
  go_wp2_with fail
  rw [← HW.out, ← HG.out]
  clear HW
  refine (known_any W0 HX.out.tab).mono ?_
  rintro e w1 ⟨rfl, hb1⟩
  have HX1 := Sh.mk (HX.out.below hb1)
  clear HX hb1
  obtain ⟨x0, x1, x2, _⟩ := S3.of HX1.out
  go_wp2_with fail
  refine (bytes_C p w1 (by omega)).mono ?_
  rintro e w2 ⟨A, c, rfl, HC2, hb2⟩
  have HX2 := Sh.mk (HX1.out.below hb2)
  clear hb2 HX1 x0 x1 x2
  obtain ⟨x0, x1, x2, _⟩ := S3.of HX2.out
  go_wp2_with fail
  refine (copy_any A c p.size (bytesOf p) w2 HC2.out (by omega)).mono ?_
  rintro e w3 ⟨v, rfl, hq, hb3⟩
  obtain ⟨B, d, rfl, hd, hQ⟩ := R_open hq p.size HL.out
  have HX0 := Sh.mk (show Core2 g #[.string p, .int .i64 k0, .int .u32 turn] 39 A p.size (bytesOf p) w w2 from ⟨HX2.out, HC2.out⟩)
  have HX3 := Sh.mk (HX0.out.below hb3)
  have HB3 := Sh.mk hb3
  have HQ3 := Sh.mk hq
  have hs3 : w2.heap.size ≤ w3.heap.size := hb3.size
  clear hb3 HX2 x0 x1 x2 HC2 hq hQ
  obtain ⟨x0, x1, x2, _⟩ := S3.of HX3.out.core
  go_wp2_with fail
  refine (pick_any k0 (8 * (p.size : Int)) w3 hk (by omega)).mono ?_
  rintro e w4 ⟨rfl, rfl⟩
  obtain ⟨a, ha, ha2⟩ : ∃ a : Nat, pickF k0 (8 * (p.size : Int)) = (a : Int) ∧ a ≤ 8 * p.size := by
    unfold pickF
    split
    · exact ⟨0, rfl, by omega⟩
    · obtain ⟨a, ha⟩ := Int.eq_ofNat_of_zero_le (Int.emod_nonneg k0 (show (8 * (p.size : Int)) ≠ 0 by omega))
      have := Int.emod_lt_of_pos k0 (show 0 < 8 * (p.size : Int) by omega)
      exact ⟨a, ha, by omega⟩
  rw [ha]
  clear ha
  obtain ⟨tb, htb⟩ : ∃ tb : Nat → Bool, tb = fun k => decide (Go.bits .and .u32 (turn / 2 ^ k) 1 = 1) := ⟨_, rfl⟩
  have HTB := Sh.mk htb
  clear htb
  go_wp2_with fail
  go_loopw [7, 8, 9] (fun sm i _ wr => ∃ (k : Nat) (s : Bool) (Q : List Int), k ≤ 32 ∧ i = .int .i64 k ∧ sm = .bool s ∧ Sh (Q.length = p.size) ∧ Sh (crc.Byte Q) ∧ Sh (∀ b, b < 8 * p.size → crc.bitOf Q b = (crc.bitOf (bytesOf p) b ^^ fm tb a k b)) ∧
      Sh (s = true → ∃ j, j < k ∧ a + j < 8 * p.size ∧ tb j = true) ∧ Sh (Kd.R (Kd.int .u8) 5 wr w2.heap.size (fun _ => True) (.slice B p.size d) Q) ∧ Sh (Below w2.heap.size w2 wr)) (fun _ i _ _ => 32 - (intOf i).toNat)
  case atStart => exact ⟨0, false, bytesOf p, by omega, rfl, rfl, HL, ⟨byte_bytes p⟩, ⟨fun b _ => by rw [fm_zero, Bool.xor_false]⟩, ⟨fun h => by cases h⟩, HQ3, HB3⟩
  case round =>
    obtain ⟨k, s, Q, hk32, rfl, rfl, HLQ, HBQ, HQ, HS, HR, HB⟩ := hrel
    have HX := Sh.mk (HX0.out.below HB.out)
    obtain ⟨x0, x1, x2, _⟩ := S3.of HX.out.core
    by_cases hlt : k < 32
    · by_cases h1 : Go.bits .and .u32 (turn / 2 ^ k) 1 = 1
      · have h1b : (Go.bits .and .u32 (turn / 2 ^ k) 1 == 1) = true := by simpa using h1
        by_cases h2 : a + k < 8 * p.size
        · have h2b : decide ((a : Int) + k < 8 * (p.size : Int)) = true := by simp; omega
          obtain ⟨G, rfl, hG1, hG2⟩ := R_lies HR.out HLQ.out (by omega)
          obtain ⟨i, hi⟩ : ∃ i, i = (a + k) / 8 := ⟨_, rfl⟩
          obtain ⟨r, hr⟩ : ∃ r, r = (a + k) % 8 := ⟨_, rfl⟩
          have hi1 : ((a : Int) + k) / 8 = (i : Int) := by omega
          have hr1 : ((a : Int) + k) % 8 = (r : Int) := by omega
          have hr8 : r < 8 := by omega
          have HI := Sh.mk hi
          have HRr := Sh.mk hr
          have hin : i < p.size := by omega
          obtain ⟨hc0, hf0⟩ := R_ix HR.out i hin
          have H1 := Sh.mk h1
          clear h1 hi hr
          have htk : tb k = true := by rw [HTB.out]; simpa using H1.out
          have HTK := Sh.mk htk
          clear htk
          go_wp2
          go_roundw
          case rel =>
            have e1 : (Q.set i (Go.bits .xor .u8 (rd Q i) (2 ^ r % 256))) = Q.set ((a + k) / 8) (Go.bits .xor .u8 (Q.getD ((a + k) / 8) 0) ((2 ^ ((a + k) % 8) : Nat) : Int)) := by
              rw [← HI.out, ← HRr.out]
              congr 2
              exact pow_mod r hr8
            have hlq : a + k < 8 * Q.length := by rw [HLQ.out]; exact h2
            refine ⟨k + 1, true, Q.set i (Go.bits .xor .u8 (rd Q i) (2 ^ r % 256)), by omega, by go_num, rfl, ⟨by rw [List.length_set]; exact HLQ.out⟩, ⟨?_⟩, ⟨?_⟩, ⟨fun _ => ⟨k, by omega, h2, HTK.out⟩⟩, ⟨R_st HR.out i _⟩, ⟨HB.out.setCell (p := ⟨G, i, none⟩) hG1 _⟩⟩
            · rw [e1]
              exact crc.turn_byte Q (a + k) hlq HBQ.out
            · intro b hb
              rw [e1, crc.turn_bit Q (a + k) hlq HBQ.out, HQ.out b hb, fm_succ, HTK.out, Bool.and_true, Bool.xor_assoc]
              by_cases e : b = a + k
              · subst e
                simp [fm]
              · rw [show (b == a + k) = false by simpa using e, decide_eq_false e]
          case measure => simp [intOf]; omega
        · have h2b : decide ((a : Int) + k < 8 * (p.size : Int)) = false := by simp; omega
          have H1 := Sh.mk h1
          clear h1
          go_wp2
          go_roundw
          case rel => exact ⟨k + 1, s, Q, by omega, by go_num, rfl, HLQ, HBQ, ⟨fun b hb => by rw [HQ.out b hb, fm_succ, show (b == a + k) = false by simp; omega, Bool.false_and, Bool.xor_false]⟩, ⟨fun h => by obtain ⟨j, h3, h4, h5⟩ := HS.out h; exact ⟨j, by omega, h4, h5⟩⟩, HR, HB⟩
          case measure => simp [intOf]; omega
      · have h1b : (Go.bits .and .u32 (turn / 2 ^ k) 1 == 1) = false := by simpa using h1
        have htk : tb k = false := by rw [HTB.out]; simpa using h1
        have HTK := Sh.mk htk
        clear htk h1
        go_wp2
        go_roundw
        case rel => exact ⟨k + 1, s, Q, by omega, by go_num, rfl, HLQ, HBQ, ⟨fun b hb => by rw [HQ.out b hb, fm_succ, HTK.out, Bool.and_false, Bool.xor_false]⟩, ⟨fun h => by obtain ⟨j, h3, h4, h5⟩ := HS.out h; exact ⟨j, by omega, h4, h5⟩⟩, HR, HB⟩
        case measure => simp [intOf]; omega
    · obtain rfl : k = 32 := by omega
      have HCq := Sh.mk (C_of_R HR.out HLQ.out)
      cases s with
      | false =>
        go_wp2
        go_ret
        exact ⟨rfl, HX.out.core.bel⟩
      | true =>
        have hne : crcMoreF 0 (bytesOf p) ≠ crcMoreF 0 Q := by
          obtain ⟨j, h3, h4, h5⟩ := HS.out rfl
          refine crc.crc_burst (bytesOf p) Q (fm tb a 32) a j (byte_bytes p) HBQ.out (HLQ.out.trans HL.out.symm) (fun b hb => HQ.out b (by rw [HL.out] at hb; exact hb)) h3 (by rw [HL.out]; exact h4) ?_ ?_
          · simp [fm, h5, h3]
          · intro b _ hb
            simp only [fm, Bool.and_eq_true, decide_eq_true_eq] at hb
            exact hb.1
        have hneb : (crcMoreF 0 (bytesOf p) == crcMoreF 0 Q) = false := by simpa using hne
        have hneb2 : (crcMoreF 0 (bytesOf p) != crcMoreF 0 Q) = true := by simp [bne, hneb]
        clear hne
        go_wp2_with (first | (go_at_call 13; first | (refine (crc_any A c p.size (bytesOf p) _ HX.out.row HX.out.core.tab).mono ?_; rintro e w5 ⟨rfl, rfl⟩) | (refine (crc_any B d p.size Q _ HCq.out HX.out.core.tab).mono ?_; rintro e w5 ⟨rfl, rfl⟩)))
        go_ret
        exact ⟨rfl, HX.out.core.bel⟩
end Go.Proofs.YtlhnajgckdeedaaDoor
