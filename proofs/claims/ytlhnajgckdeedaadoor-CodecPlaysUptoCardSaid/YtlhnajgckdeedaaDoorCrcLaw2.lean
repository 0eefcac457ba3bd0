/-
The sum as plain arithmetic, further: a sum goes on over any cut; three texts xored together; bits turned within 32. Conditions: sums of 32 bits, bytes.
-/
import Derived.Test.YtlhnajgckdeedaaDoorCrcLaw
namespace Go.Proofs.YtlhnajgckdeedaaDoor.crc
open Go Go.RowKit Go.Proofs.YtlhnajgckdeedaaDoorW.PrintWords
/-! A cut -/
theorem reg_append (x : BitVec 32) (a b : List Int) : reg x (a ++ b) = reg (reg x a) b := by simp [reg]
theorem xor_cancel (a b : BitVec 32) : a ^^^ (a ^^^ b) = b := by rw [← BitVec.xor_assoc, BitVec.xor_self, BitVec.zero_xor]
theorem crc_parts (a b : List Int) : crcMoreF (crcMoreF 0 a) b = crcMoreF 0 (a ++ b) := by
  rw [crcMore_reg, crcMore_reg 0 a, crcMore_reg, un_iv, xor_cancel, reg_append]
theorem crc_none (s : Int) (h0 : 0 ≤ s) (h1 : s < 4294967296) : crcMoreF s [] = s := by
  rw [crcMore_reg]
  show iv (ones ^^^ (ones ^^^ un s)) = s
  rw [xor_cancel, iv_un s h0 h1]
theorem crc_range (a : Int) (l : List Int) : 0 ≤ crcMoreF a l ∧ crcMoreF a l < 4294967296 := by
  rw [crcMore_reg]
  exact iv_lt _
/-! Three texts -/
def xor3 (a b c : Int) : Int := Go.bits .xor .u8 (Go.bits .xor .u8 a b) c
theorem xor8_nat (a b : Nat) (ha : a < 256) (hb : b < 256) : Go.bits .xor .u8 (a : Int) (b : Int) = ((a ^^^ b : Nat) : Int) := by
  have h : Go.bits .xor .u8 (a : Int) (b : Int) = IntKind.u8.wrap (((BitVec.ofInt 8 (a : Int)) ^^^ (BitVec.ofInt 8 (b : Int))).toNat : Int) := rfl
  rw [h, BitVec.ofInt_natCast, BitVec.ofInt_natCast, BitVec.toNat_xor, BitVec.toNat_ofNat, BitVec.toNat_ofNat, Nat.mod_eq_of_lt (by omega : a < 2 ^ 8), Nat.mod_eq_of_lt (by omega : b < 2 ^ 8)]
  have hx : a ^^^ b < 2 ^ 8 := Nat.xor_lt_two_pow (by omega) (by omega)
  rw [IntKind.wrap_u8]
  omega
theorem un_nat (n : Nat) : un (n : Int) = BitVec.ofNat 32 n := by unfold un; rw [BitVec.ofInt_natCast]
theorem un_xor8 (a b : Int) (ha : 0 ≤ a ∧ a < 256) (hb : 0 ≤ b ∧ b < 256) : un (Go.bits .xor .u8 a b) = un a ^^^ un b ∧ 0 ≤ Go.bits .xor .u8 a b ∧ Go.bits .xor .u8 a b < 256 := by
  obtain ⟨x, rfl⟩ := Int.eq_ofNat_of_zero_le ha.1
  obtain ⟨y, rfl⟩ := Int.eq_ofNat_of_zero_le hb.1
  have hx : x ^^^ y < 2 ^ 8 := Nat.xor_lt_two_pow (by omega) (by omega)
  rw [xor8_nat x y (by omega) (by omega)]
  refine ⟨?_, by omega, by omega⟩
  rw [un_nat, un_nat, un_nat]
  apply BitVec.eq_of_toNat_eq
  rw [BitVec.toNat_xor, BitVec.toNat_ofNat, BitVec.toNat_ofNat, BitVec.toNat_ofNat, Nat.mod_eq_of_lt (by omega : x < 2 ^ 32), Nat.mod_eq_of_lt (by omega : y < 2 ^ 32), Nat.mod_eq_of_lt (by omega : x ^^^ y < 2 ^ 32)]
theorem feed_xor (x y : BitVec 32) (a b c : Int) (h : un c = un a ^^^ un b) : feed (x ^^^ y) c = feed x a ^^^ feed y b := by
  unfold feed
  rw [h, ← sbN_xor]
  congr 1
  rw [BitVec.xor_assoc, BitVec.xor_assoc, ← BitVec.xor_assoc y, BitVec.xor_comm y (un a), BitVec.xor_assoc]
def Byte (l : List Int) : Prop := ∀ x ∈ l, 0 ≤ x ∧ x < 256
theorem reg_like (l : List (Int × Int × Int)) (h : ∀ p ∈ l, (0 ≤ p.1 ∧ p.1 < 256) ∧ (0 ≤ p.2.1 ∧ p.2.1 < 256) ∧ (0 ≤ p.2.2 ∧ p.2.2 < 256)) : ∀ x y z : BitVec 32,
    reg (x ^^^ y ^^^ z) (l.map fun p => xor3 p.1 p.2.1 p.2.2) = reg x (l.map (·.1)) ^^^ reg y (l.map (·.2.1)) ^^^ reg z (l.map (·.2.2)) := by
  induction l with
  | nil => intro x y z; rfl
  | cons p l ih =>
    intro x y z
    obtain ⟨ha, hb, hc⟩ := h p (List.mem_cons_self ..)
    obtain ⟨e1, r1, r2⟩ := un_xor8 p.1 p.2.1 ha hb
    obtain ⟨e2, _, _⟩ := un_xor8 (Go.bits .xor .u8 p.1 p.2.1) p.2.2 ⟨r1, r2⟩ hc
    have e : feed (x ^^^ y ^^^ z) (xor3 p.1 p.2.1 p.2.2) = feed x p.1 ^^^ feed y p.2.1 ^^^ feed z p.2.2 := by
      rw [← feed_xor x y p.1 p.2.1 _ e1, ← feed_xor (x ^^^ y) z _ p.2.2 _ e2]
      rfl
    simp only [reg, List.map_cons, List.foldl_cons]
    rw [e]
    exact ih (fun q hq => h q (List.mem_cons_of_mem _ hq)) _ _ _
theorem crc_like (l : List (Int × Int × Int)) (h : ∀ p ∈ l, (0 ≤ p.1 ∧ p.1 < 256) ∧ (0 ≤ p.2.1 ∧ p.2.1 < 256) ∧ (0 ≤ p.2.2 ∧ p.2.2 < 256)) :
    Go.bits .xor .u32 (Go.bits .xor .u32 (crcMoreF 0 (l.map (·.1))) (crcMoreF 0 (l.map (·.2.1)))) (crcMoreF 0 (l.map (·.2.2))) = crcMoreF 0 (l.map fun p => xor3 p.1 p.2.1 p.2.2) := by
  rw [crcMore_reg, crcMore_reg, crcMore_reg, crcMore_reg, xor_iv (iv _) (iv _), un_iv, un_iv, xor_iv, un_iv, un_iv]
  congr 1
  have e0 : ones ^^^ un 0 = ones := by decide
  have e3 : ones = ones ^^^ ones ^^^ ones := by decide
  rw [e0]
  have hl := reg_like l h ones ones ones
  rw [← e3] at hl
  rw [hl]
  generalize reg ones (l.map (·.1)) = a
  generalize reg ones (l.map (·.2.1)) = b
  generalize reg ones (l.map (·.2.2)) = c
  apply BitVec.eq_of_getLsbD_eq
  intro i hi
  simp only [BitVec.getLsbD_xor]
  cases ones.getLsbD i <;> cases a.getLsbD i <;> cases b.getLsbD i <;> cases c.getLsbD i <;> rfl
/-! Bit by bit -/
def one (t : Bool) : BitVec 32 := if t then 1#32 else 0#32
def fb (x : BitVec 32) (f : Nat → Bool) : Nat → BitVec 32
  | 0 => x
  | n + 1 => sb (fb x f n ^^^ one (f n))
/-- k bits from place n on, as a word. -/
def wd (f : Nat → Bool) (n : Nat) : Nat → BitVec 32
  | 0 => 0#32
  | k + 1 => wd f n k ^^^ (one (f (n + k)) <<< k)
theorem one_shift (t : Bool) (k : Nat) (hk : k < 32) : sbN k (one t <<< k) = one t := by
  rw [sbN_shift k _ (fun i hi => by rw [BitVec.getLsbD_shiftLeft]; simp [hi])]
  apply BitVec.eq_of_getLsbD_eq
  intro i hi
  rw [BitVec.getLsbD_ushiftRight, BitVec.getLsbD_shiftLeft]
  cases t
  · simp [one]
  · by_cases h : k + i < 32
    · simp [one, h]
    · have hi0 : i ≠ 0 := by omega
      simp [one, h, hi0]
theorem fb_word (x : BitVec 32) (f : Nat → Bool) (n k : Nat) (hk : k ≤ 32) : fb x f (n + k) = sbN k (fb x f n ^^^ wd f n k) := by
  induction k with
  | zero => simp [sbN, wd]
  | succ k ih =>
    show sb (fb x f (n + k) ^^^ one (f (n + k))) = sb (sbN k _)
    congr 1
    rw [ih (by omega), wd, ← BitVec.xor_assoc, sbN_xor k _ (one (f (n + k)) <<< k), one_shift _ _ (by omega)]
theorem one_xor (s t : Bool) : one (s ^^ t) = one s ^^^ one t := by cases s <;> cases t <;> rfl
theorem fb_xor (f g : Nat → Bool) (n : Nat) : ∀ x y, fb (x ^^^ y) (fun i => f i ^^ g i) n = fb x f n ^^^ fb y g n := by
  induction n with
  | zero => intro x y; rfl
  | succ n ih =>
    intro x y
    simp only [fb]
    rw [ih, one_xor, ← sb_xor]
    congr 1
    generalize fb x f n = a
    generalize fb y g n = b
    generalize one (f n) = c
    generalize one (g n) = d
    rw [BitVec.xor_assoc, BitVec.xor_assoc, ← BitVec.xor_assoc b, BitVec.xor_comm b c, BitVec.xor_assoc]
theorem fb_congr (x : BitVec 32) (f g : Nat → Bool) (n : Nat) (h : ∀ i, i < n → f i = g i) : fb x f n = fb x g n := by
  induction n with
  | zero => rfl
  | succ n ih => rw [fb, fb, ih (fun i hi => h i (by omega)), h n (by omega)]
theorem fb_zeros (f : Nat → Bool) (n : Nat) (h : ∀ i, i < n → f i = false) : fb 0#32 f n = 0#32 := by
  induction n with
  | zero => rfl
  | succ n ih => rw [fb, ih (fun i hi => h i (by omega)), h n (by omega)]; decide
theorem sb_ne {x : BitVec 32} (h : x ≠ 0#32) : sb x ≠ 0#32 := by
  intro e
  apply h
  unfold sb at e
  by_cases hl : x.getLsbD 0 = true
  · rw [if_pos hl] at e
    have := congrArg (fun v => v.getLsbD 31) e
    simp only [BitVec.getLsbD_xor, BitVec.getLsbD_ushiftRight] at this
    rw [show poly.getLsbD 31 = true by decide, BitVec.getLsbD_of_ge x (1 + 31) (by omega)] at this
    simp at this
  · rw [if_neg hl, BitVec.xor_zero] at e
    apply BitVec.eq_of_getLsbD_eq
    intro i hi
    cases i with
    | zero => simpa using hl
    | succ i =>
      have := congrArg (fun v => v.getLsbD i) e
      simp only [BitVec.getLsbD_ushiftRight] at this
      rw [Nat.add_comm] at this
      simpa using this
theorem sbN_ne (n : Nat) {x : BitVec 32} (h : x ≠ 0#32) : sbN n x ≠ 0#32 := by
  induction n with
  | zero => exact h
  | succ n ih => exact sb_ne ih
theorem fb_more (f : Nat → Bool) (x : BitVec 32) (n k : Nat) (h : ∀ i, n ≤ i → i < n + k → f i = false) : fb x f (n + k) = sbN k (fb x f n) := by
  induction k with
  | zero => rfl
  | succ k ih =>
    show sb (fb x f (n + k) ^^^ one (f (n + k))) = sb (sbN k _)
    rw [ih (fun i h1 h2 => h i h1 (by omega)), h (n + k) (by omega) (by omega)]
    simp [one]
theorem wd_bit (f : Nat → Bool) (n k : Nat) (hk : k ≤ 32) : ∀ j, j < k → (wd f n k).getLsbD j = f (n + j) := by
  have top : ∀ k, k ≤ 32 → ∀ j, k ≤ j → (wd f n k).getLsbD j = false := by
    intro k
    induction k with
    | zero => intro _ j _; simp [wd]
    | succ k ih =>
      intro hk j hj
      rw [wd, BitVec.getLsbD_xor, ih (by omega) j (by omega), BitVec.getLsbD_shiftLeft]
      have : ∀ t, (one t).getLsbD (j - k) = false := by
        intro t
        have : j - k ≠ 0 := by omega
        cases t <;> simp [one, this]
      simp [this]
  induction k with
  | zero => intro j hj; omega
  | succ k ih =>
    intro j hj
    rw [wd, BitVec.getLsbD_xor, BitVec.getLsbD_shiftLeft]
    by_cases h : j < k
    · rw [ih (by omega) j h]
      simp [h]
    · obtain rfl : j = k := by omega
      rw [top j (by omega) j (Nat.le_refl _)]
      cases f (n + j) <;> simp [one, show j < 32 by omega]
theorem wd_ne (f : Nat → Bool) (n k : Nat) (hk : k ≤ 32) (j : Nat) (hj : j < k) (h : f (n + j) = true) : wd f n k ≠ 0#32 := by
  intro e
  have := wd_bit f n k hk j hj
  rw [e, h] at this
  simp at this
/-- Bits that are not all 0, within 32 that follow one another: the register is not 0 behind them. -/
theorem fb_burst (f : Nat → Bool) (n m : Nat) (j : Nat) (hj : j < 32) (hm : n + j < m) (hb : f (n + j) = true) (hf : ∀ i, i < m → f i = true → n ≤ i ∧ i < n + 32) : fb 0#32 f m ≠ 0#32 := by
  have hz : fb 0#32 f n = 0#32 := fb_zeros f n (fun i hi => by
    cases h : f i with
    | false => rfl
    | true => have := hf i (by omega) h; omega)
  by_cases h : n + 32 ≤ m
  · obtain ⟨z, rfl⟩ : ∃ z, m = n + 32 + z := ⟨m - n - 32, by omega⟩
    rw [fb_more f _ (n + 32) z (fun i h1 h2 => by
      cases h : f i with
      | false => rfl
      | true => have := hf i h2 h; omega), fb_word _ _ n 32 (Nat.le_refl _), hz, BitVec.zero_xor]
    exact sbN_ne _ (sbN_ne _ (wd_ne f n 32 (Nat.le_refl _) j hj hb))
  · obtain ⟨k, rfl⟩ : ∃ k, m = n + k := ⟨m - n, by omega⟩
    rw [fb_word _ _ n k (by omega), hz, BitVec.zero_xor]
    exact sbN_ne _ (wd_ne f n k (by omega) j (by omega) hb)
/-- Bit i of bytes. -/
def bitOf (l : List Int) (i : Nat) : Bool := (l.getD (i / 8) 0).toNat.testBit (i % 8)
theorem wd_congr (f g : Nat → Bool) (n m : Nat) : ∀ k, (∀ j, j < k → f (n + j) = g (m + j)) → wd f n k = wd g m k := by
  intro k
  induction k with
  | zero => intro _; rfl
  | succ k ih => intro h; rw [wd, wd, ih (fun j hj => h j (by omega)), h k (by omega)]
theorem wd_byte : ∀ b : Fin 256, wd (fun i => b.val.testBit i) 0 8 = BitVec.ofNat 32 b.val := by decide +kernel
theorem bitOf_append (l : List Int) (b : Int) (i : Nat) (h : i < 8 * l.length) : bitOf (l ++ [b]) i = bitOf l i := by
  unfold bitOf
  rw [List.getD_eq_getElem?_getD, List.getD_eq_getElem?_getD, List.getElem?_append_left (by omega)]
theorem bitOf_last (l : List Int) (b : Int) (j : Nat) (h : j < 8) : bitOf (l ++ [b]) (8 * l.length + j) = b.toNat.testBit j := by
  unfold bitOf
  rw [show (8 * l.length + j) / 8 = l.length by omega, show (8 * l.length + j) % 8 = j by omega]
  simp [List.getD_eq_getElem?_getD]
theorem reg_bits (x : BitVec 32) (r : List Int) : Byte r.reverse → reg x r.reverse = fb x (bitOf r.reverse) (8 * r.reverse.length) := by
  induction r with
  | nil => intro _; rfl
  | cons b r ih =>
    intro hB
    rw [List.reverse_cons] at hB ⊢
    have hb := hB b (by simp)
    have h1 := ih (fun y hy => hB y (List.mem_append_left _ hy))
    have hl : 8 * (r.reverse ++ [b]).length = 8 * r.reverse.length + 8 := by rw [List.length_append, List.length_singleton]; omega
    rw [reg_append, hl, fb_word _ _ _ 8 (by omega), fb_congr x _ (bitOf r.reverse) (8 * r.reverse.length) (fun i hi => bitOf_append _ _ _ hi), ← h1]
    show sbN 8 (_ ^^^ un b) = _
    congr 2
    obtain ⟨n, rfl⟩ := Int.eq_ofNat_of_zero_le hb.1
    rw [un_nat, ← wd_byte ⟨n, by omega⟩]
    refine wd_congr _ _ 0 (8 * r.reverse.length) 8 (fun j hj => ?_)
    rw [bitOf_last _ _ _ hj]
    simp
theorem reg_bits' (x : BitVec 32) (l : List Int) (h : Byte l) : reg x l = fb x (bitOf l) (8 * l.length) := by
  have := reg_bits x l.reverse (by rw [List.reverse_reverse]; exact h)
  rwa [List.reverse_reverse] at this
/-- Bits turned within 32 that follow one another make another sum. -/
theorem crc_burst (p q : List Int) (f : Nat → Bool) (n j : Nat) (hp : Byte p) (hq : Byte q) (hl : q.length = p.length) (hx : ∀ i, i < 8 * p.length → bitOf q i = (bitOf p i ^^ f i))
    (hj : j < 32) (hm : n + j < 8 * p.length) (hb : f (n + j) = true) (hf : ∀ i, i < 8 * p.length → f i = true → n ≤ i ∧ i < n + 32) : crcMoreF 0 p ≠ crcMoreF 0 q := by
  intro e
  rw [crcMore_reg, crcMore_reg] at e
  have e1 := iv_inj e
  have e2 : reg (ones ^^^ un 0) p = reg (ones ^^^ un 0) q := by
    have := congrArg (fun v => ones ^^^ v) e1
    simp only [xor_cancel] at this
    exact this
  rw [reg_bits' _ _ hp, reg_bits' _ _ hq, hl] at e2
  refine fb_burst f n (8 * p.length) j hj hm hb hf ?_
  have h0 : (0#32 : BitVec 32) = (ones ^^^ un 0) ^^^ (ones ^^^ un 0) := by rw [BitVec.xor_self]
  rw [h0, fb_congr _ f (fun i => bitOf p i ^^ bitOf q i) _ (fun i hi => by rw [hx i hi, ← Bool.xor_assoc, Bool.xor_self, Bool.false_xor]), fb_xor, e2]
  exact BitVec.xor_self
/-- One bit turned. -/
theorem turn_bit (q : List Int) (i : Nat) (h : i < 8 * q.length) (hq : Byte q) (b : Nat) : bitOf (q.set (i / 8) (Go.bits .xor .u8 (q.getD (i / 8) 0) ((2 ^ (i % 8) : Nat) : Int))) b = (bitOf q b ^^ decide (b = i)) := by
  have hlt : i / 8 < q.length := by omega
  have hr := hq (q.getD (i / 8) 0) (by rw [List.getD_eq_getElem?_getD, List.getElem?_eq_getElem hlt]; exact List.getElem_mem hlt)
  obtain ⟨a, ha⟩ := Int.eq_ofNat_of_zero_le hr.1
  have h2 : (2 : Nat) ^ (i % 8) < 256 := by
    have : (2 : Nat) ^ (i % 8) ≤ 2 ^ 7 := Nat.pow_le_pow_right (by omega) (by omega)
    omega
  unfold bitOf
  rw [ha, xor8_nat a _ (by omega) h2]
  by_cases hb : b / 8 = i / 8
  · rw [hb, ha, List.getD_eq_getElem?_getD, List.getElem?_set_self hlt, Option.getD_some, Int.toNat_natCast, Int.toNat_natCast, Nat.testBit_xor, Nat.testBit_two_pow]
    congr 1
    rw [decide_eq_decide]
    omega
  · rw [List.getD_eq_getElem?_getD, List.getElem?_set_ne (Ne.symm hb), ← List.getD_eq_getElem?_getD]
    have : b ≠ i := fun e => hb (by rw [e])
    simp [this]
theorem turn_byte (q : List Int) (i : Nat) (h : i < 8 * q.length) (hq : Byte q) : Byte (q.set (i / 8) (Go.bits .xor .u8 (q.getD (i / 8) 0) ((2 ^ (i % 8) : Nat) : Int))) := by
  have hlt : i / 8 < q.length := by omega
  have hr := hq (q.getD (i / 8) 0) (by rw [List.getD_eq_getElem?_getD, List.getElem?_eq_getElem hlt]; exact List.getElem_mem hlt)
  have h2 : (2 : Nat) ^ (i % 8) < 256 := by
    have : (2 : Nat) ^ (i % 8) ≤ 2 ^ 7 := Nat.pow_le_pow_right (by omega) (by omega)
    omega
  intro x hx
  rcases List.mem_or_eq_of_mem_set hx with hx | rfl
  · exact hq x hx
  · exact (un_xor8 _ _ hr ⟨Int.natCast_nonneg _, Int.ofNat_lt.2 h2⟩).2
end Go.Proofs.YtlhnajgckdeedaaDoor.crc
