/-
The sum as plain arithmetic: the program's steps of four bits come to the document's single bits; a register moves linearly. Conditions: a sum of 32 bits, bytes.
-/
import Derived.Test.YtlhnajgckdeedaaDoorCrc
namespace Go.Proofs.YtlhnajgckdeedaaDoor.crc
open Go Go.RowKit Go.Proofs.YtlhnajgckdeedaaDoorW.PrintWords
def poly : BitVec 32 := 3988292384#32
/-- One bit of the register. -/
def sb (x : BitVec 32) : BitVec 32 := (x >>> 1) ^^^ (if x.getLsbD 0 then poly else 0#32)
def un (x : Int) : BitVec 32 := BitVec.ofInt 32 x
def iv (v : BitVec 32) : Int := (v.toNat : Int)
theorem iv_lt (v : BitVec 32) : 0 ≤ iv v ∧ iv v < 4294967296 := by unfold iv; have := v.isLt; omega
theorem un_iv (v : BitVec 32) : un (iv v) = v := by
  unfold un iv
  apply BitVec.eq_of_toNat_eq
  rw [BitVec.ofInt_natCast, BitVec.toNat_ofNat]
  exact Nat.mod_eq_of_lt v.isLt
theorem un_toNat (x : Int) (h0 : 0 ≤ x) (h1 : x < 4294967296) : ((un x).toNat : Int) = x := by
  obtain ⟨n, rfl⟩ := Int.eq_ofNat_of_zero_le h0
  unfold un
  rw [BitVec.ofInt_natCast, BitVec.toNat_ofNat]
  omega
theorem iv_un (x : Int) (h0 : 0 ≤ x) (h1 : x < 4294967296) : iv (un x) = x := un_toNat x h0 h1
theorem wrap_iv (v : BitVec 32) : IntKind.u32.wrap (v.toNat : Int) = iv v := by
  rw [IntKind.wrap_u32]
  have := v.isLt
  unfold iv
  omega
theorem xor_iv (a b : Int) : Go.bits .xor .u32 a b = iv (un a ^^^ un b) := wrap_iv _
theorem and_iv (a b : Int) : Go.bits .and .u32 a b = iv (un a &&& un b) := wrap_iv _
theorem iv_inj {a b : BitVec 32} (h : iv a = iv b) : a = b := by
  have := congrArg un h
  rwa [un_iv, un_iv] at this
theorem half_iv (v : BitVec 32) : iv v / (2 : Int) = iv (v >>> (1 : Nat)) := by
  unfold iv
  rw [BitVec.toNat_ushiftRight, Nat.shiftRight_eq_div_pow]
  omega
theorem sixteenth_iv (v : BitVec 32) : iv v / (16 : Int) = iv (v >>> (4 : Nat)) := by
  unfold iv
  rw [BitVec.toNat_ushiftRight, Nat.shiftRight_eq_div_pow]
  omega
theorem low_iv (v : BitVec 32) : (Go.bits .and .u32 (iv v) 1 = 1) ↔ v.getLsbD 0 = true := by
  rw [and_iv, un_iv]
  have h : iv (v &&& un 1) = ((v.toNat % 2 : Nat) : Int) := by
    unfold iv
    rw [BitVec.toNat_and]
    have : (un 1).toNat = 1 := by decide
    rw [this, Nat.and_one_is_mod]
  rw [h, BitVec.getLsbD, Nat.testBit_zero]
  simp
  omega
theorem bitStep_iv (v : BitVec 32) : bitStep (iv v) = iv (sb v) := by
  unfold bitStep sb
  by_cases h : v.getLsbD 0 = true
  · rw [if_pos ((low_iv v).2 h), if_pos h, half_iv, xor_iv, un_iv]
    rfl
  · rw [if_neg (fun h' => h ((low_iv v).1 h')), if_neg h, half_iv, BitVec.xor_zero]
def sbN : Nat → BitVec 32 → BitVec 32
  | 0, x => x
  | n + 1, x => sb (sbN n x)
theorem bitN_iv (n : Nat) (v : BitVec 32) : bitN n (iv v) = iv (sbN n v) := by
  induction n with
  | zero => rfl
  | succ n ih => rw [bitN, ih, bitStep_iv]; rfl
theorem sb_xor (x y : BitVec 32) : sb (x ^^^ y) = sb x ^^^ sb y := by
  unfold sb
  rw [BitVec.ushiftRight_xor_distrib, BitVec.getLsbD_xor]
  cases x.getLsbD 0 <;> cases y.getLsbD 0 <;> simp
  · rw [BitVec.xor_assoc]
  · rw [BitVec.xor_assoc, BitVec.xor_assoc, BitVec.xor_comm poly]
  · rw [show x >>> 1 ^^^ poly ^^^ (y >>> 1 ^^^ poly) = x >>> 1 ^^^ y >>> 1 ^^^ (poly ^^^ poly) by
      rw [BitVec.xor_assoc, BitVec.xor_assoc, ← BitVec.xor_assoc poly, BitVec.xor_comm poly (y >>> 1), BitVec.xor_assoc]]
    simp
theorem sbN_xor (n : Nat) (x y : BitVec 32) : sbN n (x ^^^ y) = sbN n x ^^^ sbN n y := by
  induction n with
  | zero => rfl
  | succ n ih => rw [sbN, ih, sb_xor]; rfl
theorem sbN_zero (n : Nat) : sbN n 0#32 = 0#32 := by
  induction n with
  | zero => rfl
  | succ n ih => rw [sbN, ih]; decide
theorem sbN_add (n m : Nat) (x : BitVec 32) : sbN (n + m) x = sbN n (sbN m x) := by
  induction n with
  | zero => simp [sbN]
  | succ n ih => rw [Nat.succ_add, sbN, ih]; rfl
/-- Where the lowest n bits are 0, n steps only shift. -/
theorem sbN_shift (n : Nat) (x : BitVec 32) (h : ∀ i, i < n → x.getLsbD i = false) : sbN n x = x >>> n := by
  induction n with
  | zero => simp [sbN]
  | succ n ih =>
    rw [sbN, ih (fun i hi => h i (by omega)), sb]
    rw [if_neg (by rw [BitVec.getLsbD_ushiftRight, Nat.add_zero]; simp [h n (by omega)]), BitVec.xor_zero, ← BitVec.shiftRight_add]
theorem tab_low : ∀ i : Fin 16, iv (sbN 4 (BitVec.ofNat 32 i.val)) = crcTab.getD i.val 0 := by decide
theorem half_sb (v : BitVec 32) : half (iv v) = iv (sbN 4 v) := by
  have hsplit : v = (v &&& ~~~15#32) ^^^ (v &&& 15#32) := by
    apply BitVec.eq_of_getLsbD_eq
    intro i hi
    simp only [BitVec.getLsbD_xor, BitVec.getLsbD_and, BitVec.getLsbD_not, hi, decide_true, Bool.true_and]
    cases v.getLsbD i <;> cases (15#32).getLsbD i <;> rfl
  have hhi : sbN 4 (v &&& ~~~15#32) = v >>> 4 := by
    rw [sbN_shift 4 _ (by
      intro i hi
      rw [BitVec.getLsbD_and, BitVec.getLsbD_not]
      have : i = 0 ∨ i = 1 ∨ i = 2 ∨ i = 3 := by omega
      rcases this with rfl | rfl | rfl | rfl <;> simp)]
    apply BitVec.eq_of_getLsbD_eq
    intro i hi
    rw [BitVec.getLsbD_ushiftRight, BitVec.getLsbD_ushiftRight, BitVec.getLsbD_and, BitVec.getLsbD_not]
    by_cases h : 4 + i < 32
    · have : (15#32).getLsbD (4 + i) = false := by
        have hj : ∀ j : Fin 28, (15#32).getLsbD (4 + j.val) = false := by decide
        exact hj ⟨i, by omega⟩
      rw [this]
      simp [h]
    · simp [h, BitVec.getLsbD_of_ge v (4 + i) (by omega)]
  have hlo : (v &&& 15#32).toNat < 16 := by
    rw [BitVec.toNat_and]
    have : v.toNat &&& (15#32).toNat ≤ 15 := Nat.and_le_right
    omega
  have ht := tab_low ⟨_, hlo⟩
  simp only [BitVec.ofNat_toNat, BitVec.setWidth_eq] at ht
  conv => rhs; rw [hsplit, sbN_xor, hhi]
  unfold half tabv
  rw [sixteenth_iv, xor_iv, un_iv, and_iv, un_iv]
  have e15 : un 15 = 15#32 := by decide
  rw [e15, show (iv (v &&& 15#32)).toNat = (v &&& 15#32).toNat from by unfold iv; simp, ← ht, un_iv]
/-- A byte into the register. -/
def feed (x : BitVec 32) (b : Int) : BitVec 32 := sbN 8 (x ^^^ un b)
theorem un_mod (b : Int) : un (b % 4294967296) = un b := by
  unfold un
  apply BitVec.eq_of_toInt_eq
  rw [BitVec.toInt_ofInt, BitVec.toInt_ofInt]
  simp [Int.bmod_def]
theorem crcStep_iv (v : BitVec 32) (b : Int) : crcStep (iv v) b = iv (feed v b) := by
  unfold crcStep feed
  rw [xor_iv, un_iv, un_mod, half_sb, half_sb, ← sbN_add]
theorem refStep_iv (v : BitVec 32) (b : Int) : refStep (iv v) b = iv (feed v b) := by
  unfold refStep feed
  rw [xor_iv, un_iv, un_mod, bitN_iv]
def reg (x : BitVec 32) (l : List Int) : BitVec 32 := l.foldl feed x
theorem crcLoop_iv (l : List Int) : ∀ v, crcLoop (iv v) l = iv (reg v l) := by
  induction l with
  | nil => intro v; rfl
  | cons b l ih =>
    intro v
    show crcLoop (crcStep (iv v) b) l = _
    rw [crcStep_iv, ih]
    rfl
theorem refLoop_iv (l : List Int) : ∀ v, l.foldl refStep (iv v) = iv (reg v l) := by
  induction l with
  | nil => intro v; rfl
  | cons b l ih =>
    intro v
    rw [List.foldl_cons, refStep_iv, ih]
    rfl
def ones : BitVec 32 := 4294967295#32
theorem un_max : un IntKind.u32.max = ones := by decide
theorem un_4294967295 : un 4294967295 = ones := by decide
/-- What the program's sum is, as a register. -/
theorem crcMore_reg (a : Int) (l : List Int) : crcMoreF a l = iv (ones ^^^ reg (ones ^^^ un a) l) := by
  unfold crcMoreF
  rw [xor_iv, xor_iv, crcLoop_iv, un_iv, un_max]
theorem refMore_reg (a : Int) (l : List Int) : refMoreF a l = iv (ones ^^^ reg (ones ^^^ un a) l) := by
  unfold refMoreF
  rw [xor_iv, xor_iv, refLoop_iv, un_iv, un_4294967295, BitVec.xor_comm, BitVec.xor_comm (un a)]
theorem crc_eq (a : Int) (l : List Int) : crcMoreF a l = refMoreF a l := by rw [crcMore_reg, refMore_reg]
end Go.Proofs.YtlhnajgckdeedaaDoor.crc
