/-
A unit at a place: what run says is what the document's Good says. Plain Lean over the printed functions. Conditions: at most 2^47 bytes.
-/
import Derived.Test.YtbpadakcjnkjeaaDoorRun
import Derived.Test.YtbpadakcjnkjeaaDoorRef2
import Derived.Test.YtbpadakcjnkjeaaDoorPOffsetsPlayx3
namespace Go.Proofs.YtbpadakcjnkjeaaDoor
open Go Go.RowKit Go.Proofs.YtbpadakcjnkjeaaDoorW.PrintWords Go.Proofs.YtbpadakcjnkjeaaDoorW.PrintLast Go.Proofs.YtbpadakcjnkjeaaDoorW.PrintMore Go.Proofs.YtbpadakcjnkjeaaDoor.POffsetsPlay
set_option maxRecDepth 100000
theorem strOf_bytesOf (t : ByteArray) : strOfNums (bytesOf t) = t := by
  cases t with
  | mk d =>
    simp only [strOfNums, bytesOf, List.map_map]
    congr 1
    apply Array.ext'
    simp [Function.comp_def]
theorem bytesOf_inj {a b : ByteArray} (h : bytesOf a = bytesOf b) : a = b := by rw [← strOf_bytesOf a, ← strOf_bytesOf b, h]
theorem toList_bytes {a b : ByteArray} : a.toList = b.toList ↔ bytesOf a = bytesOf b := by
  rw [ByteArray.toList_eq, ByteArray.toList_eq]
  constructor
  · intro h; simp only [bytesOf, h]
  · intro h; rw [bytesOf_inj h]
theorem bytesOf_extract (s : ByteArray) (i n : Nat) (h : i + n ≤ s.size) : bytesOf (s.extract i (i + n)) = (List.range n).map fun j => bt s (i + j : Nat) := by
  have hl : (bytesOf (s.extract i (i + n))).length = n := by rw [bytesOf_length, ByteArray.size_extract]; omega
  apply List.ext_getElem
  · rw [hl]; simp
  · intro j h1 h2
    have hj : j < n := by simpa using h2
    have e : bt s ((i + j : Nat) : Int) = ((s[i + j]'(by omega)).toNat : Int) := (bt_nat s (i + j) (by omega)).symm
    simp only [List.getElem_map, List.getElem_range, e]
    simp [bytesOf, ByteArray.data_extract, ByteArray.getElem_eq_getElem_data]
theorem str_eq_iff {xs : List Int} (hx : ∀ x ∈ xs, 0 ≤ x ∧ x < 256) (s : ByteArray) (i n : Nat) (h : i + n ≤ s.size) : (strOfNums xs).toList = (s.extract i (i + n)).toList ↔ xs = (List.range n).map fun j => bt s (i + j : Nat) := by
  rw [toList_bytes, bytesOf_str hx, bytesOf_extract s i n h]
/-- How many bytes the document's lead has. -/
def sizeR (c : Int) : Int := if c < 128 then 1 else if c < 192 then 0 else if c < 224 then 2 else if c < 240 then 3 else if c < 248 then 4 else 0
theorem size_f (K : Nat) (c : Int) : caesuraref2_size.f (K + 3) c = some (sizeR c) := by
  unfold sizeR caesuraref2_size.f
  by_cases h1 : c < 128
  · simp [h1]
  · by_cases h2 : c < 192
    · simp [h1, h2, show ¬ (192 ≤ c) by omega, show ¬ (224 ≤ c) by omega, show ¬ (240 ≤ c) by omega, caesuraref2_size.j0, caesuraref2_size.j1]
    · by_cases h3 : c < 224
      · simp [h1, h2, h3, show (192 ≤ c) by omega, caesuraref2_size.j0]
      · by_cases h4 : c < 240
        · simp [h1, h2, h3, h4, show (192 ≤ c) by omega, show (224 ≤ c) by omega, caesuraref2_size.j0, caesuraref2_size.j1]
        · by_cases h5 : c < 248
          · simp [h1, h2, h3, h4, h5, show (192 ≤ c) by omega, show (224 ≤ c) by omega, show (240 ≤ c) by omega, caesuraref2_size.j0, caesuraref2_size.j1]
          · simp [h1, h2, h3, h4, h5, show (192 ≤ c) by omega, show (224 ≤ c) by omega, show (240 ≤ c) by omega, caesuraref2_size.j0, caesuraref2_size.j1]
theorem scalar_f (p : Int) : caesuraref2_Scalar.f p = some (isSc p) := by
  unfold caesuraref2_Scalar.f isSc
  by_cases h1 : 0 ≤ p <;> by_cases h2 : p ≤ 1114111 <;> by_cases h3 : p < 55296 <;> simp [h1, h2, h3]
theorem one_f (p : Int) (h : isSc p = true) : caesuraref2_One.f p = some (strOfNums (encP p)) := by
  have hb : 0 ≤ p ∧ p ≤ 1114111 := by simp [isSc] at h; omega
  obtain ⟨a, rfl⟩ := Int.eq_ofNat_of_zero_le hb.1
  have hw : ∀ x : Int, -1000000000 ≤ x → x ≤ 1000000000 → wrap64 x = x := fun x h1 h2 => by unfold wrap64; omega
  have d64 : Int.tdiv (a : Int) 64 = (a : Int) / 64 := Int.tdiv_eq_ediv_of_nonneg (by omega)
  have d4096 : Int.tdiv (a : Int) 4096 = (a : Int) / 4096 := Int.tdiv_eq_ediv_of_nonneg (by omega)
  have d262144 : Int.tdiv (a : Int) 262144 = (a : Int) / 262144 := Int.tdiv_eq_ediv_of_nonneg (by omega)
  have m64 : Int.tmod (a : Int) 64 = (a : Int) % 64 := Int.tmod_eq_emod_of_nonneg (by omega)
  have q1 : Int.tmod ((a : Int) / 64) 64 = (a : Int) / 64 % 64 := Int.tmod_eq_emod_of_nonneg (by omega)
  have q2 : Int.tmod ((a : Int) / 4096) 64 = (a : Int) / 4096 % 64 := Int.tmod_eq_emod_of_nonneg (by omega)
  unfold caesuraref2_One.f encP
  simp only [d64, d4096, d262144, m64]
  rw [hw ((a : Int) / 64) (by omega) (by omega), hw ((a : Int) / 4096) (by omega) (by omega), hw ((a : Int) / 262144) (by omega) (by omega)]
  simp only [q1, q2]
  rw [hw (192 + (a : Int) / 64) (by omega) (by omega), hw (128 + (a : Int) % 64) (by omega) (by omega), hw (224 + (a : Int) / 4096) (by omega) (by omega), hw (240 + (a : Int) / 262144) (by omega) (by omega), hw (128 + (a : Int) / 64 % 64) (by omega) (by omega), hw (128 + (a : Int) / 4096 % 64) (by omega) (by omega)]
  by_cases h1 : (a : Int) < 128
  · rw [if_pos h1, if_pos h1, Int.emod_eq_of_lt (by omega) (by omega)]
  · rw [if_neg h1, if_neg h1]
    by_cases h2 : (a : Int) < 2048
    · rw [if_pos h2, if_pos h2, Int.emod_eq_of_lt (by omega) (by omega), Int.emod_eq_of_lt (b := 256) (by omega) (by omega)]
    · rw [if_neg h2, if_neg h2]
      by_cases h3 : (a : Int) < 65536
      · rw [if_pos h3, if_pos h3, Int.emod_eq_of_lt (b := 256) (by omega) (by omega), Int.emod_eq_of_lt (b := 256) (by omega) (by omega), Int.emod_eq_of_lt (b := 256) (by omega) (by omega)]
      · rw [if_neg h3, if_neg h3, Int.emod_eq_of_lt (b := 256) (by omega) (by omega), Int.emod_eq_of_lt (b := 256) (by omega) (by omega), Int.emod_eq_of_lt (b := 256) (by omega) (by omega), Int.emod_eq_of_lt (b := 256) (by omega) (by omega)]
/-- The bytes from a place on. -/
def bytesAt (s : ByteArray) (i n : Nat) : List Int := (List.range n).map fun j => bt s (i + j : Nat)
def foldP (s : ByteArray) (i : Nat) : Nat → Nat → Int → Int
  | 0, _, p => p
  | m + 1, j, p => foldP s i m (j + 1) (p * 64 + bt s (i + j : Nat) - 128)
def finP (s : ByteArray) (i n : Nat) (q : Int) : Int × Int := if isSc q = true ∧ encP q = bytesAt s i n then (q, (n : Int)) else (0, 0)
theorem l0_f (s : ByteArray) (i n : Nat) (hs : s.size ≤ 140737488355327) (hi : i + n ≤ s.size) (hn : n ≤ 4) (K : Nat) : ∀ (m j : Nat) (p : Int), j + m = n → -1000 * 64 ^ (4 - m) ≤ p - 3 → p + 3 ≤ 1000 * 64 ^ (4 - m) →
    caesuraref2_Good.l0 (K + m + 1) s i n p j = some (finP s i n (foldP s i m j p))
  | 0, j, p, hj, _, _ => by
    have hw : wrap64 ((i : Int) + (n : Int)) = ((i + n : Nat) : Int) := by rw [Int.natCast_add]; unfold wrap64; omega
    show _ = some (finP s i n p)
    simp only [caesuraref2_Good.l0, scalar_f, Option.bind_some, hw]
    rw [if_neg (show ¬ ((j : Int) < (n : Int)) by omega)]
    by_cases hsc : isSc p = true
    · rw [if_pos hsc, one_f p hsc]
      simp only [Option.bind_some]
      rw [if_pos (by omega), if_pos (by omega), if_pos (by omega)]
      have := str_eq_iff (encP_byte hsc) s i n hi
      simp only [Int.toNat_natCast]
      by_cases he : encP p = bytesAt s i n
      · rw [if_pos (this.2 he), finP, if_pos ⟨hsc, he⟩]
      · rw [if_neg (fun h => he (this.1 h)), finP, if_neg (fun h => he h.2)]
    · rw [if_neg hsc, finP, if_neg (fun h => hsc h.1)]
  | m + 1, j, p, hj, h1, h2 => by
    have hb := bt_range s (i + j : Nat)
    have hw1 : wrap64 ((i : Int) + (j : Int)) = ((i + j : Nat) : Int) := by rw [Int.natCast_add]; unfold wrap64; omega
    have h64 : (64 : Int) ^ (4 - m) = 64 * 64 ^ (4 - (m + 1)) := by rw [show 4 - m = (4 - (m + 1)) + 1 by omega, Int.pow_succ]; omega
    have hbig : (64 : Int) ^ (4 - (m + 1)) ≤ 262144 := by
      have : m = 0 ∨ m = 1 ∨ m = 2 ∨ m = 3 := by omega
      rcases this with rfl | rfl | rfl | rfl <;> decide
    have hw : ∀ x : Int, -1000000000000 ≤ x → x ≤ 1000000000000 → wrap64 x = x := fun x h1 h2 => by unfold wrap64; omega
    rw [show K + (m + 1) + 1 = (K + m + 1) + 1 by omega]
    rw [caesuraref2_Good.l0, if_pos (show (j : Int) < (n : Int) by omega), hw1, if_pos (by omega), if_pos (by omega)]
    rw [hw (p * 64) (by omega) (by omega), hw (bt s (i + j : Nat)) (by omega) (by omega), hw (p * 64 + bt s (i + j : Nat)) (by omega) (by omega), hw (p * 64 + bt s (i + j : Nat) - 128) (by omega) (by omega), hw ((j : Int) + 1) (by omega) (by omega)]
    rw [show ((j : Int) + 1) = ((j + 1 : Nat) : Int) by omega]
    rw [l0_f s i n hs hi hn K m (j + 1) _ (by omega) (by omega) (by omega)]
    rfl
/-- What the document's Good answers, as its own code goes. -/
def leadR (c : Int) (n : Nat) : Int := if n = 2 then c - 192 else if n = 3 then c - 224 else if n = 4 then c - 240 else c
def goodC (s : ByteArray) (i : Nat) : Int × Int :=
  if s.size ≤ i then (0, 0) else if sizeR (bt s i) = 0 ∨ (s.size : Int) < (i : Int) + sizeR (bt s i) then (0, 0)
  else finP s i (sizeR (bt s i)).toNat (foldP s i ((sizeR (bt s i)).toNat - 1) 1 (leadR (bt s i) (sizeR (bt s i)).toNat))
theorem sizeR_le (c : Int) : 0 ≤ sizeR c ∧ sizeR c ≤ 4 := by unfold sizeR; repeat (first | split | omega)
theorem lead_f (c : Int) (n : Nat) (h0 : 0 ≤ c) (h1 : c ≤ 255) : caesuraref2_lead.f c (n : Int) = some (leadR c n) := by
  have hw : ∀ x : Int, -1000 ≤ x → x ≤ 1000 → wrap64 x = x := fun x h1 h2 => by unfold wrap64; omega
  unfold caesuraref2_lead.f leadR
  rw [hw c (by omega) (by omega), hw (c - 192) (by omega) (by omega), hw (c - 224) (by omega) (by omega), hw (c - 240) (by omega) (by omega)]
  by_cases h2 : n = 2
  · subst h2; simp
  · by_cases h3 : n = 3
    · subst h3; simp
    · by_cases h4 : n = 4
      · subst h4; simp
      · rw [if_neg (by omega), if_neg (by omega), if_neg (by omega), if_neg h2, if_neg h3, if_neg h4]
theorem good_f (K : Nat) (s : ByteArray) (i : Nat) (hs : s.size ≤ 140737488355327) (hi : i ≤ s.size) : caesuraref2_Good.f (K + 10) s i = some (goodC s i) := by
  unfold caesuraref2_Good.f goodC
  rw [if_neg (show ¬ ((i : Int) < 0) by omega)]
  simp only [caesuraref2_Good.j0]
  by_cases h1 : s.size ≤ i
  · rw [if_pos h1, decide_eq_true (show (i : Int) ≥ (s.size : Int) by omega)]
    simp
  · rw [if_neg h1, decide_eq_false (show ¬ ((i : Int) ≥ (s.size : Int)) by omega)]
    have hb := bt_range s i
    have hsz := sizeR_le (bt s i)
    obtain ⟨n, hn⟩ : ∃ n : Nat, sizeR (bt s i) = n := ⟨(sizeR (bt s i)).toNat, by omega⟩
    have hw : wrap64 ((i : Int) + (n : Int)) = ((i + n : Nat) : Int) := by rw [Int.natCast_add]; unfold wrap64; omega
    simp only [Bool.false_eq_true, if_false]
    rw [if_pos (by omega), if_pos (by omega), show K + 9 = (K + 6) + 3 by omega, size_f]
    simp only [Option.bind_some, hn, hw, Int.toNat_natCast]
    by_cases h0 : (n : Int) = 0
    · rw [if_pos h0, if_pos (Or.inl h0)]
      simp [caesuraref2_Good.j1]
    · rw [if_neg h0]
      by_cases h2 : (s.size : Int) < (i : Int) + (n : Int)
      · rw [if_pos (Or.inr h2), decide_eq_true (show ((i + n : Nat) : Int) > (s.size : Int) by omega)]
        simp [caesuraref2_Good.j1]
      · rw [if_neg (fun h => by omega), decide_eq_false (show ¬ (((i + n : Nat) : Int) > (s.size : Int)) by omega)]
        simp only [caesuraref2_Good.j1, Bool.false_eq_true, if_false]
        rw [if_pos (by omega), if_pos (by omega), lead_f _ _ hb.1 hb.2]
        simp only [Option.bind_some]
        have hlr : -1000 ≤ leadR (bt s i) n ∧ leadR (bt s i) n ≤ 255 := by unfold leadR; repeat (first | split | omega)
        have h64 : (64 : Int) ≤ 64 ^ (4 - (n - 1)) := by
          have : n = 1 ∨ n = 2 ∨ n = 3 ∨ n = 4 := by omega
          rcases this with rfl | rfl | rfl | rfl <;> decide
        have := l0_f s i n hs (by omega) (by omega) (K + 8 - n) (n - 1) 1 (leadR (bt s i) n) (by omega) (by omega) (by omega)
        rw [show K + 8 - n + (n - 1) + 1 = K + 6 + 2 by omega] at this
        exact this
end Go.Proofs.YtbpadakcjnkjeaaDoor
