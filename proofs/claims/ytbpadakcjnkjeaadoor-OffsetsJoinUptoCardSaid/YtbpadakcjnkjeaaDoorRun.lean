/-
units.run, walked: how much of a sequence lies at a place. Conditions: the table reads as listed; the place lies in the text.
-/
import Derived.Test.YtbpadakcjnkjeaaDoorLead
import Derived.OwnWalk
import Derived.Laws.BitsAllLaws
namespace Go.Proofs.YtbpadakcjnkjeaaDoor
open Go Go.RowKit Go.Proofs.YtbpadakcjnkjeaaDoorW.PrintWords Go.Proofs.YtbpadakcjnkjeaaDoorW.PrintLast Go.Proofs.YtbpadakcjnkjeaaDoorW.PrintMore
set_option maxRecDepth 100000
/-- What run's loop goes on to. -/
def tailR (s : ByteArray) (i : Nat) : Nat → Nat → Int → Int → Int → Nat × Int
  | 0, n, _, _, p => (n, p)
  | m + 1, n, lo, hi, p => if i + n < s.size ∧ lo ≤ bt s (i + n : Nat) ∧ bt s (i + n : Nat) ≤ hi then tailR s i m (n + 1) 128 191 (p * 64 + bt s (i + n : Nat) % 64) else (n, p)
/-- What run answers. -/
def runR (s : ByteArray) (i : Nat) : Nat × Nat × Int :=
  if bt s i < 128 then (1, 1, bt s i) else match leadF (bt s i) with
    | none => (0, 0, 0)
    | some k => ((tailR s i ((formAt k 4).toNat - 1) 1 (formAt k 2) (formAt k 3) (bt s i % (formAt k 5 + 1))).1, (formAt k 4).toNat, (tailR s i ((formAt k 4).toNat - 1) 1 (formAt k 2) (formAt k 3) (bt s i % (formAt k 5 + 1))).2)
theorem i64_join (p x : Int) (hp : 0 ≤ p) (hp2 : p < 1000000000) (hx : 0 ≤ x) (hx2 : x < 64) : bits .or .i64 (p * 64) x = p * 64 + x := by
  obtain ⟨a, rfl⟩ := Int.eq_ofNat_of_zero_le hp
  obtain ⟨b, rfl⟩ := Int.eq_ofNat_of_zero_le hx
  have e1 : (BitVec.ofInt 64 ((a : Int) * 64)).toNat = a * 64 := by rw [BitVec.toNat_ofInt]; omega
  have e2 : (BitVec.ofInt 64 (b : Int)).toNat = b := by rw [BitVec.toNat_ofInt]; omega
  have key : (BitVec.ofInt 64 ((a : Int) * 64) ||| BitVec.ofInt 64 (b : Int)).toNat = a * 64 + b := by
    rw [BitVec.toNat_or, e1, e2]
    exact nat_join 6 _ _ (by omega) (by omega)
  show IntKind.i64.wrap ((BitVec.ofInt 64 ((a : Int) * 64) ||| BitVec.ofInt 64 (b : Int)).toNat : Nat) = _
  rw [key, IntKind.wrap_i64]
  omega
theorem u8_mask (k : Nat) (hk : k < 8) (c : Int) (h0 : 0 ≤ c) (h1 : c < 256) : bits .and .u8 c (formAt k 5) = c % (formAt k 5 + 1) := by
  obtain ⟨a, rfl⟩ := Int.eq_ofNat_of_zero_le h0
  have h : k = 0 ∨ k = 1 ∨ k = 2 ∨ k = 3 ∨ k = 4 ∨ k = 5 ∨ k = 6 ∨ k = 7 := by omega
  have e31 : bits .and .u8 (a : Int) 31 = (a : Int) % 32 := by have := u8_and_nat a 31 (by omega) (by omega); rw [nat_mask5] at this; simpa using this
  have e15 : bits .and .u8 (a : Int) 15 = (a : Int) % 16 := by have := u8_and_nat a 15 (by omega) (by omega); rw [nat_mask4] at this; simpa using this
  have e7 : bits .and .u8 (a : Int) 7 = (a : Int) % 8 := by have := u8_and_nat a 7 (by omega) (by omega); rw [nat_mask3] at this; simpa using this
  rcases h with rfl | rfl | rfl | rfl | rfl | rfl | rfl | rfl
  · exact e31
  · exact e15
  · exact e15
  · exact e15
  · exact e15
  · exact e7
  · exact e7
  · exact e7
theorem form_facts (k : Nat) (hk : k < 8) : 2 ≤ formAt k 4 ∧ formAt k 4 ≤ 4 ∧ 0 ≤ formAt k 5 ∧ formAt k 5 ≤ 31 := by
  have h : k = 0 ∨ k = 1 ∨ k = 2 ∨ k = 3 ∨ k = 4 ∨ k = 5 ∨ k = 6 ∨ k = 7 := by omega
  rcases h with rfl | rfl | rfl | rfl | rfl | rfl | rfl | rfl <;> decide
theorem leadF_lt {c : Int} {k : Nat} (h : leadF c = some k) : k < 8 := by
  have := List.mem_of_find?_eq_some h
  simpa using this
theorem u8_63 (c : Int) (h0 : 0 ≤ c) (h1 : c < 256) : bits .and .u8 c 63 = c % 64 := by
  obtain ⟨a, rfl⟩ := Int.eq_ofNat_of_zero_le h0
  have := u8_and_nat a 63 (by omega) (by omega)
  rw [nat_mask6] at this
  simpa using this
set_option maxRecDepth 100000 in
set_option maxHeartbeats 4000000 in
theorem run_any (s : ByteArray) (i : Nat) (w : World) (hf : FormsAt w) (hi : i < s.size) (hs : s.size ≤ 140737488355327) :
    Calls Tryd.prog 56 #[.string s, .int .i64 i] w fun e w' => e = .returned (.tuple #[.int .i64 (runR s i).1, .int .i64 (runR s i).2.1, .int .i64 (runR s i).2.2]) ∧ Below w.heap.size w w' := by
  have HF := Sh.mk hf
  clear hf
  have hx := bt_nat s i
  have hb := bt_range s i
  by_cases h128 : bt s i < 128
  · have e : runR s i = (1, 1, bt s i) := by unfold runR; rw [if_pos h128]
    rw [e]
    clear e
    have b1 : decide (bt s i < 128) = true := by simpa using h128
    go_enter Tryd.func56, Tryd.ntmps56
    go_wp2
    go_ret3
    exact ⟨rfl, Below.refl _ _⟩
  · have b1 : decide (bt s i < 128) = false := by simpa using h128
    have H128 := Sh.mk h128
    clear h128
    go_enter Tryd.func56, Tryd.ntmps56
    go_wp2_with fail
    refine (lead_any (bt s i) w HF.out).mono ?_
    rintro e w1 ⟨rfl, hb1⟩
    have HB := Sh.mk hb1
    clear hb1
    cases hl : leadF (bt s i) with
    | none =>
      have e : runR s i = (0, 0, 0) := by unfold runR; rw [if_neg (by have := H128.out; omega), hl]
      have HE := Sh.mk e
      clear e hl
      simp only [formOV, formO, Option.isSome]
      go_wp2
      go_ret3
      exact ⟨by rw [HE.out]; rfl, HB.out.alloc HB.out.size _⟩
    | some k =>
      have e : runR s i = ((tailR s i ((formAt k 4).toNat - 1) 1 (formAt k 2) (formAt k 3) (bt s i % (formAt k 5 + 1))).1, (formAt k 4).toNat, (tailR s i ((formAt k 4).toNat - 1) 1 (formAt k 2) (formAt k 3) (bt s i % (formAt k 5 + 1))).2) := by unfold runR; rw [if_neg (by have := H128.out; omega), hl]
      have HE := Sh.mk e
      have hk := leadF_lt hl
      clear e hl
      simp only [formOV, formO, Option.isSome]
      have hm := u8_mask k hk (bt s i) hb.1 (by omega)
      obtain ⟨hf1, hf2, hf3, hf4⟩ := form_facts k hk
      have hmb : 0 ≤ bt s i % (formAt k 5 + 1) := Int.emod_nonneg _ (by omega)
      have hmb2 : bt s i % (formAt k 5 + 1) ≤ 31 := by have := Int.emod_lt_of_pos (bt s i) (show 0 < formAt k 5 + 1 by omega); omega
      obtain ⟨W2, hW2⟩ : ∃ W2, W2 = w1.alloc (.cells #[.int .u8 (formAt k 0), .int .u8 (formAt k 1), .int .u8 (formAt k 2), .int .u8 (formAt k 3), .int .i64 (formAt k 4), .int .u8 (formAt k 5)] 97) := ⟨_, rfl⟩
      obtain ⟨g, hg⟩ : ∃ g, g = w1.heap.size := ⟨_, rfl⟩
      have HW2 := Sh.mk hW2
      have HG := Sh.mk hg
      have HB2 := Sh.mk (show Below w.heap.size w W2 by rw [hW2]; exact HB.out.alloc HB.out.size _)
      have hX2 : W2.heap[g]? = some (.cells #[.int .u8 (formAt k 0), .int .u8 (formAt k 1), .int .u8 (formAt k 2), .int .u8 (formAt k 3), .int .i64 (formAt k 4), .int .u8 (formAt k 5)] 97 (0, 0)) := by rw [hW2, hg]; exact blk_new _ _
      have HX2 := Sh.mk hX2
      clear hW2 hg hX2
      go_wp2_with fail
      rw [← HW2.out, ← HG.out]
      have x5 := blk_cell HX2.out 5
      simp only [List.getElem?_toArray, List.getElem?_cons_zero, List.getElem?_cons_succ] at x5
      clear HW2 HG
      go_quiet (fail)
      have hb2 : Below W2.heap.size W2 (W2.drewN nq) := belowN (Below.refl _ _) nq
      clear x5
      generalize W2.drewN nq = W3 at hb2 ⊢
      have HX3 := Sh.mk (blk_below HX2.out hb2)
      have HB3 := Sh.mk (below_of HB2.out hb2)
      clear HX2 HB2 hb2
      have x2 := blk_cell HX3.out 2
      have x3 := blk_cell HX3.out 3
      simp only [List.getElem?_toArray, List.getElem?_cons_zero, List.getElem?_cons_succ] at x2 x3
      go_wp2
      go_quiet (fail)
      have hb3 : Below W3.heap.size W3 (W3.drewN nq) := belowN (Below.refl _ _) nq
      clear x2 x3
      generalize W3.drewN nq = W4 at hb3 ⊢
      have HX4 := Sh.mk (blk_below HX3.out hb3)
      have HB4 := Sh.mk (below_of HB3.out hb3)
      clear HX3 HB3 hb3
      have x4 := blk_cell HX4.out 4
      simp only [List.getElem?_toArray, List.getElem?_cons_zero, List.getElem?_cons_succ] at x4
      obtain ⟨z, hz⟩ : ∃ z : Nat, formAt k 4 = z := ⟨(formAt k 4).toNat, by omega⟩
      rw [hz] at x4 hf1 hf2
      have HZ := Sh.mk hz
      clear hz
      go_wp2
      go_loop [10, 11, 12, 13] (fun vn vp vl vh => ∃ (n : Nat) (p lo hi : Int), vn = .int .i64 n ∧ vp = .int .i64 p ∧ vl = .int .u8 lo ∧ vh = .int .u8 hi ∧ 1 ≤ n ∧ n ≤ z ∧ 0 ≤ p ∧ Sh (p < 64 ^ n) ∧ Sh (tailR s i (z - n) n lo hi p = tailR s i (z - 1) 1 (formAt k 2) (formAt k 3) (bt s i % (formAt k 5 + 1)))) (fun vn _ _ _ => z - (intOf vn).toNat)
      case atStart => exact ⟨1, bt s i % (formAt k 5 + 1), formAt k 2, formAt k 3, rfl, rfl, rfl, rfl, by omega, by omega, Int.emod_nonneg _ (by omega), ⟨by have := Int.emod_lt_of_pos (bt s i) (show 0 < formAt k 5 + 1 by omega); omega⟩, ⟨rfl⟩⟩
      case round =>
        obtain ⟨n, p, lo, hi', rfl, rfl, rfl, rfl, hn1, hn2, hp0, HP, HT⟩ := hrel
        obtain ⟨y, hy0⟩ : ∃ y, y = bt s (i + n : Nat) := ⟨_, rfl⟩
        have hy : ∀ h : i + n < s.size, ((s[i + n]'h).toNat : Int) = y := by rw [hy0]; exact bt_nat s (i + n)
        have hyb : 0 ≤ y ∧ y ≤ 255 := by rw [hy0]; exact bt_range s (i + n : Nat)
        have HY := Sh.mk hy0
        clear hy0
        by_cases hnz : n < z
        · have b2 : decide (n < z) = true := by simpa using hnz
          by_cases hin : i + n < s.size
          · have b3 : decide (i + n < s.size) = true := by simpa using hin
            by_cases hlo : lo ≤ y
            · have b4 : decide (lo ≤ y) = true := by simpa using hlo
              by_cases hhi : y ≤ hi'
              · have b5 : decide (y ≤ hi') = true := by simpa using hhi
                have e : tailR s i (z - n) n lo hi' p = tailR s i (z - (n + 1)) (n + 1) 128 191 (p * 64 + y % 64) := by
                  rw [show z - n = (z - (n + 1)) + 1 by omega, tailR, ← HY.out, if_pos ⟨hin, hlo, hhi⟩]
                have HE2 := Sh.mk e
                have hp3 : p < 1000000 := by
                  have h := HP.out
                  have h3 : n = 1 ∨ n = 2 ∨ n = 3 := by omega
                  rcases h3 with rfl | rfl | rfl <;> omega
                have o1 := i64_join p (y % 64) hp0 (by omega) (by omega) (by omega)
                have o2 := u8_63 (y) hyb.1 (by omega)
                have hnew := Sh.mk (show p * 64 + y % 64 < 64 ^ (n + 1) by have h := HP.out; rw [Int.pow_succ]; omega)
                clear e hlo hhi
                go_wp2
                go_round
                case rel => exact ⟨n + 1, _, _, _, by go_num, rfl, rfl, rfl, by omega, by omega, by omega, hnew, ⟨by rw [← HE2.out]; exact HT.out⟩⟩
                case measure => simp [intOf]; omega
              · have b5 : decide (y ≤ hi') = false := by simpa using hhi
                have e : tailR s i (z - n) n lo hi' p = (n, p) := by rw [show z - n = (z - (n + 1)) + 1 by omega, tailR, ← HY.out, if_neg (fun h => hhi h.2.2)]
                have HE2 := Sh.mk (HT.out.symm.trans e)
                clear e hlo hhi
                go_wp2
                go_quiet (fail)
                go_wp2
                go_ret3
                exact ⟨by rw [HE.out, HZ.out]; simp [HE2.out], belowN HB4.out _⟩
            · have b4 : decide (lo ≤ y) = false := by simpa using hlo
              have e : tailR s i (z - n) n lo hi' p = (n, p) := by rw [show z - n = (z - (n + 1)) + 1 by omega, tailR, ← HY.out, if_neg (fun h => hlo h.2.1)]
              have HE2 := Sh.mk (HT.out.symm.trans e)
              clear e hlo
              go_wp2
              go_quiet (fail)
              go_wp2
              go_ret3
              exact ⟨by rw [HE.out, HZ.out]; simp [HE2.out], belowN HB4.out _⟩
          · have b3 : decide (i + n < s.size) = false := by simpa using hin
            have e : tailR s i (z - n) n lo hi' p = (n, p) := by rw [show z - n = (z - (n + 1)) + 1 by omega, tailR, if_neg (fun h => hin h.1)]
            have HE2 := Sh.mk (HT.out.symm.trans e)
            clear e
            go_wp2
            go_quiet (fail)
            go_wp2
            go_ret3
            exact ⟨by rw [HE.out, HZ.out]; simp [HE2.out], belowN HB4.out _⟩
        · have b2 : decide (n < z) = false := by simpa using hnz
          obtain rfl : n = z := by omega
          have e : tailR s i (n - n) n lo hi' p = (n, p) := by rw [Nat.sub_self, tailR]
          have HE2 := Sh.mk (HT.out.symm.trans e)
          clear e
          go_wp2
          go_quiet (fail)
          go_wp2
          go_ret3
          exact ⟨by rw [HE.out, HZ.out]; simp [HE2.out], belowN HB4.out _⟩
end Go.Proofs.YtbpadakcjnkjeaaDoor
