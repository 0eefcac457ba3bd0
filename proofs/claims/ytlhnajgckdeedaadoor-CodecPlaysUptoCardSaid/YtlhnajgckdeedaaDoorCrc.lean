/-
codec.Crc and CrcMore, and the document's own, each as what it computes. Conditions: the table reads as listed.
-/
import Derived.Test.YtlhnajgckdeedaaDoorAp
import Derived.WalkKit
namespace Go.Proofs.YtlhnajgckdeedaaDoor
open Go Go.RowKit Go.Proofs.YtlhnajgckdeedaaDoorW.PrintWords Go.Proofs.YtlhnajgckdeedaaDoorW.PrintLast Go.Proofs.YtlhnajgckdeedaaDoorW.PrintMore
def crcTab : List Int := [0, 498536548, 997073096, 651767980, 1994146192, 1802195444, 1303535960, 1342533948, 3988292384, 4027552580, 3604390888, 3412177804, 2607071920, 2262029012, 2685067896, 3183342108]
theorem crcTab_len : crcTab.length = 16 := rfl
def tabv (i : Int) : Int := crcTab.getD i.toNat 0
def half (r : Int) : Int := Go.bits .xor .u32 (r / 16) (tabv (Go.bits .and .u32 r 15))
def CrcAt (w : World) : Prop := ∀ j, j < 16 → w.cell? ⟨15, j, none⟩ = some (.int .u32 (crcTab.getD j 0))
theorem CrcAt.below {w w1 : World} (h : CrcAt w) (hb : Below w.heap.size w w1) : CrcAt w1 :=
  fun i hi => (hb.cell (World.block_lt_of_cell? w _ (h i hi))).trans (h i hi)
theorem and15 (x : Int) : 0 ≤ Go.bits .and .u32 x 15 ∧ Go.bits .and .u32 x 15 < 16 := by
  have h2 : (BitVec.ofInt 32 x &&& BitVec.ofInt 32 15).toNat ≤ 15 := by
    rw [BitVec.toNat_and]
    exact Nat.and_le_right
  have h : Go.bits .and .u32 x 15 = ((BitVec.ofInt 32 x &&& BitVec.ofInt 32 15).toNat : Int) % 4294967296 := by
    rw [← IntKind.wrap_u32]
    rfl
  omega
theorem CrcAt.at_ {w : World} (h : CrcAt w) (x : Int) : w.cell? ⟨15, (Go.bits .and .u32 x 15).toNat, none⟩ = some (.int .u32 (tabv (Go.bits .and .u32 x 15))) :=
  h _ (by have := and15 x; omega)
/-- One byte, half by half. -/
def crcStep (x b : Int) : Int := half (half (Go.bits .xor .u32 x (b % 4294967296)))
def crcLoop (x : Int) (l : List Int) : Int := l.foldl crcStep x
def crcMoreF (a : Int) (l : List Int) : Int := Go.bits .xor .u32 IntKind.u32.max (crcLoop (Go.bits .xor .u32 IntKind.u32.max a) l)
set_option maxRecDepth 100000 in
theorem crcMore_any (A0 : Option Addr) (c0 : Nat) (n : Nat) (l0 : List Int) (a0 : Int) (w : World) (hr0 : Kd.C (Kd.int .u8) w A0 n l0) (hT : CrcAt w) :
    Calls Tryd.prog 14 #[.int .u32 a0, .slice A0 n c0] w fun e w' => e = .returned (.int .u32 (crcMoreF a0 l0)) ∧ w = w' := by
  have hs : IntKind.u32.signed = false := rfl
  have HR0 := Sh.mk hr0
  have HN := Sh.mk hr0.1
  have hl : n ≤ 9223372036854775807 := hr0.2.1
  have f1 : ∀ x, 0 ≤ Go.bits .and .u32 x 15 := fun x => (and15 x).1
  have f2 : ∀ x, Go.bits .and .u32 x 15 < 16 := fun x => (and15 x).2
  have f3 := hT.at_
  clear hr0 hT
  go_enter Tryd.func14, Tryd.ntmps14
  go_wp2
  go_loop [5, 12] (fun r i => ∃ k : Nat, k ≤ n ∧ r = .int .u32 (crcLoop (Go.bits .xor .u32 IntKind.u32.max a0) (l0.take k)) ∧ i = .int .i64 k) (fun _ i => n - (intOf i).toNat)
  case atStart => exact ⟨0, by omega, rfl, rfl⟩
  case round =>
    obtain ⟨k, hk, rfl, rfl⟩ := hrel
    by_cases hlt : k < n
    · obtain ⟨ad, e1, hx⟩ := C_at HR0.out k hlt
      cases e1
      obtain ⟨x, hx0⟩ : ∃ x, x = crcLoop (Go.bits .xor .u32 IntKind.u32.max a0) (l0.take k) := ⟨_, rfl⟩
      rw [← hx0]
      have HX := Sh.mk hx0
      clear hx0
      go_wp2
      go_round
      case rel => exact ⟨k + 1, by omega, by rw [take_snoc l0 k (by rw [HN.out]; exact hlt), crcLoop, List.foldl_append]; rw [show List.foldl crcStep (Go.bits .xor .u32 IntKind.u32.max a0) (l0.take k) = x from HX.out.symm]; rfl, by go_num⟩
      case measure => simp [intOf]; omega
    · go_wp2
      go_ret
      have e : l0.take k = l0 := List.take_of_length_le (by rw [HN.out]; omega)
      exact ⟨by rw [e]; rfl, rfl⟩
set_option maxRecDepth 100000 in
theorem crc_any (A0 : Option Addr) (c0 : Nat) (n : Nat) (l0 : List Int) (w : World) (hr0 : Kd.C (Kd.int .u8) w A0 n l0) (hT : CrcAt w) :
    Calls Tryd.prog 13 #[.slice A0 n c0] w fun e w' => e = .returned (.int .u32 (crcMoreF 0 l0)) ∧ w = w' := by
  go_enter Tryd.func13, Tryd.ntmps13
  go_wp2_with (go_at_call 14; refine (crcMore_any _ _ _ _ _ _ hr0 hT).mono ?_; rintro e w1 ⟨rfl, rfl⟩)
  go_ret
  exact ⟨rfl, rfl⟩
/-- One bit, as the document tells it. -/
def bitStep (r : Int) : Int := if Go.bits .and .u32 r 1 = 1 then Go.bits .xor .u32 (r / 2) 3988292384 else r / 2
def bitN : Nat → Int → Int
  | 0, r => r
  | j + 1, r => bitStep (bitN j r)
def refStep (x b : Int) : Int := bitN 8 (Go.bits .xor .u32 x (b % 4294967296))
def refMoreF (a : Int) (l : List Int) : Int := Go.bits .xor .u32 (l.foldl refStep (Go.bits .xor .u32 a 4294967295)) 4294967295
set_option maxRecDepth 100000 in
theorem refMore_any (A0 : Option Addr) (c0 : Nat) (n : Nat) (l0 : List Int) (a0 : Int) (w : World) (hr0 : Kd.C (Kd.int .u8) w A0 n l0) :
    Calls Tryd.prog 18 #[.int .u32 a0, .slice A0 n c0] w fun e w' => e = .returned (.int .u32 (refMoreF a0 l0)) ∧ w = w' := by
  have HR0 := Sh.mk hr0
  have HN := Sh.mk hr0.1
  have hl : n ≤ 9223372036854775807 := hr0.2.1
  clear hr0
  go_enter Tryd.func18, Tryd.ntmps18
  go_wp2
  go_loop [5, 6] (fun r i => ∃ k : Nat, k ≤ n ∧ r = .int .u32 ((l0.take k).foldl refStep (Go.bits .xor .u32 a0 4294967295)) ∧ i = .int .i64 k) (fun _ i => n - (intOf i).toNat)
  case atStart => exact ⟨0, by omega, rfl, rfl⟩
  case round =>
    obtain ⟨k, hk, rfl, rfl⟩ := hrel
    by_cases hlt : k < n
    · obtain ⟨ad, e1, hx⟩ := C_at HR0.out k hlt
      cases e1
      obtain ⟨x, hx0⟩ : ∃ x, x = (l0.take k).foldl refStep (Go.bits .xor .u32 a0 4294967295) := ⟨_, rfl⟩
      rw [← hx0]
      have HX := Sh.mk hx0
      clear hx0
      go_wp2
      obtain ⟨y, hy0⟩ : ∃ y, y = Go.bits .xor .u32 x (rd l0 k % 4294967296) := ⟨_, rfl⟩
      rw [← hy0]
      have HY := Sh.mk hy0
      clear hy0
      go_loop [5, 7] (fun r j => ∃ m : Nat, m ≤ 8 ∧ r = .int .u32 (bitN m y) ∧ j = .int .i64 m) (fun _ j => 8 - (intOf j).toNat)
      case atStart => exact ⟨0, by omega, rfl, rfl⟩
      case round =>
        obtain ⟨m, hm, rfl, rfl⟩ := hrel
        by_cases hlt8 : m < 8
        · obtain ⟨z, hz0⟩ : ∃ z, z = bitN m y := ⟨_, rfl⟩
          rw [← hz0]
          by_cases hb : Go.bits .and .u32 z 1 = 1
          · have hs : bitN (m + 1) y = Go.bits .xor .u32 (z / 2) 3988292384 := by rw [bitN, ← hz0, bitStep, if_pos hb]
            have HS := Sh.mk hs
            clear hs hz0
            have hb1 : (Go.bits .and .u32 z 1 == 1) = true := by rw [hb]; rfl
            clear hb
            go_wp2
            go_round
            case rel => exact ⟨m + 1, by omega, by rw [HS.out], by go_num⟩
            case measure => simp [intOf]; omega
          · have hs : bitN (m + 1) y = z / 2 := by rw [bitN, ← hz0, bitStep, if_neg hb]
            have HS := Sh.mk hs
            clear hs hz0
            have hb1 : (Go.bits .and .u32 z 1 == 1) = false := by simpa using hb
            clear hb
            go_wp2
            go_round
            case rel => exact ⟨m + 1, by omega, by rw [HS.out], by go_num⟩
            case measure => simp [intOf]; omega
        · obtain rfl : m = 8 := by omega
          go_wp2
          go_round
          case rel => exact ⟨k + 1, by omega, by rw [take_snoc l0 k (by rw [HN.out]; exact hlt), List.foldl_append, ← HX.out, HY.out]; rfl, by go_num⟩
          case measure => simp [intOf]; omega
    · have e : l0.take k = l0 := List.take_of_length_le (by rw [HN.out]; omega)
      rw [e]
      go_wp2
      go_ret
      exact ⟨rfl, rfl⟩
set_option maxRecDepth 100000 in
theorem refCrc_any (A0 : Option Addr) (c0 : Nat) (n : Nat) (l0 : List Int) (w : World) (hr0 : Kd.C (Kd.int .u8) w A0 n l0) :
    Calls Tryd.prog 17 #[.slice A0 n c0] w fun e w' => e = .returned (.int .u32 (refMoreF 0 l0)) ∧ w = w' := by
  go_enter Tryd.func17, Tryd.ntmps17
  go_wp2_with (go_at_call 18; refine (refMore_any _ _ _ _ _ _ hr0).mono ?_; rintro e w1 ⟨rfl, rfl⟩)
  go_ret
  exact ⟨rfl, rfl⟩
end Go.Proofs.YtlhnajgckdeedaaDoor
