/-
codec.Reader's Num: what is read of bytes. Conditions: ErrShort and ErrForm read as listed.
-/
import Derived.Test.YtlhnajgckdeedaaDoorReader
namespace Go.Proofs.YtlhnajgckdeedaaDoor
open Go Go.RowKit Go.Proofs.YtlhnajgckdeedaaDoorW.PrintWords Go.Proofs.YtlhnajgckdeedaaDoorW.PrintLast Go.Proofs.YtlhnajgckdeedaaDoorW.PrintMore
/-- What Num reads: k rounds are left, i were made, m is gathered. A refusal, or the number and how many bytes it takes. -/
def rnum : Nat → Nat → Nat → List Int → Except Nat (Nat × Nat)
  | 0, _, _, _ => .error 10
  | _ + 1, _, _, [] => .error 4
  | k + 1, i, m, b :: l => if b < 128 then (if b = 0 ∧ 0 < i then .error 10 else .ok (m + b.toNat * 128 ^ i, i + 1)) else rnum k (i + 1) (m + (b - 128).toNat * 128 ^ i) l
def RnPost (E : Nat → Addr) (B b : Nat) (A : Option Addr) (c : Nat) (xs : List Int) (pos : Nat) (w : World) (r : Except Nat (Nat × Nat)) (e : Ending) (w' : World) : Prop :=
  match r with
  | .ok (x, u) => e = .returned (.tuple #[.int .i64 (x : Int), .nilIface]) ∧ Rdr w' B b A c xs (pos + u) ∧ w.grownBy w' (some b) ∧ x < 9223372036854775808
  | .error g => e = .returned (.tuple #[.int .i64 0, .iface 104 (.pointer (some (E g)))]) ∧ Drawn0 w w'
theorem bl_bound : ∀ k : Nat, k < 9 → (128 : Nat) ^ k ≤ 72057594037927936 := by decide
theorem and127 : ∀ r : Fin 256, Go.bits .and .u8 (r.val : Int) 127 = ((r.val % 128 : Nat) : Int) := by decide +kernel
theorem p128 : ∀ k : Nat, k < 9 → (2 : Int) ^ (7 * k) = ((128 ^ k : Nat) : Int) := by decide
theorem acc_bound (z k m : Nat) (hz : z < 128) (hk : k < 9) (hm : m < 128 ^ k) : m + z * 128 ^ k < 9223372036854775808 := by
  have hb := bl_bound k hk
  have : z * 128 ^ k ≤ 127 * 128 ^ k := Nat.mul_le_mul_right _ (by omega)
  omega
/-- What a round gathers. -/
theorem acc_or (z k m : Nat) (hz : z < 256) (hk : k < 9) (hm : m < 128 ^ k) :
    Go.bits .or .i64 (m : Int) (wrap64 (wrap64 (Go.bits .and .u8 (z : Int) 127) * 2 ^ (7 * k))) = ((m + z % 128 * 128 ^ k : Nat) : Int) := by
  have h1 := and127 ⟨z, hz⟩
  simp only at h1
  have hb := acc_bound (z % 128) k m (by omega) hk hm
  have hpos : 0 < 128 ^ k := Nat.pos_of_ne_zero (by simp)
  have e1 : wrap64 (((z % 128 : Nat) : Int)) = ((z % 128 : Nat) : Int) := by unfold wrap64; omega
  have e2 : (((z % 128 : Nat) : Int)) * ((128 ^ k : Nat) : Int) = ((z % 128 * 128 ^ k : Nat) : Int) := by rw [Int.natCast_mul]
  have e3 : wrap64 (((z % 128 * 128 ^ k : Nat) : Int)) = ((z % 128 * 128 ^ k : Nat) : Int) := by
    generalize z % 128 * 128 ^ k = t at hb
    unfold wrap64
    omega
  rw [h1, e1, p128 k hk, e2, e3]
  have hor := (bits_nat .i64 63 (by decide) (fun n h0 h1 => by rw [IntKind.wrap_i64]; omega) m (z % 128 * 128 ^ k) (by omega) (by omega)).2
  rw [hor]
  congr 1
  have e4 : (128 : Nat) ^ k = 2 ^ (7 * k) := by rw [show (128 : Nat) = 2 ^ 7 by rfl, ← Nat.pow_mul]
  rw [e4] at hm ⊢
  rw [Nat.or_comm, Nat.mul_comm, ← Nat.two_pow_add_eq_or_of_lt hm, Nat.add_comm]
theorem drawn2 (w : World) (a b : Nat) : Drawn0 w ((w.drewN a).drewN b) := ((Drawn0.refl w).step a).step b
theorem drawn3 (w : World) (a b c : Nat) : Drawn0 w (((w.drewN a).drewN b).drewN c) := (((Drawn0.refl w).step a).step b).step c
theorem Rdr.moved {w : World} {B b : Nat} {A : Option Addr} {c : Nat} {xs : List Int} {pos : Nat} (h : Rdr w B b A c xs pos) (n k : Nat) (hk : pos + (k + 1) ≤ xs.length) :
    Rdr ((w.drewN n).setCell ⟨b, 1, none⟩ (.int .i64 ((pos : Int) + ((k : Int) + 1)))) B b A c xs (pos + (k + 1)) := by
  have hm := (h.below (pw_below_drewN (Below.refl w.heap.size w) n)).move (pos + (k + 1)) hk
  rw [show (((pos + (k + 1) : Nat)) : Int) = (pos : Int) + ((k : Int) + 1) by omega] at hm
  exact hm
set_option maxHeartbeats 8000000 in
set_option maxRecDepth 100000 in
theorem rnum_any (E : Nat → Addr) (B b : Nat) (A : Option Addr) (c : Nat) (xs : List Int) (pos : Nat) (w : World) (hE : GS [4, 10] E w) (h : Rdr w B b A c xs pos) (hx : ∀ x ∈ xs, 0 ≤ x ∧ x < 256) :
    Calls Tryd.prog 24 #[.pointer (some ⟨b, 0, none⟩)] w (RnPost E B b A c xs pos w (rnum 9 0 0 (xs.drop pos))) := by
  have H := Sh.mk h
  have HE := Sh.mk hE
  have HXb := Sh.mk hx
  have hp := h.pos_le
  have hl := C_len h.C
  have x0 := blk_cell h.blk 0
  have x1 := blk_cell h.blk 1
  simp only [List.getElem?_toArray, List.getElem?_cons_zero, List.getElem?_cons_succ] at x0 x1
  have xf := blk_frozen h.blk 1
  have c4 := (hE.s 4 (by decide)).cell
  have c10 := (hE.s 10 (by decide)).cell
  simp only [errG] at c4 c10
  obtain ⟨R, hR⟩ : ∃ R, R = rnum 9 0 0 (xs.drop pos) := ⟨_, rfl⟩
  rw [← hR]
  have HR0 := Sh.mk hR
  clear h hE hx hR
  go_enter Tryd.func24, Tryd.ntmps24
  go_wp2
  go_loopw [4, 5, 6, 7] (fun n _ _ i wr => ∃ (k m q : Nat), k ≤ 9 ∧ i = .int .i64 k ∧ n = .int .i64 m ∧ m < 128 ^ k ∧ pos + k ≤ xs.length ∧ Sh (R = rnum (9 - k) k m (xs.drop (pos + k))) ∧ wr = w.drewN q) (fun _ _ _ i _ => 9 - (intOf i).toNat)
  case atStart => exact ⟨0, 0, 0, by omega, rfl, rfl, by omega, by omega, HR0, rfl⟩
  case round =>
    obtain ⟨k, m, q, hk, rfl, rfl, hm, hpk, HR, rfl⟩ := hrel
    by_cases hlt : k < 9
    · by_cases hin : pos + k < xs.length
      · obtain ⟨ad, e1, hc⟩ := C_at H.out.C (pos + k) hin
        cases e1
        have hxk : rd xs ((pos + k : Nat) : Int) = xs[pos + k] := by simp only [rd, List.getD, Int.toNat_natCast, List.getElem?_eq_getElem hin, Option.getD_some]
        have hdrop : xs.drop (pos + k) = xs[pos + k] :: xs.drop (pos + (k + 1)) := by rw [List.drop_eq_getElem_cons hin]; rfl
        have hrange := HXb.out _ (List.getElem_mem hin)
        rw [hxk] at hc
        rw [hdrop, show 9 - k = (8 - k) + 1 by omega, rnum] at HR
        obtain ⟨z, hz⟩ := Int.eq_ofNat_of_zero_le hrange.1
        rw [hz] at hc hrange HR
        have hz256 : z < 256 := by omega
        have hor := acc_or z k m hz256 hlt hm
        have hzn : ((z : Int)).toNat = z := by simp
        clear hxk hdrop hz hrange
        by_cases hz128 : z < 128
        · rw [if_pos (show (z : Int) < 128 by omega)] at HR
          have hmod : z % 128 = z := Nat.mod_eq_of_lt hz128
          rw [hmod] at hor
          rw [hzn] at HR
          have hbd := acc_bound z k m hz128 hlt hm
          clear hmod hzn
          by_cases hz0 : z = 0
          · have hz0b : ((z : Int) == 0) = true := by simp [hz0]
            by_cases hk0 : 0 < k
            · rw [if_pos ⟨by omega, hk0⟩] at HR
              clear hz0
              go_wp2
              go_quiet (fail)
              go_wp2
              go_quiet (fail)
              go_wp2
              go_quiet (fail)
              go_wp2
              go_ret2
              rw [HR.out]
              exact ⟨rfl, drawn2 _ _ _⟩
            · rw [if_neg (by omega)] at HR
              have hk0b : decide (0 < k) = false := by simp; omega
              clear hk0 hz0
              go_wp2
              go_quiet (fail)
              go_wp2
              go_quiet (fail)
              go_wp2
              go_ret2
              rw [HR.out]
              refine ⟨by rw [Int.natCast_add, Int.natCast_mul, Int.natCast_pow]; rfl, ?_, ?_, hbd⟩
              · exact H.out.moved _ k (by omega)
              · exact ⟨rfl, rfl, rfl, by simp [World.setCell], fun i _ hi => Below.heap_setCell _ _ _ _ (fun e => hi (by rw [e]))⟩
          · rw [if_neg (by omega)] at HR
            have hz0b : ((z : Int) == 0) = false := by simpa using hz0
            clear hz0
            go_wp2
            go_quiet (fail)
            go_wp2
            go_quiet (fail)
            go_wp2
            go_ret2
            rw [HR.out]
            refine ⟨by rw [Int.natCast_add, Int.natCast_mul, Int.natCast_pow]; rfl, ?_, ?_, hbd⟩
            · exact H.out.moved _ k (by omega)
            · exact ⟨rfl, rfl, rfl, by simp [World.setCell], fun i _ hi => Below.heap_setCell _ _ _ _ (fun e => hi (by rw [e]))⟩
        · rw [if_neg (show ¬ (z : Int) < 128 by omega)] at HR
          have hzm : ((z : Int) - 128).toNat = z % 128 := by omega
          rw [hzm] at HR
          have hm2 : m + z % 128 * 128 ^ k < 128 ^ (k + 1) := by
            have h1 : z % 128 * 128 ^ k ≤ 127 * 128 ^ k := Nat.mul_le_mul_right _ (by omega)
            rw [Nat.pow_succ]
            omega
          clear hzm hzn
          go_wp2
          go_quiet (fail)
          go_wp2
          go_quiet (fail)
          go_wp2
          go_roundw
          case rel => exact ⟨k + 1, m + z % 128 * 128 ^ k, _, by omega, by go_num, by (try rw [Int.natCast_add, Int.natCast_mul, Int.natCast_pow]); rfl, hm2, by omega, ⟨by rw [HR.out, show 9 - (k + 1) = 8 - k by omega]⟩, rfl⟩
          case measure => simp [intOf]; omega
      · have hnil : xs.drop (pos + k) = [] := List.drop_eq_nil_of_le (by omega)
        rw [hnil, show 9 - k = (8 - k) + 1 by omega, rnum] at HR
        clear hnil
        go_wp2
        go_quiet (fail)
        go_wp2
        go_quiet (fail)
        go_wp2
        go_ret2
        rw [HR.out]
        exact ⟨rfl, drawn3 _ _ _ _⟩
    · obtain rfl : k = 9 := by omega
      rw [Nat.sub_self, rnum] at HR
      go_wp2
      go_quiet (fail)
      go_wp2
      go_ret2
      rw [HR.out]
      exact ⟨rfl, drawn2 _ _ _⟩
end Go.Proofs.YtlhnajgckdeedaaDoor
