/-
The document's reader, walked: NewReader, Left, Num, Text. Conditions: at most 2^47 - 4096 bytes.
-/
import Derived.Test.YtlhnajgckdeedaaDoorRtext
namespace Go.Proofs.YtlhnajgckdeedaaDoor
open Go Go.RowKit Go.Proofs.YtlhnajgckdeedaaDoorW.PrintWords Go.Proofs.YtlhnajgckdeedaaDoorW.PrintLast Go.Proofs.YtlhnajgckdeedaaDoorW.PrintMore
abbrev RrT : TypeId := 93
/-- The document's reader in memory: its bytes, how many are read. -/
structure RRd (w : World) (B b : Nat) (A : Option Addr) (c : Nat) (xs : List Int) (pos : Nat) : Prop where
  blk : w.heap[b]? = some (.cells #[.slice A xs.length c, .int .i64 (pos : Int)] RrT (0, 0))
  row : Kd.R (Kd.int .u8) 5 w B (fun _ => True) (.slice A xs.length c) xs
  pos_le : pos ≤ xs.length
theorem RRd.lt {w : World} {B b : Nat} {A : Option Addr} {c : Nat} {xs : List Int} {pos : Nat} (h : RRd w B b A c xs pos) : b < w.heap.size := blk_lt h.blk
theorem RRd.below {w w1 : World} {B b : Nat} {A : Option Addr} {c : Nat} {xs : List Int} {pos : Nat} (h : RRd w B b A c xs pos) (hb : Below w.heap.size w w1) : RRd w1 B b A c xs pos :=
  ⟨blk_below h.blk hb, Kd.R_below h.row hb, h.pos_le⟩
theorem RRd.C {w : World} {B b : Nat} {A : Option Addr} {c : Nat} {xs : List Int} {pos : Nat} (h : RRd w B b A c xs pos) : (Kd.int .u8).C w A xs.length xs := C_of_R h.row rfl
/-- The place moved on. -/
theorem RRd.move {w : World} {B b : Nat} {A : Option Addr} {c : Nat} {xs : List Int} {pos : Nat} (h : RRd w B b A c xs pos) (q : Nat) (hq : q ≤ xs.length) : RRd (w.setCell ⟨b, 1, none⟩ (.int .i64 (q : Int))) B b A c xs q := by
  refine ⟨?_, ?_, hq⟩
  · have := blk_set h.blk 1 (.int .i64 (q : Int))
    simpa using this
  · exact Kd.R_set h.row h.blk (by intro q hq; rcases List.mem_cons.1 hq with rfl | hq <;> first | decide | cases hq) 1 _
theorem RRd.moved {w : World} {B b : Nat} {A : Option Addr} {c : Nat} {xs : List Int} {pos : Nat} (h : RRd w B b A c xs pos) (n k : Nat) (hk : pos + (k + 1) ≤ xs.length) :
    RRd ((w.drewN n).setCell ⟨b, 1, none⟩ (.int .i64 ((pos : Int) + ((k : Int) + 1)))) B b A c xs (pos + (k + 1)) := by
  have hm := (h.below (pw_below_drewN (Below.refl w.heap.size w) n)).move (pos + (k + 1)) hk
  rw [show (((pos + (k + 1) : Nat)) : Int) = (pos : Int) + ((k : Int) + 1) by omega] at hm
  exact hm
set_option maxRecDepth 100000 in
theorem refNewReader_any (A : Option Addr) (c n : Nat) (xs : List Int) (w : World) (hC : (Kd.int .u8).C w A n xs) (hn : n ≤ 140737488355327) :
    Calls Tryd.prog 29 #[.slice A n c] w fun e w' => ∃ b A2 c2, e = .returned (.pointer (some ⟨b, 0, none⟩)) ∧ w.heap.size ≤ b ∧ RRd w' w.heap.size b A2 c2 xs 0 ∧ Below w.heap.size w w' := by
  have HO := Sh.mk (Kd.R_nil (Kd.int .u8) 5 w w.heap.size (fun _ => True))
  have HB := Sh.mk (Below.refl w.heap.size w)
  have HL := Sh.mk hC.1
  go_enter Tryd.func29, Tryd.ntmps29
  go_wp2_with (first | ((with_reducible refine gate_builtin (b := .append) (xs := #[.tmp 4, .tmp 5]) rfl ?_); refine app_intsB 28 5 .u8 1 Tryd.underlying28 info_u8 (by omega) (.tmp 4) (.tmp 5) (base := w.heap.size) (w0 := w) _ _ xs A n c rfl rfl rfl rfl HO hC HB (Nat.le_refl _) (by simp; omega) ?_; clear HO HB; intro v1 w1 HO HB; rw [List.nil_append] at HO; obtain ⟨A2, c2, rfl, hc2, _⟩ := Kd.R_reads HO.out))
  go_ret
  refine ⟨w1.heap.size, A2, c2, rfl, HB.out.size, ⟨blk_new _ _, Kd.R_alloc HO.out _, Nat.zero_le _⟩, HB.out.alloc HB.out.size _⟩
set_option maxRecDepth 100000 in
theorem refLeft_any (B b : Nat) (A : Option Addr) (c : Nat) (xs : List Int) (pos : Nat) (w : World) (h : RRd w B b A c xs pos) :
    Calls Tryd.prog 34 #[.pointer (some ⟨b, 0, none⟩)] w fun e w' => e = .returned (.int .i64 ((xs.length - pos : Nat) : Int)) ∧ Drawn0 w w' := by
  have x0 := blk_cell h.blk 0
  have x1 := blk_cell h.blk 1
  simp only [List.getElem?_toArray, List.getElem?_cons_zero, List.getElem?_cons_succ] at x0 x1
  have hp := h.pos_le
  have hl := C_len h.C
  go_enter Tryd.func34, Tryd.ntmps34
  go_wp2
  go_quiet (fail)
  go_wp2
  go_ret
  exact ⟨by rw [show ((xs.length - pos : Nat) : Int) = (xs.length : Int) - pos by omega]; rfl, ⟨⟨_, rfl⟩⟩⟩
def RRnPost (B b : Nat) (A : Option Addr) (c : Nat) (xs : List Int) (pos : Nat) (w : World) (r : Except Nat (Nat × Nat)) (e : Ending) (w' : World) : Prop :=
  match r with
  | .ok (x, u) => e = .returned (.tuple #[.int .i64 (x : Int), .int .i64 0]) ∧ RRd w' B b A c xs (pos + u) ∧ w.grownBy w' (some b) ∧ x < 9223372036854775808
  | .error g => e = .returned (.tuple #[.int .i64 0, .int .i64 (g : Int)]) ∧ Drawn0 w w'
set_option maxHeartbeats 8000000 in
set_option maxRecDepth 100000 in
theorem refRnum_any (B b : Nat) (A : Option Addr) (c : Nat) (xs : List Int) (pos : Nat) (w : World) (h : RRd w B b A c xs pos) (hx : ∀ x ∈ xs, 0 ≤ x ∧ x < 256) :
    Calls Tryd.prog 33 #[.pointer (some ⟨b, 0, none⟩)] w (RRnPost B b A c xs pos w (rnum 9 0 0 (xs.drop pos))) := by
  have H := Sh.mk h
  have HXb := Sh.mk hx
  have hp := h.pos_le
  have hl := C_len h.C
  have x0 := blk_cell h.blk 0
  have x1 := blk_cell h.blk 1
  simp only [List.getElem?_toArray, List.getElem?_cons_zero, List.getElem?_cons_succ] at x0 x1
  have xf := blk_frozen h.blk 1
  obtain ⟨R, hR⟩ : ∃ R, R = rnum 9 0 0 (xs.drop pos) := ⟨_, rfl⟩
  rw [← hR]
  have HR0 := Sh.mk hR
  clear h hx hR
  go_enter Tryd.func33, Tryd.ntmps33
  go_wp2
  go_loopw [4, 5, 6, 7] (fun n u i _ wr => ∃ (k m m2 U q : Nat), k ≤ 9 ∧ i = .int .i64 k ∧ n = .int .i64 m ∧ u = .int .i64 U ∧ (k < 9 → m2 = m ∧ m < 128 ^ k ∧ Sh (U = 128 ^ k)) ∧ pos + k ≤ xs.length ∧ Sh (R = rnum (9 - k) k m2 (xs.drop (pos + k))) ∧ wr = w.drewN q) (fun _ _ i _ _ => 9 - (intOf i).toNat)
  case atStart => exact ⟨0, 0, 0, 1, 0, by omega, rfl, rfl, rfl, fun _ => ⟨rfl, by omega, ⟨rfl⟩⟩, by omega, HR0, rfl⟩
  case round =>
    obtain ⟨k, m, m2, U, q, hk, rfl, rfl, rfl, hmU, hpk, HR, rfl⟩ := hrel
    by_cases hlt : k < 9
    · obtain ⟨rfl, hm, HU⟩ := hmU hlt
      have hb72 := bl_bound k hlt
      rw [← HU.out] at hb72
      by_cases hin : pos + k < xs.length
      · obtain ⟨ad, e1, hc⟩ := C_at H.out.C (pos + k) hin
        cases e1
        have hxk : rd xs ((pos + k : Nat) : Int) = xs[pos + k] := by simp only [rd, List.getD, Int.toNat_natCast, List.getElem?_eq_getElem hin, Option.getD_some]
        have hdrop : xs.drop (pos + k) = xs[pos + k] :: xs.drop (pos + (k + 1)) := by rw [List.drop_eq_getElem_cons hin]; rfl
        have hrange := HXb.out _ (List.getElem_mem hin)
        rw [hxk] at hc
        rw [hdrop, show 9 - k = (8 - k) + 1 by omega, rnum] at HR
        obtain ⟨z, hz⟩ := Int.eq_ofNat_of_zero_le hrange.1
        rw [hz] at hc hrange HR
        have hz256 : z < 256 := by omega
        have hzn : ((z : Int)).toNat = z := by simp
        clear hxk hdrop hz hrange
        by_cases hz128 : z < 128
        · rw [if_pos (show (z : Int) < 128 by omega)] at HR
          rw [hzn, ← HU.out] at HR
          have hbd := acc_bound z k m2 hz128 hlt hm
          rw [← HU.out] at hbd
          obtain ⟨y, hy⟩ : ∃ y, y = z * U := ⟨_, rfl⟩
          rw [← hy] at hbd HR
          have hyw : IntKind.i64.wrap ((z : Int) * (U : Int)) = (y : Int) := by rw [← Int.natCast_mul, ← hy, IntKind.wrap_i64]; omega
          have hyw2 : wrap64 ((z : Int) * (U : Int)) = (y : Int) := by rw [← Int.natCast_mul, ← hy]; unfold wrap64; omega
          clear hzn hy
          by_cases hz0 : z = 0
          · have hz0b : ((z : Int) == 0) = true := by simp [hz0]
            by_cases hk0 : 0 < k
            · rw [if_pos ⟨by omega, hk0⟩] at HR
              clear hz0
              go_wp2
              go_quiet (fail)
              go_wp2
              go_quiet (fail)
              go_wp2
              go_ret2
              rw [HR.out]
              exact ⟨rfl, ⟨⟨_, rfl⟩⟩⟩
            · rw [if_neg (by omega)] at HR
              have hk0b : decide (0 < k) = false := by simp; omega
              clear hk0 hz0
              go_wp2
              go_quiet (fail)
              go_wp2
              go_quiet (fail)
              go_wp2
              go_ret2
              rw [HR.out]
              refine ⟨by rw [Int.natCast_add]; rfl, ?_, ?_, hbd⟩
              · exact H.out.moved _ k (by omega)
              · exact ⟨rfl, rfl, rfl, by simp [World.setCell], fun i _ hi => Below.heap_setCell _ _ _ _ (fun e => hi (by rw [e]))⟩
          · rw [if_neg (by omega)] at HR
            have hz0b : ((z : Int) == 0) = false := by simpa using hz0
            clear hz0
            go_wp2
            go_quiet (fail)
            go_wp2
            go_quiet (fail)
            go_wp2
            go_ret2
            rw [HR.out]
            refine ⟨by rw [Int.natCast_add]; rfl, ?_, ?_, hbd⟩
            · exact H.out.moved _ k (by omega)
            · exact ⟨rfl, rfl, rfl, by simp [World.setCell], fun i _ hi => Below.heap_setCell _ _ _ _ (fun e => hi (by rw [e]))⟩
        · rw [if_neg (show ¬ (z : Int) < 128 by omega)] at HR
          have hzm : ((z : Int) - 128).toNat = z - 128 := by omega
          rw [hzm, ← HU.out] at HR
          have hbd := acc_bound (z - 128) k m2 (by omega) hlt hm
          have hm2 : m2 + (z - 128) * 128 ^ k < 128 ^ (k + 1) := by
            have h1 : (z - 128) * 128 ^ k ≤ 127 * 128 ^ k := Nat.mul_le_mul_right _ (by omega)
            rw [Nat.pow_succ]
            omega
          have hpw : (128 : Nat) ^ (k + 1) = U * 128 := by rw [Nat.pow_succ, HU.out]
          rw [← HU.out] at hbd hm2
          rw [hpw] at hm2
          obtain ⟨y, hy⟩ : ∃ y, y = (z - 128) * U := ⟨_, rfl⟩
          rw [← hy] at hbd hm2 HR
          have hyz : ((z : Int) - 128) * (U : Int) = (y : Int) := by rw [hy, Int.natCast_mul, show ((z - 128 : Nat) : Int) = (z : Int) - 128 by omega]
          have hyw : IntKind.i64.wrap (((z : Int) - 128) * (U : Int)) = (y : Int) := by rw [hyz, IntKind.wrap_i64]; omega
          have hyw2 : wrap64 (((z : Int) - 128) * (U : Int)) = (y : Int) := by rw [hyz]; unfold wrap64; omega
          have HP := Sh.mk hpw
          clear hzm hzn hy hyz hpw
          by_cases hk8 : k < 8
          · have hb2 : U * 128 ≤ 72057594037927936 := by
              have := bl_bound (k + 1) (by omega)
              rw [HP.out] at this
              exact this
            go_wp2
            go_quiet (fail)
            go_wp2
            go_quiet (fail)
            go_wp2
            go_roundw
            case rel => exact ⟨k + 1, m2 + y, m2 + y, U * 128, _, by omega, by go_num, by go_num, by go_num, fun _ => ⟨rfl, by rw [HP.out]; exact hm2, ⟨HP.out.symm⟩⟩, by omega, ⟨by rw [HR.out, show 9 - (k + 1) = 8 - k by omega]⟩, rfl⟩
            case measure => simp [intOf]; omega
          · have hk8b : decide (k < 8) = false := by simpa using hk8
            go_wp2
            go_quiet (fail)
            go_wp2
            go_quiet (fail)
            go_wp2
            go_roundw
            case rel => exact ⟨k + 1, m2, m2 + y, U, _, by omega, by go_num, by go_num, by go_num, fun h => absurd h (by omega), by omega, ⟨by rw [HR.out, show 9 - (k + 1) = 8 - k by omega]⟩, rfl⟩
            case measure => simp [intOf]; omega
      · have hnil : xs.drop (pos + k) = [] := List.drop_eq_nil_of_le (by omega)
        rw [hnil, show 9 - k = (8 - k) + 1 by omega, rnum] at HR
        clear hnil
        go_wp2
        go_quiet (fail)
        go_wp2
        go_ret2
        rw [HR.out]
        exact ⟨rfl, drawn2 _ _ _⟩
    · obtain rfl : k = 9 := by omega
      rw [Nat.sub_self, rnum] at HR
      go_wp2
      go_ret2
      rw [HR.out]
      exact ⟨rfl, ⟨⟨_, rfl⟩⟩⟩
end Go.Proofs.YtlhnajgckdeedaaDoor
