/-
The walk of caesuralaw1.CodecLike: true where the sum of what three texts are xored together is their sums xored together. Conditions: texts of at most 2^47 - 4096 bytes; the table and ErrArg read as listed.
-/
import Derived.Test.YtlhnajgckdeedaaDoorPartsW
import Derived.Deep.QuietTactic
import Derived.BigQuiet
import Derived.Deep.RegionHeld3
namespace Go.Proofs.YtlhnajgckdeedaaDoor
open Go Go.RowKit Go.Proofs.YtlhnajgckdeedaaDoorW.PrintWords Go.Proofs.YtlhnajgckdeedaaDoorW.PrintLast Go.Proofs.YtlhnajgckdeedaaDoorW.PrintMore
/-- The bytes of three texts, place by place. -/
def triples (a b c : ByteArray) (k : Nat) : List (Int × Int × Int) := (List.range k).map fun (i : Nat) => (bt a (i : Int), bt b (i : Int), bt c (i : Int))
def xors (a b c : ByteArray) (k : Nat) : List Int := (triples a b c k).map fun p => crc.xor3 p.1 p.2.1 p.2.2
theorem xors_succ (a b c : ByteArray) (k : Nat) : xors a b c (k + 1) = xors a b c k ++ [crc.xor3 (bt a k) (bt b k) (bt c k)] := by simp [xors, triples, List.range_succ]
theorem xors_len (a b c : ByteArray) (k : Nat) : (xors a b c k).length = k := by simp [xors, triples]
theorem S3.three {g : Nat} {x y z : Value} {t : TypeId} {w0 W : World} (h : Core g #[x, y, z] t w0 W) : W.cell? ⟨g, 0, none⟩ = some x ∧ W.cell? ⟨g, 1, none⟩ = some y ∧ W.cell? ⟨g, 2, none⟩ = some z :=
  ⟨(S3.of h).1, (S3.of h).2.1, (S3.of h).2.2.1⟩
theorem ext_size (a : ByteArray) (k : Nat) (h : k ≤ a.size) : (a.extract 0 k).size = k := by rw [ByteArray.size_extract]; omega
theorem bytes_X (s : ByteArray) (k : Nat) (hk : k ≤ s.size) (w : World) (hs : s.size ≤ 140737488355327) :
    Calls Tryd.prog 16 #[.string (s.extract 0 k)] w fun e w' => ∃ A c, e = .returned (.slice A k c) ∧ Sh ((Kd.int .u8).C w' A k (bytesOf (s.extract 0 k))) ∧ Below w.heap.size w w' := by
  have e := ext_size s k hk
  refine (bytes_C (s.extract 0 k) w (by omega)).mono ?_
  rw [e]
  exact fun _ _ h => h
theorem bytes_map (a : ByteArray) (k : Nat) (h : k ≤ a.size) : bytesOf (a.extract 0 k) = (List.range k).map fun (i : Nat) => bt a (i : Int) := by
  apply List.ext_getElem
  · rw [bytesOf_length, ext_size a k h]; simp
  · intro i h1 h2
    have hi : i < k := by simpa using h2
    have e1 : (bytesOf (a.extract 0 k))[i] = bt (a.extract 0 k) (i : Int) := by
      rw [← rd_bytesOf]
      simp [rd, List.getD, h1]
    rw [e1, List.getElem_map, List.getElem_range]
    unfold bt
    rw [dif_pos (by rw [ext_size a k h]; simpa using hi), dif_pos (by simp; omega)]
    simp [ByteArray.getElem_extract]
theorem bt_byte (s : ByteArray) (i : Int) : 0 ≤ bt s i ∧ bt s i < 256 := by have := bt_range s i; omega
theorem like_eq (a b c : ByteArray) (k : Nat) (ha : k ≤ a.size) (hb : k ≤ b.size) (hc : k ≤ c.size) :
    Go.bits .xor .u32 (Go.bits .xor .u32 (crcMoreF 0 (bytesOf (a.extract 0 k))) (crcMoreF 0 (bytesOf (b.extract 0 k)))) (crcMoreF 0 (bytesOf (c.extract 0 k))) = crcMoreF 0 (xors a b c k) := by
  have h := crc.crc_like (triples a b c k) (by
    intro p hp
    obtain ⟨i, _, rfl⟩ := List.mem_map.1 hp
    exact ⟨bt_byte a i, bt_byte b i, bt_byte c i⟩)
  rw [bytes_map a k ha, bytes_map b k hb, bytes_map c k hc, xors, ← h]
  simp only [triples, List.map_map]
  rfl
theorem min3_run (x y z : Nat) : ∃ n : Nat, n ≤ x ∧ n ≤ y ∧ n ≤ z ∧ ∀ (ts : Array TypeId) (t : TypeId) (w : World), (Builtin.min_ ts t #[.int .i64 (x : Int), .int .i64 (y : Int), .int .i64 (z : Int)]).run Tryd.prog w = .ok (.int .i64 (n : Int)) w := by
  refine ⟨min (min x y) z, by omega, by omega, by omega, fun ts t w => ?_⟩
  have e : ((min (min x y) z : Nat) : Int) = (if (z : Int) < (if (y : Int) < x then (y : Int) else x) then (z : Int) else (if (y : Int) < x then (y : Int) else x)) := by
    split <;> split <;> omega
  rw [e]
  simp [Builtin.min_, Builtin.min2]
set_option maxHeartbeats 8000000 in
set_option maxRecDepth 100000 in
theorem like_any (a b c : ByteArray) (w : World) (ha : a.size ≤ 140737488351232) (hb : b.size ≤ 140737488351232) (hc : c.size ≤ 140737488351232) (hT : CrcAt w) :
    Calls Tryd.prog 7 #[.agg #[.string a, .string b, .string c]] w fun e w' => e = .returned (.bool true) ∧ Below w.heap.size w w' := by
  obtain ⟨W0, hW0⟩ : ∃ W0, W0 = w.alloc (.cells #[.string a, .string b, .string c] 44) := ⟨_, rfl⟩
  have HX := Sh.mk (show Core w.heap.size #[.string a, .string b, .string c] 44 w W0 by rw [hW0]; exact Core.new _ _ _ hT)
  have HW := Sh.mk hW0
  obtain ⟨g, hg⟩ : ∃ g, g = w.heap.size := ⟨_, rfl⟩
  have HG := Sh.mk hg
  clear hg hT hW0
  rw [← HG.out] at HX
  go_enter Tryd.func7, Tryd.ntmps7
  go_wp2_with fail
  rw [← HW.out, ← HG.out]
  clear HW
  refine (known_any W0 HX.out.tab).mono ?_
  rintro e w1 ⟨rfl, hb1⟩
  have HX1 := Sh.mk (HX.out.below hb1)
  clear HX hb1
  obtain ⟨x0, x1, x2, _⟩ := S3.of HX1.out
  obtain ⟨n, hn1, hn2, hn3, hmin⟩ := min3_run a.size b.size c.size
  go_wp2_with fail
  clear hmin x0 x1 x2
  have HR0 := Sh.mk (Kd.R_nil (Kd.int .u8) 5 w1 w1.heap.size (fun _ => True))
  have HB0 := Sh.mk (Below.refl w1.heap.size w1)
  go_loopw [5, 6] (fun v i wr => ∃ k : Nat, k ≤ n ∧ i = .int .i64 k ∧ Sh (Kd.R (Kd.int .u8) 5 wr w1.heap.size (fun _ => True) v (xors a b c k)) ∧ Sh (Below w1.heap.size w1 wr)) (fun _ i _ => n - (intOf i).toNat)
  case atStart => exact ⟨0, by omega, rfl, HR0, HB0⟩
  case round =>
    obtain ⟨k, hk, rfl, HR, HB⟩ := hrel
    have HX := Sh.mk (HX1.out.below HB.out)
    obtain ⟨x0, x1, x2, _⟩ := S3.of HX.out
    by_cases hlt : k < n
    · have ha1 := bt_nat a k
      have hb1 := bt_nat b k
      have hc1 := bt_nat c k
      have hxl := xors_len a b c k
      have HXL := Sh.mk hxl
      clear hxl
      have hka : k < a.size := by omega
      have hkb : k < b.size := by omega
      have hkc : k < c.size := by omega
      go_wp2
      have HRd := Sh.mk (Kd.R_below HR.out (below_drew (Below.refl _ _)))
      have HBd := Sh.mk (HB.out.trans (below_drew (Below.refl _ _)))
      have hsz1 : w1.heap.size ≤ wr.drew.heap.size := HB.out.size
      clear HR HB
      go_region_held3 (fun W => W.cell? ⟨g, 0, none⟩ = some (.string a) ∧ W.cell? ⟨g, 1, none⟩ = some (.string b) ∧ W.cell? ⟨g, 2, none⟩ = some (.string c)) (first | assumption | go_keep | exact S3.three (HX1.out.below (Sh.out (by assumption))))
        (first
          | (refine Kd.R_append_step (Kd.int .u8) (w0 := w1) w1.heap.size (by rfl) (.tmp 26) (.tmp 41) 28 5 (.int .u8 0) 1 rfl Tryd.underlying28 info_u8 rfl (by show 0 < 1; omega) (by omega) _ _ _ [.int .u8 _] (fun _ => True) (fun _ => False) rfl rfl rfl (fun _ hk => hk.elim) (fun _ _ => trivial) HRd.out HBd.out hsz1 (by rw [HXL.out]; omega) ?_; clear HRd HBd; intro v5 w5 ho5 hb5 _ _; have HO := Sh.mk ho5; have HD := Sh.mk hb5; clear ho5 hb5))
      all_goals go_wp2
      all_goals
        go_roundw
        case rel => exact ⟨k + 1, by omega, by go_num, by rw [xors_succ]; exact HO, HD⟩
        case measure => simp [intOf]; omega
    · obtain rfl : k = n := by omega
      have hs0 : wr.heap.size = wr.heap.size := rfl
      obtain ⟨A, cc, rfl, hcc, hC⟩ := R_open HR.out k (xors_len a b c k)
      have HC := Sh.mk hC
      have h0a : decide (k ≤ a.size) = true := by simpa using hn1
      have h0b : decide (k ≤ b.size) = true := by simpa using hn2
      have h0c : decide (k ≤ c.size) = true := by simpa using hn3
      clear hC hs0
      go_wp2_with fail
      refine (bytes_X a k hn1 wr (by omega)).mono ?_
      rintro e w6 ⟨A6, c6, rfl, HC6, hb6⟩
      have HX6 := Sh.mk (HX.out.below hb6)
      have HCa := Sh.mk (Kd.C_below HC.out hb6)
      clear hb6 HX HC x0 x1 x2
      obtain ⟨x0, x1, x2, _⟩ := S3.of HX6.out
      go_wp2_with fail
      refine (crc_any A6 c6 k (bytesOf (a.extract 0 k)) w6 HC6.out HX6.out.tab).mono ?_
      rintro e w7 ⟨rfl, rfl⟩
      clear HC6
      go_wp2_with fail
      refine (bytes_X b k hn2 w6 (by omega)).mono ?_
      rintro e w7 ⟨A7, c7, rfl, HC7, hb7⟩
      have HX7 := Sh.mk (HX6.out.below hb7)
      have HCb := Sh.mk (Kd.C_below HCa.out hb7)
      clear hb7 HX6 HCa x0 x1 x2
      obtain ⟨x0, x1, x2, _⟩ := S3.of HX7.out
      go_wp2_with fail
      refine (crc_any A7 c7 k (bytesOf (b.extract 0 k)) w7 HC7.out HX7.out.tab).mono ?_
      rintro e w8 ⟨rfl, rfl⟩
      clear HC7
      go_wp2_with fail
      refine (bytes_X c k hn3 w7 (by omega)).mono ?_
      rintro e w8 ⟨A8, c8, rfl, HC8, hb8⟩
      have HX8 := Sh.mk (HX7.out.below hb8)
      have HCc := Sh.mk (Kd.C_below HCb.out hb8)
      clear hb8 HX7 HCb x0 x1 x2
      go_wp2_with fail
      refine (crc_any A8 c8 k (bytesOf (c.extract 0 k)) w8 HC8.out HX8.out.tab).mono ?_
      rintro e w9 ⟨rfl, rfl⟩
      clear HC8
      go_wp2_with fail
      refine (crc_any A cc k (xors a b c k) w8 HCc.out HX8.out.tab).mono ?_
      rintro e w9 ⟨rfl, rfl⟩
      have heq := like_eq a b c k hn1 hn2 hn3
      rw [← heq]
      clear heq
      go_wp2
      go_ret
      exact ⟨rfl, HX8.out.bel⟩
end Go.Proofs.YtlhnajgckdeedaaDoor
