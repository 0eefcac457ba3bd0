/-
caesuralaw1.known: the sum of nine digits, and two numbers in their form. Conditions: the table and ErrArg read as listed.
-/
import Derived.Test.YtlhnajgckdeedaaDoorWriter3
import Derived.Test.YtlhnajgckdeedaaDoorBytes
import Derived.Test.YtlhnajgckdeedaaDoorCrc
import Derived.Test.YtlhnajgckdeedaaDoorWMore
namespace Go.Proofs.YtlhnajgckdeedaaDoor
open Go Go.RowKit Go.Proofs.YtlhnajgckdeedaaDoorW.PrintWords Go.Proofs.YtlhnajgckdeedaaDoorW.PrintLast Go.Proofs.YtlhnajgckdeedaaDoorW.PrintMore
def nine : ByteArray := { data := #[49, 50, 51, 52, 53, 54, 55, 56, 57] }
theorem nine_sum : crcMoreF 0 (bytesOf nine) = 3421780262 := by decide +kernel
theorem form_300 : ([] ++ vnum 300) ++ vnum 0 = [172, 2, 0] := by
  rw [vnum_more (by omega), vnum_last (by omega), vnum_last (by omega)]
  rfl
theorem str_of (l : List UInt8) : strOfNums (bytesOf ⟨l.toArray⟩) = ⟨l.toArray⟩ := by
  simp only [strOfNums, bytesOf, List.map_map]
  congr 2
  conv => rhs; rw [← List.map_id l]
  refine List.map_congr_left fun x _ => ?_
  simp
theorem C_str {w : World} {A : Option Addr} {n : Nat} (c : Nat) {l : List UInt8} (h : (Kd.int .u8).C w A n (bytesOf ⟨l.toArray⟩)) :
    (convert 28 9 (.slice A n c)).run Tryd.prog w = .ok (.string ⟨l.toArray⟩) w := by
  have := Kd.C_string (c := c) Tryd.underlying28 Tryd.underlying5 Tryd.underlying9 h
  rw [str_of] at this
  exact this
set_option maxHeartbeats 2000000 in
set_option maxRecDepth 100000 in
theorem known_any (w : World) (hT : CrcAt w) :
    Calls Tryd.prog 20 #[] w fun e w' => e = .returned (.bool true) ∧ Below w.heap.size w w' := by
  have HT := Sh.mk hT
  have hns := Sh.mk nine_sum
  clear hT
  go_enter Tryd.func20, Tryd.ntmps20
  go_wp2_with fail
  refine (newWriter_any w).mono ?_
  rintro e w1 ⟨rfl, hw1⟩
  have HW := Sh.mk (hw1 ▸ Wr.new w w.heap.size)
  have HB := Sh.mk (show Below w.heap.size w w1 by rw [hw1]; exact (Below.refl _ _).alloc (Nat.le_refl _) _)
  have hs1 : w.heap.size < w1.heap.size := by rw [hw1]; simp
  clear hw1
  obtain ⟨b, hb⟩ : ∃ b, b = w.heap.size := ⟨_, rfl⟩
  have HG := Sh.mk hb
  rw [← HG.out] at HW hs1 ⊢
  rw [← HG.out] at HB
  clear hb
  go_wp2_with fail
  refine (bytes_any nine w1 (by decide)).mono ?_
  rintro e w2 ⟨v, rfl, hr, hb2⟩
  obtain ⟨A, c, rfl, hc, hC⟩ := R_open hr 9 rfl
  have HC := Sh.mk hC
  have HW2 := Sh.mk (HW.out.below hb2)
  have HB2 := Sh.mk (HB.out.trans (hb2.mono (by omega)))
  have hs2 : b ≤ w2.heap.size := by have := hb2.size; omega
  have HT2 := Sh.mk (HT.out.below (by have := HB2.out; rw [HG.out] at this; exact this))
  clear hr hC hb2 HW HB HT
  go_wp2_with fail
  refine (crc_any A c 9 (bytesOf nine) w2 HC.out HT2.out).mono ?_
  rintro e w3 ⟨rfl, rfl⟩
  rw [hns.out]
  go_wp2_with fail
  refine (wnum_any b b _ [] 300 w2 HW2.out (by omega) (by simp) hs2).mono ?_
  rintro e w3 ⟨rfl, v3, hw3, hf3⟩
  have HW3 := Sh.mk hw3
  have HB3 := Sh.mk (HB2.out.trans (hf3.below (Nat.le_refl _)))
  have hs3 : b ≤ w3.heap.size := by have := hf3.size; omega
  clear hw3 hf3 HW2 HB2 HC
  go_wp2_with fail
  refine (wnum_any b b _ ([] ++ vnum 300) 0 w3 HW3.out (by omega) (by have := vnum_nine 300 (by omega); simp; omega) hs3).mono ?_
  rintro e w4 ⟨rfl, v4, hw4, hf4⟩
  rw [form_300] at hw4
  have HW4 := Sh.mk hw4
  have HB4 := Sh.mk (HB3.out.trans (hf4.below (Nat.le_refl _)))
  have hs4 : b ≤ w4.heap.size := by have := hf4.size; omega
  clear hw4 hf4 HW3 HB3
  go_wp2_with fail
  refine (wbytes_any b b v4 [172, 2, 0] w4 HW4.out (by simp)).mono ?_
  rintro e w5 ⟨⟨g, c5, rfl, hg1, hg2, hc5, hC5⟩, hw5, hg5⟩
  have HB5 := Sh.mk (show Below b w w5 from HB4.out.grown hg5 hs4 (fun k hk => (HW4.out.own.lt k hk).1))
  have hstr : (convert 28 9 (.slice (some ⟨g, 0, none⟩) 3 c5)).run Tryd.prog w5 = .ok (.string { data := #[172, 2, 0] }) w5 := C_str c5 hC5
  clear hC5 hw5 hg5 HW4 HB4
  go_wp2
  go_ret
  exact ⟨rfl, by rw [← HG.out]; exact HB5.out⟩
end Go.Proofs.YtlhnajgckdeedaaDoor
