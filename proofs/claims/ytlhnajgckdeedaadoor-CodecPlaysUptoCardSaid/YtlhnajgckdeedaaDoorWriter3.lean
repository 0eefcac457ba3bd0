/-
codec.Writer's calls: NewWriter, Num, Text, Bytes: what they answer and what the Writer holds behind them. Conditions: the length is within Go's bound.
-/
import Derived.Test.YtlhnajgckdeedaaDoorWriter2
import Derived.Test.YtlhnajgckdeedaaDoorVnum
import Derived.Test.YtlhnajgckdeedaaDoorSen
import Derived.Lib.AtoiErrMem
namespace Go.Proofs.YtlhnajgckdeedaaDoor
open Go Go.RowKit Go.Proofs.YtlhnajgckdeedaaDoorW.PrintWords Go.Proofs.YtlhnajgckdeedaaDoorW.PrintLast Go.Proofs.YtlhnajgckdeedaaDoorW.PrintMore
set_option maxRecDepth 100000 in
theorem newWriter_any (w : World) : Calls Tryd.prog 23 #[] w fun e w' => e = .returned (.pointer (some ⟨w.heap.size, 0, none⟩)) ∧ w' = w.alloc (.cells #[.pointer none, .slice none 0 0] WrT) := by
  go_enter Tryd.func23, Tryd.ntmps23
  go_wp2
  go_ret
  exact ⟨rfl, rfl⟩
set_option maxRecDepth 100000 in
theorem wnum_neg (E : Nat → Addr) (b : Nat) (n : Int) (w : World) (hE : GS [1] E w) (hn : n < 0) :
    Calls Tryd.prog 26 #[.pointer (some ⟨b, 0, none⟩), .int .i64 n] w fun e w' => e = .returned (.iface 104 (.pointer (some (E 1)))) ∧ w = w' := by
  have c1 := (hE.s 1 (by decide)).cell
  simp only [errG] at c1
  go_enter Tryd.func26, Tryd.ntmps26
  go_wp2
  go_ret
  exact ⟨rfl, rfl⟩
set_option maxHeartbeats 1000000 in
set_option maxRecDepth 100000 in
theorem wnum_any (B b : Nat) (v : Value) (l : List UInt8) (n : Nat) (w : World) (h : Wr w B b v l) (hn : n < 9223372036854775808) (hlen : l.length + 9 ≤ 140737488355328) (hB : B ≤ w.heap.size) :
    Calls Tryd.prog 26 #[.pointer (some ⟨b, 0, none⟩), .int .i64 (n : Int)] w fun e w' => e = .returned .nilIface ∧ ∃ v', Wr w' B b v' (l ++ vnum n) ∧ Fx B b w w' := by
  have hv9 := vnum_nine n hn
  go_enter Tryd.func26, Tryd.ntmps26
  go_wp2
  go_loopw [1] (fun x wr => ∃ (m : Nat) (pre : List UInt8) (v' : Value), x = .int .i64 m ∧ m ≤ n ∧ Sh (vnum n = pre ++ vnum m) ∧ Sh (Wr wr B b v' (l ++ pre)) ∧ Sh (Fx B b w wr)) (fun x _ => (intOf x).toNat)
  case atStart => exact ⟨n, [], v, rfl, Nat.le_refl _, ⟨rfl⟩, ⟨by rw [List.append_nil]; exact h⟩, ⟨Fx.refl _ _ _⟩⟩
  case round =>
    obtain ⟨m, pre, v', rfl, hm, HV, HW, HF⟩ := hrel
    have hpl : (vnum n).length = pre.length + (vnum m).length := by rw [HV.out, List.length_append]
    have hpm : 0 < (vnum m).length := List.length_pos_iff.2 (vnum_ne m)
    have hp9 : (l ++ pre).length + 1 ≤ 140737488355328 := by rw [List.length_append]; omega
    have hBr : B ≤ wr.heap.size := Nat.le_trans hB HF.out.size
    clear hpl hpm
    by_cases hgt : 127 < m
    · have hvb := Sh.mk (vbyte m)
      go_wp2_with (go_at_call 36; refine (writeByte_of B b v' (l ++ pre) (UInt8.ofNat (m % 128 + 128)) _ wr hvb.out HW.out hp9 hBr).mono ?_; rintro e w1 ⟨rfl, v2, hw2, hf2⟩)
      have HW2 := Sh.mk hw2
      have HF2 := Sh.mk (HF.out.trans hf2)
      clear hw2 hf2
      go_wp2
      go_roundw
      case rel => exact ⟨m / 128, pre ++ [UInt8.ofNat (m % 128 + 128)], v2, by go_num, by omega, ⟨by rw [HV.out, vnum_more (by omega), List.append_assoc]; rfl⟩, ⟨by rw [← List.append_assoc]; exact HW2.out⟩, HF2⟩
      case measure => simp [intOf]; omega
    · have hvl := Sh.mk (vlast m (by omega))
      go_wp2_with (go_at_call 36; refine (writeByte_of B b v' (l ++ pre) (UInt8.ofNat m) _ wr hvl.out HW.out hp9 hBr).mono ?_; rintro e w1 ⟨rfl, v2, hw2, hf2⟩)
      have HW2 := Sh.mk hw2
      have HF2 := Sh.mk (HF.out.trans hf2)
      clear hw2 hf2
      go_wp2
      go_ret
      refine ⟨rfl, v2, ?_, HF2.out⟩
      rw [HV.out, vnum_last (by omega), ← List.append_assoc]
      exact HW2.out
set_option maxHeartbeats 1000000 in
set_option maxRecDepth 100000 in
theorem wtext_any (B b : Nat) (v : Value) (l : List UInt8) (s : ByteArray) (w : World) (h : Wr w B b v l) (hlen : l.length + s.size + 9 ≤ 140737488355328) (hB : B ≤ w.heap.size) :
    Calls Tryd.prog 35 #[.pointer (some ⟨b, 0, none⟩), .string s] w fun e w' => e = .returned (.tuple #[]) ∧ ∃ v', Wr w' B b v' (l ++ (vnum s.size ++ s.data.toList)) ∧ Fx B b w w' := by
  have hv9 := vnum_nine s.size (by omega)
  go_enter Tryd.func35, Tryd.ntmps35
  go_wp2_with (go_at_call 26; refine (wnum_any B b v l s.size w h (by omega) (by omega) hB).mono ?_; rintro e w1 ⟨rfl, v1, hw1, hf1⟩)
  have HW1 := Sh.mk hw1
  have HF1 := Sh.mk hf1
  have hB1 : B ≤ w1.heap.size := Nat.le_trans hB hf1.size
  have hl1 : (l ++ vnum s.size).length + s.size ≤ 140737488355328 := by rw [List.length_append]; omega
  clear hw1 hf1
  go_wp2_with (go_at_call 44; refine (writeString_any B b v1 (l ++ vnum s.size) s w1 HW1.out hl1 hB1).mono ?_; rintro e w2 ⟨rfl, v2, hw2, hf2⟩)
  have HW2 := Sh.mk hw2
  have HF2 := Sh.mk (HF1.out.trans hf2)
  clear hw2 hf2
  go_wp2
  go_end0
  exact ⟨rfl, v2, by rw [← List.append_assoc]; exact HW2.out, HF2.out⟩
theorem grown_bytes (w : World) (e : TypeId) (s : ByteArray) (r : Option Nat) {w0 : World} (h : w0.grownBy w r) : w0.grownBy (Lib.bytesWorld w e s) r :=
  h.trans ⟨rfl, rfl, rfl, by rw [Lib.bytesWorld_size]; omega, fun i hi _ => Lib.bytesWorld_at_old w e s i hi⟩
theorem C_bytes (W : World) (e : TypeId) (s : ByteArray) (hs : s.size ≤ 9223372036854775807) : (Kd.int .u8).C (Lib.bytesWorld W e s) (some ⟨W.heap.size, 0, none⟩) s.size (bytesOf s) :=
  Kd.C_of_reads (h1 := fun _ => rfl) (readsInt_of.1 (bytes_reads W e s hs))
set_option maxHeartbeats 1000000 in
set_option maxRecDepth 100000 in
theorem wbytes_any (B b : Nat) (v : Value) (l : List UInt8) (w : World) (h : Wr w B b v l) (hl : l.length ≤ 140737488355328) :
    Calls Tryd.prog 27 #[.pointer (some ⟨b, 0, none⟩)] w fun e w' => (∃ g c, e = .returned (.slice (some ⟨g, 0, none⟩) l.length c) ∧ w.heap.size ≤ g ∧ g < w'.heap.size ∧ l.length ≤ c ∧ (Kd.int .u8).C w' (some ⟨g, 0, none⟩) l.length (bytesOf ⟨l.toArray⟩)) ∧ Wr w' B b v l ∧ w.grownBy w' v.ownBlock := by
  have hsz : (⟨l.toArray⟩ : ByteArray).size = l.length := by simp [ByteArray.size]
  have kb := fun W => print_bytes (P := Tryd.prog) 9 28 5 Tryd.underlying9 Tryd.underlying28 Tryd.underlying5 ⟨l.toArray⟩ W
  have HZ := Sh.mk hsz
  clear hsz
  go_enter Tryd.func27, Tryd.ntmps27
  go_wp2_with (go_at_call 37; refine (string_any B b v l w h).mono ?_; rintro e w1 ⟨rfl, hw1, hg1⟩)
  have HW := Sh.mk hw1
  have HG := Sh.mk hg1
  clear hw1 hg1
  go_wp2
  go_ret
  have hC := C_bytes w1 5 ⟨l.toArray⟩ (by rw [HZ.out]; omega)
  rw [HZ.out] at hC
  refine ⟨⟨w1.heap.size, grownCap w1 l.length 0 5, rfl, HG.out.size, by rw [Lib.bytesWorld_size]; omega, ?_, hC⟩, HW.out.below (bytes_below (Below.refl _ _) (Nat.le_refl _) _ _), grown_bytes _ _ _ _ HG.out⟩
  exact grownCap_ge w1 l.length 0 5
end Go.Proofs.YtlhnajgckdeedaaDoor
