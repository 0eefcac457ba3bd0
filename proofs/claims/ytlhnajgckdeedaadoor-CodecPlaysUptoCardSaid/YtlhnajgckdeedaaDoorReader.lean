/-
codec.Reader: what a Reader is in memory; NewReader, Left, Num: what they answer and what the Reader holds behind them. Conditions: at most 2^47 - 4096 bytes; ErrShort and ErrForm read as listed.
-/
import Derived.Test.YtlhnajgckdeedaaDoorVnum
import Derived.Test.YtlhnajgckdeedaaDoorSen
import Derived.Test.YtlhnajgckdeedaaDoorCopy
import Derived.Deep.QuietTactic
import Derived.BigQuiet
import Derived.Laws.BitsLemmas
namespace Go.Proofs.YtlhnajgckdeedaaDoor
open Go Go.RowKit Go.Proofs.YtlhnajgckdeedaaDoorW.PrintWords Go.Proofs.YtlhnajgckdeedaaDoorW.PrintLast Go.Proofs.YtlhnajgckdeedaaDoorW.PrintMore
abbrev RdT : TypeId := 80
/-- A Reader in memory: its bytes, how many are read. -/
structure Rdr (w : World) (B b : Nat) (A : Option Addr) (c : Nat) (xs : List Int) (pos : Nat) : Prop where
  blk : w.heap[b]? = some (.cells #[.slice A xs.length c, .int .i64 (pos : Int)] RdT (0, 0))
  row : Kd.R (Kd.int .u8) 5 w B (fun _ => True) (.slice A xs.length c) xs
  pos_le : pos ≤ xs.length
theorem Rdr.lt {w : World} {B b : Nat} {A : Option Addr} {c : Nat} {xs : List Int} {pos : Nat} (h : Rdr w B b A c xs pos) : b < w.heap.size := blk_lt h.blk
theorem Rdr.below {w w1 : World} {B b : Nat} {A : Option Addr} {c : Nat} {xs : List Int} {pos : Nat} (h : Rdr w B b A c xs pos) (hb : Below w.heap.size w w1) : Rdr w1 B b A c xs pos :=
  ⟨blk_below h.blk hb, Kd.R_below h.row hb, h.pos_le⟩
theorem Rdr.C {w : World} {B b : Nat} {A : Option Addr} {c : Nat} {xs : List Int} {pos : Nat} (h : Rdr w B b A c xs pos) : (Kd.int .u8).C w A xs.length xs := C_of_R h.row rfl
/-- The place moved on. -/
theorem Rdr.move {w : World} {B b : Nat} {A : Option Addr} {c : Nat} {xs : List Int} {pos : Nat} (h : Rdr w B b A c xs pos) (q : Nat) (hq : q ≤ xs.length) : Rdr (w.setCell ⟨b, 1, none⟩ (.int .i64 (q : Int))) B b A c xs q := by
  refine ⟨?_, ?_, hq⟩
  · have := blk_set h.blk 1 (.int .i64 (q : Int))
    simpa using this
  · exact Kd.R_set h.row h.blk (by intro q hq; rcases List.mem_cons.1 hq with rfl | hq <;> first | decide | cases hq) 1 _
set_option maxRecDepth 100000 in
theorem newReader_any (A : Option Addr) (c n : Nat) (xs : List Int) (w : World) (hC : (Kd.int .u8).C w A n xs) (hn : n ≤ 140737488355327) :
    Calls Tryd.prog 22 #[.slice A n c] w fun e w' => ∃ b A2 c2, e = .returned (.pointer (some ⟨b, 0, none⟩)) ∧ w.heap.size ≤ b ∧ Rdr w' w.heap.size b A2 c2 xs 0 ∧ Below w.heap.size w w' := by
  have HO := Sh.mk (Kd.R_nil (Kd.int .u8) 5 w w.heap.size (fun _ => True))
  have HB := Sh.mk (Below.refl w.heap.size w)
  have HL := Sh.mk hC.1
  go_enter Tryd.func22, Tryd.ntmps22
  go_wp2_with (first | ((with_reducible refine gate_builtin (b := .append) (xs := #[.const (.slice none 0 0), .tmp 3]) rfl ?_); refine app_intsB 28 5 .u8 1 Tryd.underlying28 info_u8 (by omega) (.const (.slice none 0 0)) (.tmp 3) (base := w.heap.size) (w0 := w) _ _ xs A n c rfl rfl rfl rfl HO hC HB (Nat.le_refl _) (by simp; omega) ?_; clear HO HB; intro v1 w1 HO HB; rw [List.nil_append] at HO; obtain ⟨A2, c2, rfl, hc2, _⟩ := Kd.R_reads HO.out))
  go_ret
  refine ⟨w1.heap.size, A2, c2, rfl, HB.out.size, ⟨blk_new _ _, Kd.R_alloc HO.out _, Nat.zero_le _⟩, HB.out.alloc HB.out.size _⟩
set_option maxRecDepth 100000 in
theorem left_any (B b : Nat) (A : Option Addr) (c : Nat) (xs : List Int) (pos : Nat) (w : World) (h : Rdr w B b A c xs pos) :
    Calls Tryd.prog 25 #[.pointer (some ⟨b, 0, none⟩)] w fun e w' => e = .returned (.int .i64 ((xs.length - pos : Nat) : Int)) ∧ Drawn0 w w' := by
  have x0 := blk_cell h.blk 0
  have x1 := blk_cell h.blk 1
  simp only [List.getElem?_toArray, List.getElem?_cons_zero, List.getElem?_cons_succ] at x0 x1
  have hp := h.pos_le
  have hl := C_len h.C
  go_enter Tryd.func25, Tryd.ntmps25
  go_wp2
  go_quiet (fail)
  go_wp2
  go_ret
  exact ⟨by rw [show ((xs.length - pos : Nat) : Int) = (xs.length : Int) - pos by omega]; rfl, ⟨⟨_, rfl⟩⟩⟩
end Go.Proofs.YtlhnajgckdeedaaDoor
