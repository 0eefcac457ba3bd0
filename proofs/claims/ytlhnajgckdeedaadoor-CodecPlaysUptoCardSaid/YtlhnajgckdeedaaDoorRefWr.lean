/-
The document's writer, walked: Form, NewWriter, Num, Text, Bytes. Conditions: the length is within Go's bound.
-/
import Derived.Test.YtlhnajgckdeedaaDoorKx
import Derived.Test.YtlhnajgckdeedaaDoorVlaw
import Derived.Test.YtlhnajgckdeedaaDoorWriter4
namespace Go.Proofs.YtlhnajgckdeedaaDoor
open Go Go.RowKit Go.Proofs.YtlhnajgckdeedaaDoorW.PrintWords Go.Proofs.YtlhnajgckdeedaaDoorW.PrintLast Go.Proofs.YtlhnajgckdeedaaDoorW.PrintMore
set_option linter.unusedSimpArgs false
abbrev RwT : TypeId := 97
theorem below_up' {w w1 w2 : World} (h : Below w.heap.size w w1) (k : Below w1.heap.size w1 w2) : Below w.heap.size w w2 := below_of h k
theorem ints_snoc (l : List UInt8) (c : UInt8) (x : Int) (hx : x = (c.toNat : Int)) : ints (l ++ [c]) = ints l ++ [x] := by rw [ints_append, hx]; rfl
theorem fbyte (m : Nat) : (128 : Int) + (m : Int) % 128 = ((UInt8.ofNat (m % 128 + 128)).toNat : Int) := by rw [UInt8.toNat_ofNat']; omega
set_option maxHeartbeats 1000000 in
set_option maxRecDepth 100000 in
theorem form_any (n : Nat) (w : World) (hn : n < 9223372036854775808) :
    Calls Tryd.prog 46 #[.int .i64 (n : Int)] w fun e w' => ∃ v, e = .returned v ∧ Kd.R (Kd.int .u8) 5 w' w.heap.size (fun _ => True) v (ints (vnum n)) ∧ Below w.heap.size w w' := by
  have hv9 := vnum_nine n hn
  go_enter Tryd.func46, Tryd.ntmps46
  go_wp2
  go_loopw [0, 3] (fun x v wr => ∃ (m : Nat) (pre : List UInt8), x = .int .i64 m ∧ m ≤ n ∧ Sh (vnum n = pre ++ vnum m) ∧ Sh (Kd.R (Kd.int .u8) 5 wr w.heap.size (fun _ => True) v (ints pre)) ∧ Sh (Below w.heap.size w wr)) (fun x _ _ => (intOf x).toNat)
  case atStart => exact ⟨n, [], rfl, Nat.le_refl _, ⟨rfl⟩, ⟨Kd.R_nil _ _ _ _ _⟩, ⟨Below.refl _ _⟩⟩
  case round =>
    obtain ⟨m, pre, rfl, hm, HV, HO, HB⟩ := hrel
    have hpl : (vnum n).length = pre.length + (vnum m).length := by rw [HV.out, List.length_append]
    have hpm : 0 < (vnum m).length := List.length_pos_iff.2 (vnum_ne m)
    have hp9 : (ints pre).length + 1 ≤ 20 := by rw [ints_len]; omega
    clear hpl hpm
    by_cases hgt : 127 < m
    · have hge : (128 : Int) ≤ (m : Int) := by omega
      have hge2 : decide (128 ≤ m) = true := by simp; omega
      have hfb := Sh.mk (fbyte m)
      go_wp2_with (first | ((with_reducible refine gate_builtin (b := .append) (xs := #[.tmp 6, .tmp 11]) rfl ?_); refine app_int 28 5 .u8 1 Tryd.underlying28 info_u8 (by omega) (w0 := w) (.tmp 6) (.tmp 11) _ _ _ rfl rfl rfl rfl HO HB (by omega) ?_; clear HO HB; intro v1 w1 HO HB))
      go_roundw
      case rel => exact ⟨m / 128, pre ++ [UInt8.ofNat (m % 128 + 128)], by go_num, by omega, ⟨by rw [HV.out, vnum_more (by omega), List.append_assoc]; rfl⟩, ⟨by rw [ints_snoc _ _ _ hfb.out]; exact HO.out⟩, HB⟩
      case measure => simp [intOf]; omega
    · have hlt2 : ¬ ((128 : Int) ≤ (m : Int)) := by omega
      have hge2 : decide (128 ≤ m) = false := by simp; omega
      have hvl := Sh.mk (vlast m (by omega))
      go_wp2_with (first | ((with_reducible refine gate_builtin (b := .append) (xs := #[.tmp 15, .tmp 18]) rfl ?_); refine app_int 28 5 .u8 1 Tryd.underlying28 info_u8 (by omega) (w0 := w) (.tmp 15) (.tmp 18) _ _ _ rfl rfl rfl rfl HO HB (by omega) ?_; clear HO HB; intro v1 w1 HO HB))
      go_ret
      refine ⟨_, rfl, ?_, HB.out⟩
      rw [HV.out, vnum_last (by omega), ints_snoc _ _ _ hvl.out]
      exact HO.out
/-- The document's writer in memory. -/
structure RWr (w : World) (b : Nat) (v : Value) (l : List UInt8) : Prop where
  blk : w.heap[b]? = some (.cells #[v] RwT (0, 0))
  row : Kd.R (Kd.int .u8) 5 w 0 (fun _ => True) v (ints l)
theorem RWr.cell {w : World} {b : Nat} {v : Value} {l : List UInt8} (h : RWr w b v l) : w.cell? ⟨b, 0, none⟩ = some v := (blk_cell h.blk 0).trans rfl
theorem RWr.lt {w : World} {b : Nat} {v : Value} {l : List UInt8} (h : RWr w b v l) : b < w.heap.size := blk_lt h.blk
theorem RWr.below {w w1 : World} {b : Nat} {v : Value} {l : List UInt8} (h : RWr w b v l) (hb : Below w.heap.size w w1) : RWr w1 b v l := ⟨blk_below h.blk hb, Kd.R_below h.row hb⟩
theorem RWr.row_lt {w : World} {b : Nat} {v : Value} {l : List UInt8} (h : RWr w b v l) : ∀ g, v.ownBlock = some g → g < w.heap.size := fun g hg => by
  obtain ⟨inner, ho⟩ := Kd.R_own h.row
  exact own_lt ho g hg
theorem RWr.ne {w : World} {b : Nat} {v : Value} {l : List UInt8} (h : RWr w b v l) : v.ownBlock ≠ some b := by
  obtain ⟨inner, ho⟩ := Kd.R_own h.row
  intro e
  obtain ⟨cells, hc⟩ := own_typed ho b e
  rw [h.blk] at hc
  simp only [Option.some.injEq, Obj.cells.injEq] at hc
  exact absurd hc.2.1 (by decide)
theorem RWr.keptX {w w1 : World} {b b2 : Nat} {r : Option Nat} {v : Value} {l : List UInt8} (h : RWr w b v l) (k : Kx b2 r w w1) (h1 : b ≠ b2) (h2 : some b ≠ r) (h3 : v.ownBlock ≠ some b2) (h4 : ∀ g, v.ownBlock = some g → some g ≠ r) : RWr w1 b v l := by
  refine ⟨(k.block b h.lt h1 h2).trans h.blk, ?_⟩
  have ht : Kd.R (Kd.int .u8) 5 w 0 (fun i => some i = v.ownBlock) v (ints l) := Kd.R_tight rfl h.row
  exact Kd.R_mono (Kd.R_step ht (fun i hi hlt => k.block i hlt (fun e => h3 (by rw [← hi, e])) (h4 i hi.symm))) (fun _ _ => trivial)
set_option maxRecDepth 100000 in
theorem refNewWriter_any (w : World) : Calls Tryd.prog 38 #[] w fun e w' => e = .returned (.pointer (some ⟨w.heap.size, 0, none⟩)) ∧ w' = w.alloc (.cells #[.slice none 0 0] RwT) := by
  go_enter Tryd.func38, Tryd.ntmps38
  go_wp2
  go_ret
  exact ⟨rfl, rfl⟩
theorem RWr.new (w : World) : RWr (w.alloc (.cells #[.slice none 0 0] RwT)) w.heap.size (.slice none 0 0) [] := ⟨blk_new _ _, Kd.R_nil _ _ _ _ _⟩
/-- A store of the row behind an append. -/
theorem RWr.put {w w1 : World} {b : Nat} {v v1 : Value} {l l1 : List UInt8} (h : RWr w b v l) (hg : w.grownBy w1 v.ownBlock) (hr : Kd.R (Kd.int .u8) 5 w1 0 (fun _ => True) v1 (ints l1)) : RWr (w1.setCell ⟨b, 0, none⟩ v1) b v1 l1 := by
  have hb1 : w1.heap[b]? = some (.cells #[v] RwT (0, 0)) := (hg.block b h.lt (fun e => h.ne e.symm)).trans h.blk
  refine ⟨?_, Kd.R_set hr hb1 (by intro q hq; rcases List.mem_cons.1 hq with rfl | hq <;> first | decide | cases hq) 0 _⟩
  have := blk_set hb1 0 v1
  simpa using this
theorem R_drop_ok {α : Type} {d : Kd α} {e : Nat} {w : World} {base : Nat} {ok : Nat → Prop} {v : Value} {xs : List α} (h : d.R e w base ok v xs) : d.R e w 0 ok v xs := Kd.R_lower h (Nat.zero_le _)
set_option maxRecDepth 100000 in
theorem refBytes_any (b : Nat) (v : Value) (l : List UInt8) (w : World) (h : RWr w b v l) (hl : l.length ≤ 140737488355327) :
    Calls Tryd.prog 42 #[.pointer (some ⟨b, 0, none⟩)] w fun e w' => ∃ v, e = .returned v ∧ Kd.R (Kd.int .u8) 5 w' w.heap.size (fun _ => True) v (ints l) ∧ Below w.heap.size w w' := by
  have x0 := blk_cell h.blk 0
  simp only [List.getElem?_toArray, List.getElem?_cons_zero] at x0
  obtain ⟨A, c, rfl, hc, hC⟩ := R_open h.row l.length (ints_len l)
  have HO := Sh.mk (Kd.R_nil (Kd.int .u8) 5 w w.heap.size (fun _ => True))
  have HB := Sh.mk (Below.refl w.heap.size w)
  have HC := Sh.mk hC
  clear hC h
  go_enter Tryd.func42, Tryd.ntmps42
  go_wp2_with (first | ((with_reducible refine gate_builtin (b := .append) (xs := #[.tmp 4, .tmp 8]) rfl ?_); refine app_intsB 28 5 .u8 1 Tryd.underlying28 info_u8 (by omega) (.tmp 4) (.tmp 8) (base := w.heap.size) (w0 := w) _ _ (ints l) A l.length c rfl rfl rfl rfl HO HC.out HB (Nat.le_refl _) (by simp; omega) ?_; clear HO HB; intro v1 w1 HO HB; rw [List.nil_append] at HO))
  go_ret
  exact ⟨_, rfl, HO.out, HB.out⟩
set_option maxRecDepth 100000 in
theorem refNum_neg (b : Nat) (n : Int) (w : World) (hn : n < 0) :
    Calls Tryd.prog 40 #[.pointer (some ⟨b, 0, none⟩), .int .i64 n] w fun e w' => e = .returned (.int .i64 1) ∧ w = w' := by
  go_enter Tryd.func40, Tryd.ntmps40
  go_wp2
  go_ret
  exact ⟨rfl, rfl⟩
set_option maxHeartbeats 4000000 in
set_option maxRecDepth 100000 in
theorem refNum_any (b : Nat) (v : Value) (l : List UInt8) (n : Nat) (w : World) (h : RWr w b v l) (hn : n < 9223372036854775808) (hl : l.length + 9 ≤ 140737488355327) :
    Calls Tryd.prog 40 #[.pointer (some ⟨b, 0, none⟩), .int .i64 (n : Int)] w fun e w' => e = .returned (.int .i64 0) ∧ ∃ v', RWr w' b v' (l ++ vnum n) ∧ Kx b v.ownBlock w w' ∧ Hat w v.ownBlock v'.ownBlock := by
  have hv9 := vnum_nine n hn
  have HR := Sh.mk h
  have HRd := Sh.mk (h.below (below_drew (Below.refl _ _)))
  clear h
  go_enter Tryd.func40, Tryd.ntmps40
  go_wp2
  refine start_ (n := 11) (S := fun w' => w'.cell? ⟨b, 0, none⟩ = some v) (ds := [10]) #[false, false, false, false, false, false, false, false, false, false, false] (by kernel_rfl) rfl rfl ((HRd.out.cell)) (fun hHeld => ?_)
  refine pure_ (i := 0) (N := some 7) (v := ?_) (a' := ?_) #[true, false, false, false, false, false, false, false, false, false, false] rfl rfl (by kernel_rfl) (fun _ _ _ h => h) (Or.inl ⟨by rfl, ?_⟩) ?_ ?_
  rotate_left
  · intro w'
    go_simp
    with_reducible rfl
  rotate_left
  · simp only [Act.put, List.setIfInBounds_toArray, List.set_cons_zero, List.set_cons_succ, i64_w, i32_w]
    rfl
  refine pure_ (i := 1) (N := some 8) (v := ?_) (a' := ?_) #[true, true, false, false, false, false, false, false, false, false, false] rfl rfl (by kernel_rfl) (fun _ _ _ h => h) (Or.inl ⟨by rfl, ?_⟩) ?_ ?_
  rotate_left
  · intro w'
    go_simp
    with_reducible rfl
  rotate_left
  · simp only [Act.put, List.setIfInBounds_toArray, List.set_cons_zero, List.set_cons_succ, i64_w, i32_w]
    rfl
  refine pure_ (i := 2) (N := some 9) (v := ?_) (a' := ?_) #[true, true, true, false, false, false, false, false, false, false, false] rfl rfl (by kernel_rfl) (fun _ _ _ h => h) (Or.inl ⟨by rfl, ?_⟩) ?_ ?_
  rotate_left
  · intro w'
    go_simp
    with_reducible rfl
  rotate_left
  · simp only [Act.put, List.setIfInBounds_toArray, List.set_cons_zero, List.set_cons_succ, i64_w, i32_w]
    rfl
  refine pure_ (i := 3) (N := some 10) (v := ?_) (a' := ?_) #[true, true, true, true, false, false, false, false, false, false, false] rfl rfl (by kernel_rfl) (fun _ _ _ h => h) (Or.inl ⟨by rfl, ?_⟩) ?_ ?_
  rotate_left
  · intro w'
    go_simp
    with_reducible rfl
  rotate_left
  · simp only [Act.put, List.setIfInBounds_toArray, List.set_cons_zero, List.set_cons_succ, i64_w, i32_w]
    rfl
  refine pure_ (i := 5) (N := some 12) (v := ?_) (a' := ?_) #[true, true, true, true, false, true, false, false, false, false, false] rfl rfl (by kernel_rfl) (fun _ _ _ h => h) (Or.inl ⟨by rfl, ?_⟩) ?_ ?_
  rotate_left
  · intro w'
    go_simp
    with_reducible rfl
  rotate_left
  · simp only [Act.put, List.setIfInBounds_toArray, List.set_cons_zero, List.set_cons_succ, i64_w, i32_w]
    rfl
  refine take_ (i := 4) (N := some 11) (v := ?_) (a' := ?_) #[true, true, true, true, true, true, false, false, false, false, false] rfl rfl (by kernel_rfl) (fun _ _ _ h => h) (Or.inl ⟨by rfl, ?_⟩) hHeld ?_ ?_
  rotate_left
  · intro w' s0
    go_simp
    with_reducible rfl
  rotate_left
  · simp only [Act.put, List.setIfInBounds_toArray, List.set_cons_zero, List.set_cons_succ, i64_w, i32_w]
    rfl
  refine one_ (i := 6) (N := some 13) #[true, true, true, true, true, true, true, false, false, false, false] rfl rfl (by kernel_rfl) (by decide) (fun K hK => ?_)
  refine goes_ Tryd.func46 (by kernel_rfl) rfl #[.int .i64 (n : Int)] (by rfl) rfl rfl (by simp only [List.map_toArray, List.map_cons, List.map_nil]; rfl) ?_
  with_reducible refine (form_any n _ hn).mono ?_
  rintro e w3 ⟨u, rfl, hu, hb3⟩
  refine ⟨_, rfl, ?_⟩
  obtain ⟨A3, c3, rfl, hc3, hC3⟩ := R_open hu (vnum n).length (ints_len _)
  have HR3 := Sh.mk (HRd.out.below hb3)
  have HC3 := Sh.mk hC3
  have HB3 := Sh.mk hb3
  clear hC3 hb3 hu
  refine hK.out _ _ ((HR3.out.cell)) (fun hHeld => ?_)
  clear hK K
  refine norm_ (a' := ?_) ?_ ?_
  rotate_left
  · show Act.put _ (some 13) _ = _
    simp only [Act.put, List.setIfInBounds_toArray, List.set_cons_zero, List.set_cons_succ, i64_w, i32_w]
    rfl
  refine one_ (i := 7) (N := some 14) #[true, true, true, true, true, true, true, true, false, false, false] rfl rfl (by kernel_rfl) (by decide) (fun K hK => ?_)
  refine Kd.R_append_rows_step (Kd.int .u8) (w0 := w3) 0 (by rfl) (.tmp 11) (.tmp 13) 28 5 (.int .u8 0) 1 rfl Tryd.underlying28 info_u8 rfl (by show 0 < 1; omega) (by omega) _ (ints l) (ints (vnum n)) A3 (vnum n).length c3 (fun _ => True) (fun _ => False) rfl rfl HR3.out.row HC3.out (fun _ _ h => h) (fun _ hk => hk.elim) (fun _ _ => trivial) (Below.refl _ _) (Nat.zero_le _) (by rw [ints_len]; omega) ?_
  intro v4 w4 hr4 _ hg4 hat4
  rw [← ints_append] at hr4
  obtain ⟨A4, c4, rfl, hc4, _⟩ := Kd.R_reads hr4
  have HR4 := Sh.mk hr4
  have HG4 := Sh.mk (show w3.grownBy w4 v.ownBlock from hg4)
  have HT4 := Sh.mk (show Hat w3 v.ownBlock (Value.slice A4 (ints (l ++ vnum n)).length c4).ownBlock from hat4)
  have HB4 := Sh.mk ((hg4.block b HR3.out.lt (fun e => HR3.out.ne e.symm)).trans HR3.out.blk)
  have xf4 := blk_frozen HB4.out 0
  clear hr4 hg4 hat4
  refine hK.out _ _ (((blk_cell HB4.out 0).trans rfl)) (fun hHeld => ?_)
  clear hK K
  refine norm_ (a' := ?_) ?_ ?_
  rotate_left
  · show Act.put _ (some 14) _ = _
    simp only [Act.put, List.setIfInBounds_toArray, List.set_cons_zero, List.set_cons_succ, i64_w, i32_w]
    rfl
  refine pure_ (i := 8) (N := some 15) (v := ?_) (a' := ?_) #[true, true, true, true, true, true, true, true, true, false, false] rfl rfl (by kernel_rfl) (fun _ _ _ h => h) (Or.inl ⟨by rfl, ?_⟩) ?_ ?_
  rotate_left
  · intro w'
    go_simp
    with_reducible rfl
  rotate_left
  · simp only [Act.put, List.setIfInBounds_toArray, List.set_cons_zero, List.set_cons_succ, i64_w, i32_w]
    rfl
  refine pure_ (i := 9) (N := some 16) (v := ?_) (a' := ?_) #[true, true, true, true, true, true, true, true, true, true, false] rfl rfl (by kernel_rfl) (fun _ _ _ h => h) (Or.inl ⟨by rfl, ?_⟩) ?_ ?_
  rotate_left
  · intro w'
    go_simp
    with_reducible rfl
  rotate_left
  · simp only [Act.put, List.setIfInBounds_toArray, List.set_cons_zero, List.set_cons_succ, i64_w, i32_w]
    rfl
  refine last_ (i := 10) (N := none) #[true, true, true, true, true, true, true, true, true, true, true] rfl rfl (by kernel_rfl) (by decide) (fun K hK => ?_)
  refine skip_ (w1 := ?_) (by rfl) rfl ?_ ?_
  rotate_left
  · go_simp
    rfl
  refine hK.out _ _ ?_
  clear hK K
  refine done_ (by kernel_rfl) ?_
  go_wp2
  go_ret
  exact ⟨rfl, _, HR3.out.put HG4.out HR4.out, ((Kx.of_below (below_up' (below_drew (Below.refl w.heap.size w)) HB3.out)).trans (Kx.of_grown HG4.out) (Hat.refl _ _)).trans (Kx.set b _ _ 0 _) (Hat.refl _ _), (Hat.refl _ _).trans HT4.out (by have := HB3.out.size; exact this)⟩
theorem byte_of (s : ByteArray) (k : Nat) (h : k < s.size) : bt s k = (((s.data.toList.getD k 0)).toNat : Int) := by
  rw [← rd_bytesOf]
  have h' : k < s.data.toList.length := by rw [data_length]; exact h
  simp only [rd, bytesOf, List.getD, Int.toNat_natCast, List.getElem?_map, List.getElem?_eq_getElem h', Option.map_some, Option.getD_some]
theorem take_snoc8 (l : List UInt8) (k : Nat) (h : k < l.length) : l.take (k + 1) = l.take k ++ [l.getD k 0] := by
  rw [List.take_succ_eq_append_getElem h]
  simp [List.getD, h]
set_option maxHeartbeats 8000000 in
set_option maxRecDepth 100000 in
theorem refText_any (b : Nat) (v : Value) (l : List UInt8) (s : ByteArray) (w : World) (h : RWr w b v l) (hl : l.length + s.size + 9 ≤ 140737488355327) :
    Calls Tryd.prog 39 #[.pointer (some ⟨b, 0, none⟩), .string s] w fun e w' => e = .returned (.tuple #[]) ∧ ∃ v', RWr w' b v' (l ++ (vnum s.size ++ s.data.toList)) ∧ Kx b v.ownBlock w w' ∧ Hat w v.ownBlock v'.ownBlock := by
  have hv9 := vnum_nine s.size (by omega)
  have hdl := Sh.mk (data_length s)
  have HR := Sh.mk h
  have HRd := Sh.mk (h.below (below_drew (Below.refl _ _)))
  clear h
  go_enter Tryd.func39, Tryd.ntmps39
  go_wp2
  refine start_ (n := 12) (S := fun w' => w'.cell? ⟨b, 0, none⟩ = some v) (ds := [11]) #[false, false, false, false, false, false, false, false, false, false, false, false] (by kernel_rfl) rfl rfl ((HRd.out.cell)) (fun hHeld => ?_)
  refine pure_ (i := 0) (N := some 5) (v := ?_) (a' := ?_) #[true, false, false, false, false, false, false, false, false, false, false, false] rfl rfl (by kernel_rfl) (fun _ _ _ h => h) (Or.inl ⟨by rfl, ?_⟩) ?_ ?_
  rotate_left
  · intro w'
    go_simp
    with_reducible rfl
  rotate_left
  · simp only [Act.put, List.setIfInBounds_toArray, List.set_cons_zero, List.set_cons_succ, i64_w, i32_w]
    rfl
  refine pure_ (i := 1) (N := some 6) (v := ?_) (a' := ?_) #[true, true, false, false, false, false, false, false, false, false, false, false] rfl rfl (by kernel_rfl) (fun _ _ _ h => h) (Or.inl ⟨by rfl, ?_⟩) ?_ ?_
  rotate_left
  · intro w'
    go_simp
    with_reducible rfl
  rotate_left
  · simp only [Act.put, List.setIfInBounds_toArray, List.set_cons_zero, List.set_cons_succ, i64_w, i32_w]
    rfl
  refine pure_ (i := 2) (N := some 7) (v := ?_) (a' := ?_) #[true, true, true, false, false, false, false, false, false, false, false, false] rfl rfl (by kernel_rfl) (fun _ _ _ h => h) (Or.inl ⟨by rfl, ?_⟩) ?_ ?_
  rotate_left
  · intro w'
    go_simp
    with_reducible rfl
  rotate_left
  · simp only [Act.put, List.setIfInBounds_toArray, List.set_cons_zero, List.set_cons_succ, i64_w, i32_w]
    rfl
  refine pure_ (i := 3) (N := some 8) (v := ?_) (a' := ?_) #[true, true, true, true, false, false, false, false, false, false, false, false] rfl rfl (by kernel_rfl) (fun _ _ _ h => h) (Or.inl ⟨by rfl, ?_⟩) ?_ ?_
  rotate_left
  · intro w'
    go_simp
    with_reducible rfl
  rotate_left
  · simp only [Act.put, List.setIfInBounds_toArray, List.set_cons_zero, List.set_cons_succ, i64_w, i32_w]
    rfl
  refine pure_ (i := 5) (N := some 10) (v := ?_) (a' := ?_) #[true, true, true, true, false, true, false, false, false, false, false, false] rfl rfl (by kernel_rfl) (fun _ _ _ h => h) (Or.inl ⟨by rfl, ?_⟩) ?_ ?_
  rotate_left
  · intro w'
    go_simp
    with_reducible rfl
  rotate_left
  · simp only [Act.put, List.setIfInBounds_toArray, List.set_cons_zero, List.set_cons_succ, i64_w, i32_w]
    rfl
  refine pure_ (i := 6) (N := some 11) (v := ?_) (a' := ?_) #[true, true, true, true, false, true, true, false, false, false, false, false] rfl rfl (by kernel_rfl) (fun _ _ _ h => h) (Or.inl ⟨by rfl, ?_⟩) ?_ ?_
  rotate_left
  · intro w'
    go_simp
    with_reducible rfl
  rotate_left
  · simp only [Act.put, List.setIfInBounds_toArray, List.set_cons_zero, List.set_cons_succ, i64_w, i32_w]
    rfl
  refine take_ (i := 4) (N := some 9) (v := ?_) (a' := ?_) #[true, true, true, true, true, true, true, false, false, false, false, false] rfl rfl (by kernel_rfl) (fun _ _ _ h => h) (Or.inl ⟨by rfl, ?_⟩) hHeld ?_ ?_
  rotate_left
  · intro w' s0
    go_simp
    with_reducible rfl
  rotate_left
  · simp only [Act.put, List.setIfInBounds_toArray, List.set_cons_zero, List.set_cons_succ, i64_w, i32_w]
    rfl
  refine one_ (i := 7) (N := some 12) #[true, true, true, true, true, true, true, true, false, false, false, false] rfl rfl (by kernel_rfl) (by decide) (fun K hK => ?_)
  refine goes_ Tryd.func46 (by kernel_rfl) rfl #[.int .i64 (s.size : Int)] (by rfl) rfl rfl (by simp only [List.map_toArray, List.map_cons, List.map_nil]; rfl) ?_
  with_reducible refine (form_any s.size _ (by omega)).mono ?_
  rintro e w3 ⟨u, rfl, hu, hb3⟩
  refine ⟨_, rfl, ?_⟩
  obtain ⟨A3, c3, rfl, hc3, hC3⟩ := R_open hu (vnum s.size).length (ints_len _)
  have HR3 := Sh.mk (HRd.out.below hb3)
  have HC3 := Sh.mk hC3
  have HB3 := Sh.mk hb3
  clear hC3 hb3 hu
  refine hK.out _ _ ((HR3.out.cell)) (fun hHeld => ?_)
  clear hK K
  refine norm_ (a' := ?_) ?_ ?_
  rotate_left
  · show Act.put _ (some 12) _ = _
    simp only [Act.put, List.setIfInBounds_toArray, List.set_cons_zero, List.set_cons_succ, i64_w, i32_w]
    rfl
  refine one_ (i := 8) (N := some 13) #[true, true, true, true, true, true, true, true, true, false, false, false] rfl rfl (by kernel_rfl) (by decide) (fun K hK => ?_)
  refine Kd.R_append_rows_step (Kd.int .u8) (w0 := w3) 0 (by rfl) (.tmp 9) (.tmp 12) 28 5 (.int .u8 0) 1 rfl Tryd.underlying28 info_u8 rfl (by show 0 < 1; omega) (by omega) _ (ints l) (ints (vnum s.size)) A3 (vnum s.size).length c3 (fun _ => True) (fun _ => False) rfl rfl HR3.out.row HC3.out (fun _ _ h => h) (fun _ hk => hk.elim) (fun _ _ => trivial) (Below.refl _ _) (Nat.zero_le _) (by rw [ints_len]; omega) ?_
  intro v4 w4 hr4 _ hg4 hat4
  rw [← ints_append] at hr4
  obtain ⟨A4, c4, rfl, hc4, _⟩ := Kd.R_reads hr4
  have HR4 := Sh.mk hr4
  have HG4 := Sh.mk (show w3.grownBy w4 v.ownBlock from hg4)
  have HT4 := Sh.mk (show Hat w3 v.ownBlock (Value.slice A4 (ints (l ++ vnum s.size)).length c4).ownBlock from hat4)
  have HB4 := Sh.mk ((hg4.block b HR3.out.lt (fun e => HR3.out.ne e.symm)).trans HR3.out.blk)
  have xf4 := blk_frozen HB4.out 0
  clear hr4 hg4 hat4
  refine hK.out _ _ (((blk_cell HB4.out 0).trans rfl)) (fun hHeld => ?_)
  clear hK K
  refine norm_ (a' := ?_) ?_ ?_
  rotate_left
  · show Act.put _ (some 13) _ = _
    simp only [Act.put, List.setIfInBounds_toArray, List.set_cons_zero, List.set_cons_succ, i64_w, i32_w]
    rfl
  refine pure_ (i := 9) (N := some 14) (v := ?_) (a' := ?_) #[true, true, true, true, true, true, true, true, true, true, false, false] rfl rfl (by kernel_rfl) (fun _ _ _ h => h) (Or.inl ⟨by rfl, ?_⟩) ?_ ?_
  rotate_left
  · intro w'
    go_simp
    with_reducible rfl
  rotate_left
  · simp only [Act.put, List.setIfInBounds_toArray, List.set_cons_zero, List.set_cons_succ, i64_w, i32_w]
    rfl
  refine pure_ (i := 10) (N := some 15) (v := ?_) (a' := ?_) #[true, true, true, true, true, true, true, true, true, true, true, false] rfl rfl (by kernel_rfl) (fun _ _ _ h => h) (Or.inl ⟨by rfl, ?_⟩) ?_ ?_
  rotate_left
  · intro w'
    go_simp
    with_reducible rfl
  rotate_left
  · simp only [Act.put, List.setIfInBounds_toArray, List.set_cons_zero, List.set_cons_succ, i64_w, i32_w]
    rfl
  refine last_ (i := 11) (N := none) #[true, true, true, true, true, true, true, true, true, true, true, true] rfl rfl (by kernel_rfl) (by decide) (fun K hK => ?_)
  refine skip_ (w1 := ?_) (by rfl) rfl ?_ ?_
  rotate_left
  · go_simp
    rfl
  refine hK.out _ _ ?_
  clear hK K
  refine done_ (by kernel_rfl) ?_
  have HRn := Sh.mk (HR3.out.put HG4.out HR4.out)
  have HKn := Sh.mk (fun u => ((Kx.of_below (b := b) (below_up' (below_drew (Below.refl w.heap.size w)) HB3.out)).trans (Kx.of_grown HG4.out) (Hat.refl _ _)).trans (Kx.set b v.ownBlock w4 0 u) (Hat.refl _ _))
  have HTn := Sh.mk ((Hat.refl w v.ownBlock).trans HT4.out (by have := HB3.out.size; exact this))
  clear HR HRd HR3 HG4 HR4 HT4 HB3 HB4 HC3 xf4
  go_wp2
  go_loopw [4] (fun i wr => ∃ (k : Nat) (v1 : Value), k ≤ s.size ∧ i = .int .i64 k ∧ Sh (RWr wr b v1 (l ++ (vnum s.size ++ s.data.toList.take k))) ∧ Sh (Kx b v.ownBlock w wr) ∧ Sh (Hat w v.ownBlock v1.ownBlock)) (fun i _ => s.size - (intOf i).toNat)
  case atStart => exact ⟨0, _, by omega, rfl, ⟨by rw [List.take_zero, List.append_nil]; exact HRn.out⟩, ⟨HKn.out _⟩, HTn⟩
  case round =>
    obtain ⟨k, v1, hk, rfl, HR1, HK1, HT1⟩ := hrel
    by_cases hlt : k < s.size
    · have hx := bt_nat s k
      have hbv0 := byte_of s k hlt
      have hsn0 := take_snoc8 s.data.toList k (by rw [hdl.out]; exact hlt)
      obtain ⟨cb, hcb⟩ : ∃ cb, cb = s.data.toList.getD k 0 := ⟨_, rfl⟩
      rw [← hcb] at hbv0 hsn0
      have hbv := Sh.mk hbv0
      have hsn := Sh.mk hsn0
      clear hcb hbv0 hsn0
      have HRd := Sh.mk (HR1.out.below (below_drew (Below.refl _ _)))
      have hlen : (l ++ (vnum s.size ++ s.data.toList.take k)).length + 1 ≤ 140737488355328 := by
        rw [List.length_append, List.length_append, List.length_take]
        omega
      go_wp2
      refine start_ (n := 13) (S := fun w' => w'.cell? ⟨b, 0, none⟩ = some v1) (ds := [12]) #[false, false, false, false, false, false, false, false, false, false, false, false, false] (by kernel_rfl) rfl rfl ((HRd.out.cell)) (fun hHeld => ?_)
      refine pure_ (i := 0) (N := some 22) (v := ?_) (a' := ?_) #[true, false, false, false, false, false, false, false, false, false, false, false, false] rfl rfl (by kernel_rfl) (fun _ _ _ h => h) (Or.inl ⟨by rfl, ?_⟩) ?_ ?_
      rotate_left
      · intro w'
        go_simp
        with_reducible rfl
      rotate_left
      · simp only [Act.put, List.setIfInBounds_toArray, List.set_cons_zero, List.set_cons_succ, i64_w, i32_w]
        rfl
      refine pure_ (i := 1) (N := some 23) (v := ?_) (a' := ?_) #[true, true, false, false, false, false, false, false, false, false, false, false, false] rfl rfl (by kernel_rfl) (fun _ _ _ h => h) (Or.inl ⟨by rfl, ?_⟩) ?_ ?_
      rotate_left
      · intro w'
        go_simp
        with_reducible rfl
      rotate_left
      · simp only [Act.put, List.setIfInBounds_toArray, List.set_cons_zero, List.set_cons_succ, i64_w, i32_w]
        rfl
      refine pure_ (i := 2) (N := some 24) (v := ?_) (a' := ?_) #[true, true, true, false, false, false, false, false, false, false, false, false, false] rfl rfl (by kernel_rfl) (fun _ _ _ h => h) (Or.inl ⟨by rfl, ?_⟩) ?_ ?_
      rotate_left
      · intro w'
        go_simp
        with_reducible rfl
      rotate_left
      · simp only [Act.put, List.setIfInBounds_toArray, List.set_cons_zero, List.set_cons_succ, i64_w, i32_w]
        rfl
      refine pure_ (i := 3) (N := some 25) (v := ?_) (a' := ?_) #[true, true, true, true, false, false, false, false, false, false, false, false, false] rfl rfl (by kernel_rfl) (fun _ _ _ h => h) (Or.inl ⟨by rfl, ?_⟩) ?_ ?_
      rotate_left
      · intro w'
        go_simp
        with_reducible rfl
      rotate_left
      · simp only [Act.put, List.setIfInBounds_toArray, List.set_cons_zero, List.set_cons_succ, i64_w, i32_w]
        rfl
      refine pure_ (i := 5) (N := some 27) (v := ?_) (a' := ?_) #[true, true, true, true, false, true, false, false, false, false, false, false, false] rfl rfl (by kernel_rfl) (fun _ _ _ h => h) (Or.inl ⟨by rfl, ?_⟩) ?_ ?_
      rotate_left
      · intro w'
        go_simp
        with_reducible rfl
      rotate_left
      · simp only [Act.put, List.setIfInBounds_toArray, List.set_cons_zero, List.set_cons_succ, i64_w, i32_w]
        rfl
      refine pure_ (i := 6) (N := some 28) (v := ?_) (a' := ?_) #[true, true, true, true, false, true, true, false, false, false, false, false, false] rfl rfl (by kernel_rfl) (fun _ _ _ h => h) (Or.inl ⟨by rfl, ?_⟩) ?_ ?_
      rotate_left
      · intro w'
        go_simp
        with_reducible rfl
      rotate_left
      · simp only [Act.put, List.setIfInBounds_toArray, List.set_cons_zero, List.set_cons_succ, i64_w, i32_w]
        rfl
      refine take_ (i := 4) (N := some 26) (v := ?_) (a' := ?_) #[true, true, true, true, true, true, true, false, false, false, false, false, false] rfl rfl (by kernel_rfl) (fun _ _ _ h => h) (Or.inl ⟨by rfl, ?_⟩) hHeld ?_ ?_
      rotate_left
      · intro w' s0
        go_simp
        with_reducible rfl
      rotate_left
      · simp only [Act.put, List.setIfInBounds_toArray, List.set_cons_zero, List.set_cons_succ, i64_w, i32_w]
        rfl
      refine take_ (i := 7) (N := some 29) (v := ?_) (a' := ?_) #[true, true, true, true, true, true, true, true, false, false, false, false, false] rfl rfl (by kernel_rfl) (fun _ _ _ h => h) (Or.inl ⟨by rfl, ?_⟩) hHeld ?_ ?_
      rotate_left
      · intro w' s0
        go_simp
        with_reducible rfl
      rotate_left
      · simp only [Act.put, List.setIfInBounds_toArray, List.set_cons_zero, List.set_cons_succ, i64_w, i32_w]
        rfl
      refine one_ (i := 8) (N := some 30) #[true, true, true, true, true, true, true, true, true, false, false, false, false] rfl rfl (by kernel_rfl) (by decide) (fun K hK => ?_)
      refine value_ (w1 := ?_) (v := ?_) (by rfl) rfl ?_ ?_
      rotate_left 2
      · go_simp
        constructor
        · rfl
        · rfl
      refine hK.out _ _ (((HRd.out.below (below_alloc (Below.refl _ _) _)).cell)) (fun hHeld => ?_)
      clear hK K
      refine norm_ (a' := ?_) ?_ ?_
      rotate_left
      · show Act.put _ (some 30) _ = _
        simp only [Act.put, List.setIfInBounds_toArray, List.set_cons_zero, List.set_cons_succ, i64_w, i32_w]
        rfl
      refine one_ (i := 9) (N := some 31) #[true, true, true, true, true, true, true, true, true, true, false, false, false] rfl rfl (by kernel_rfl) (by decide) (fun K hK => ?_)
      refine Kd.R_append_step (Kd.int .u8) (w0 := wr.drew) 0 (by rfl) (.tmp 26) (.tmp 30) 28 5 (.int .u8 0) 1 rfl Tryd.underlying28 info_u8 rfl (by show 0 < 1; omega) (by omega) _ _ _ [.int .u8 _] (fun _ => True) (fun _ => False) rfl rfl rfl (fun _ hk => hk.elim) (fun _ _ => trivial) HRd.out.row (Below.refl _ _) (Nat.zero_le _) (by rw [ints_len]; omega) ?_
      intro v4 w4 hr4 _ hg4 hat4
      rw [← ints_snoc _ _ _ hbv.out] at hr4
      obtain ⟨A4, c4, rfl, hc4, _⟩ := Kd.R_reads hr4
      have HR4 := Sh.mk hr4
      have HG4 := Sh.mk (show wr.drew.grownBy w4 v1.ownBlock from hg4)
      have HT4 := Sh.mk (show Hat wr.drew v1.ownBlock (Value.slice A4 _ c4).ownBlock from hat4)
      have HB4 := Sh.mk ((hg4.block b HRd.out.lt (fun e => HRd.out.ne e.symm)).trans HRd.out.blk)
      have xf4 := blk_frozen HB4.out 0
      clear hr4 hg4 hat4
      refine hK.out _ _ (((blk_cell HB4.out 0).trans rfl)) (fun hHeld => ?_)
      clear hK K
      refine norm_ (a' := ?_) ?_ ?_
      rotate_left
      · show Act.put _ (some 31) _ = _
        simp only [Act.put, List.setIfInBounds_toArray, List.set_cons_zero, List.set_cons_succ, i64_w, i32_w]
        rfl
      refine pure_ (i := 10) (N := some 32) (v := ?_) (a' := ?_) #[true, true, true, true, true, true, true, true, true, true, true, false, false] rfl rfl (by kernel_rfl) (fun _ _ _ h => h) (Or.inl ⟨by rfl, ?_⟩) ?_ ?_
      rotate_left
      · intro w'
        go_simp
        with_reducible rfl
      rotate_left
      · simp only [Act.put, List.setIfInBounds_toArray, List.set_cons_zero, List.set_cons_succ, i64_w, i32_w]
        rfl
      refine pure_ (i := 11) (N := some 33) (v := ?_) (a' := ?_) #[true, true, true, true, true, true, true, true, true, true, true, true, false] rfl rfl (by kernel_rfl) (fun _ _ _ h => h) (Or.inl ⟨by rfl, ?_⟩) ?_ ?_
      rotate_left
      · intro w'
        go_simp
        with_reducible rfl
      rotate_left
      · simp only [Act.put, List.setIfInBounds_toArray, List.set_cons_zero, List.set_cons_succ, i64_w, i32_w]
        rfl
      refine last_ (i := 12) (N := none) #[true, true, true, true, true, true, true, true, true, true, true, true, true] rfl rfl (by kernel_rfl) (by decide) (fun K hK => ?_)
      refine skip_ (w1 := ?_) (by rfl) rfl ?_ ?_
      rotate_left
      · go_simp
        rfl
      refine hK.out _ _ ?_
      clear hK K
      refine done_ (by kernel_rfl) ?_
      have HRn := Sh.mk (HRd.out.put HG4.out HR4.out)
      have HKn := Sh.mk (fun u => HK1.out.trans (((Kx.of_below (b := b) (r := v1.ownBlock) (below_drew (Below.refl wr.heap.size wr))).trans (Kx.of_grown HG4.out) (Hat.refl _ _)).trans (Kx.set b v1.ownBlock w4 0 u) (Hat.refl _ _)) HT1.out)
      have HTn := Sh.mk (HT1.out.trans (w1 := wr) HT4.out HK1.out.size)
      go_wp2
      go_roundw
      case rel => exact ⟨k + 1, _, by omega, by go_num, ⟨by rw [hsn.out, show l ++ (vnum s.size ++ (s.data.toList.take k ++ [cb])) = l ++ (vnum s.size ++ s.data.toList.take k) ++ [cb] by simp only [List.append_assoc]]; exact HRn.out⟩, ⟨HKn.out _⟩, HTn⟩
      case measure => simp [intOf]; omega
    · obtain rfl : k = s.size := by omega
      have e : s.data.toList.take s.size = s.data.toList := List.take_of_length_le (by rw [hdl.out]; omega)
      rw [e] at HR1
      go_wp2
      go_end0
      exact ⟨rfl, _, HR1.out, HK1.out, HT1.out⟩
end Go.Proofs.YtlhnajgckdeedaaDoor
