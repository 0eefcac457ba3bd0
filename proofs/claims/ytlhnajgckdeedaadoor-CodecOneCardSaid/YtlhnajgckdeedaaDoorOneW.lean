/-
The walk of caesuralaw1.CodecOne: what a reader's Num has taken is what a writer puts; no form is another's beginning. Conditions: a text of at most 2^47 - 4096 bytes; the table and the refusals read as listed.
-/
import Derived.Test.YtlhnajgckdeedaaDoorPartsW
import Derived.Test.YtlhnajgckdeedaaDoorVlaw
import Derived.Deep.QuietTactic
import Derived.BigQuiet
namespace Go.Proofs.YtlhnajgckdeedaaDoor
open Go Go.RowKit Go.Proofs.YtlhnajgckdeedaaDoorW.PrintWords Go.Proofs.YtlhnajgckdeedaaDoorW.PrintLast Go.Proofs.YtlhnajgckdeedaaDoorW.PrintMore
set_option linter.unusedSimpArgs false
theorem Fx.belowAt {z B b : Nat} {w w1 : World} (h : Fx B b w w1) (h1 : z ≤ B) (h2 : z ≤ b) : Below z w w1 := ⟨h.os, h.tape, h.output, h.size, fun i hi => h.block i (by omega) (by omega)⟩
theorem below_up {z : Nat} {w w1 w2 : World} (h : Below z w w1) (hz : z ≤ w.heap.size) (k : Below w1.heap.size w1 w2) : Below z w w2 := h.trans (k.mono (by have := h.size; omega))
theorem below_gr {z : Nat} {w w1 w2 : World} {r : Option Nat} (h : Below z w w1) (hz : z ≤ w.heap.size) (k : w1.grownBy w2 r) (hr : ∀ i, r = some i → z ≤ i) : Below z w w2 := h.grown k (by have := h.size; omega) hr
theorem below_fx {z B b : Nat} {w w1 w2 : World} (h : Below z w w1) (k : Fx B b w1 w2) (h1 : z ≤ B) (h2 : z ≤ b) : Below z w w2 := h.trans (k.belowAt h1 h2)
theorem below_al {z : Nat} {w w1 : World} (h : Below z w w1) (hz : z ≤ w.heap.size) (o : Obj) : Below z w (w1.alloc o) := h.alloc (by have := h.size; omega) o
abbrev Sz (g : Nat) (x y z : Value) (w1 W : World) : Prop := W.cell? ⟨g, 0, none⟩ = some x ∧ W.cell? ⟨g, 1, none⟩ = some y ∧ W.cell? ⟨g, 2, none⟩ = some z ∧ Sh (Below w1.heap.size w1 W)
theorem Sz.of {g : Nat} {x y z : Value} {t : TypeId} {w0 w1 W : World} (h : Core g #[x, y, z] t w0 w1) (hb : Below w1.heap.size w1 W) : Sz g x y z w1 W :=
  ⟨(S3.of (h.below hb)).1, (S3.of (h.below hb)).2.1, (S3.of (h.below hb)).2.2.1, ⟨hb⟩⟩
/-- What was read is the text's beginning. -/
theorem taken (P : ByteArray) (x u : Nat) (h : rnum 9 0 0 (bytesOf P) = .ok (x, u)) : u = (vnum x).length ∧ u ≤ P.size ∧ P.extract 0 u = ⟨(vnum x).toArray⟩ := by
  obtain ⟨t, r, e1, e2, e3, _⟩ := rnum_form 9 0 0 x u (bytesOf P) (ints_byte _) h
  rw [Nat.pow_zero, Nat.mul_one, Nat.zero_add] at e1
  subst e1
  rw [Nat.zero_add] at e2
  have hl : u ≤ P.size := by
    have := congrArg List.length e3
    rw [bytesOf_length, List.length_append, ints_len] at this
    omega
  refine ⟨e2, hl, ?_⟩
  have e4 : (bytesOf P).take u = ints (vnum x) := by rw [e3, e2, ← ints_len, List.take_left]
  have e5 : P.data.toList.take u = vnum x := by
    apply ints_inj
    rw [← e4, ints_bytes]
    simp [ints, List.map_take]
  apply ByteArray.ext
  apply Array.toList_inj.1
  rw [ByteArray.data_extract, Array.toList_extract]
  simp only [List.extract, Nat.sub_zero, List.drop_zero]
  rw [e5]
set_option maxHeartbeats 16000000 in
set_option maxRecDepth 100000 in
theorem one_any (E : Nat → Addr) (P : ByteArray) (N M : Int) (w : World) (hP : P.size ≤ 140737488351232) (hN : -9223372036854775808 ≤ N ∧ N ≤ 9223372036854775807) (hM : -9223372036854775808 ≤ M ∧ M ≤ 9223372036854775807) (hT : CrcAt w) (hE : GS [1, 4, 10] E w) :
    Calls Tryd.prog 8 #[.agg #[.string P, .int .i64 N, .int .i64 M]] w fun e w' => e = .returned (.bool true) ∧ Below w.heap.size w w' := by
  have HL := Sh.mk (bytesOf_length P)
  have HE := Sh.mk hE
  obtain ⟨W0, hW0⟩ : ∃ W0, W0 = w.alloc (.cells #[.string P, .int .i64 N, .int .i64 M] 47) := ⟨_, rfl⟩
  have HX := Sh.mk (show Core w.heap.size #[.string P, .int .i64 N, .int .i64 M] 47 w W0 by rw [hW0]; exact Core.new _ _ _ hT)
  have HW := Sh.mk hW0
  obtain ⟨g, hg⟩ : ∃ g, g = w.heap.size := ⟨_, rfl⟩
  have HG := Sh.mk hg
  clear hg hT hW0 hE
  rw [← HG.out] at HX
  go_enter Tryd.func8, Tryd.ntmps8
  go_wp2_with fail
  rw [← HW.out, ← HG.out]
  clear HW
  refine (known_any W0 HX.out.tab).mono ?_
  rintro e w1 ⟨rfl, hb1⟩
  have HX1 := Sh.mk (HX.out.below hb1)
  clear HX hb1
  have HB1 := Sh.mk (Below.refl w1.heap.size w1)
  obtain ⟨x0, x1, x2, _⟩ := S3.of HX1.out
  go_wp2_with fail
  -- the reader
  refine (bytes_C P w1 (by omega)).mono ?_
  rintro e w2 ⟨A, c, rfl, HC2, hb2⟩
  have HB2 := Sh.mk (below_up HB1.out (Nat.le_refl _) hb2)
  clear hb2 HB1 x0 x1 x2
  obtain ⟨x0, x1, x2, _⟩ := S3.of (HX1.out.below HB2.out)
  go_wp2_with fail
  refine (newReader_any A c P.size (bytesOf P) w2 HC2.out (by omega)).mono ?_
  rintro e w3 ⟨r, A3, c3, rfl, hr, hrd, hb3⟩
  have HR3 := Sh.mk hrd
  have HB3 := Sh.mk (below_up HB2.out (Nat.le_refl _) hb3)
  have hr1 : w1.heap.size ≤ r := by have := HB2.out.size; omega
  clear hb3 hrd HB2 HC2 x0 x1 x2 hr
  obtain ⟨x0, x1, x2, _⟩ := S3.of (HX1.out.below HB3.out)
  go_wp2_with fail
  refine (newWriter_any w3).mono ?_
  rintro e w4 ⟨rfl, hw4⟩
  obtain ⟨q, hq⟩ : ∃ q, q = w3.heap.size := ⟨_, rfl⟩
  have HQ := Sh.mk hq
  have hq1 : w1.heap.size ≤ q := by have := HB3.out.size; omega
  have HW4 := Sh.mk (show Wr w4 w1.heap.size q (.slice none 0 0) [] by rw [hw4, hq]; exact Wr.new _ _)
  have hb4 : Below w3.heap.size w3 w4 := by rw [hw4]; exact (Below.refl _ _).alloc (Nat.le_refl _) _
  have HR4 := Sh.mk (HR3.out.below hb4)
  have HB4 := Sh.mk (below_up HB3.out (Nat.le_refl _) hb4)
  have hrq : r ≠ q := by have := HR3.out.lt; omega
  rw [← HQ.out]
  clear hw4 hb4 HR3 HB3 x0 x1 x2 hq
  obtain ⟨x0, x1, x2, _⟩ := S3.of (HX1.out.below HB4.out)
  go_wp2_with fail
  refine (rnum_any E w2.heap.size r A3 c3 (bytesOf P) 0 w4 ((HE.out.below (HX1.out.below HB4.out).bel).sub (by decide)) HR4.out (ints_byte _)).mono ?_
  rw [List.drop_zero]
  obtain ⟨R, hR⟩ : ∃ R, R = rnum 9 0 0 (bytesOf P) := ⟨_, rfl⟩
  rw [← hR]
  have HRn := Sh.mk hR
  clear hR
  cases R
  case' error gq =>
    rintro e w5 ⟨rfl, hd⟩
    have HB5 := Sh.mk (below_up HB4.out (Nat.le_refl _) hd.below)
    have HR5 := Sh.mk (HR4.out.below hd.below)
    clear hd HR4 HW4 HB4 x0 x1 x2
    obtain ⟨x0, x1, x2, _⟩ := S3.of (HX1.out.below HB5.out)
    go_wp2_with fail
    refine (left_any w2.heap.size r A3 c3 (bytesOf P) 0 w5 HR5.out).mono ?_
    rintro e w6 ⟨rfl, hd⟩
    have HB6 := Sh.mk (below_up HB5.out (Nat.le_refl _) hd.below)
    clear hd HR5 HB5 x0 x1 x2
    obtain ⟨x0, x1, x2, _⟩ := S3.of (HX1.out.below HB6.out)
    rw [Nat.sub_zero, HL.out]
    go_wp2_with fail
    obtain ⟨w8, hw8⟩ : ∃ w8, w8 = w6 := ⟨_, rfl⟩
    rw [← hw8]
    have HB8 := Sh.mk (show Below w1.heap.size w1 w8 by rw [hw8]; exact HB6.out)
    clear hw8 HB6 x0 x1 x2
  case' ok xu =>
    obtain ⟨x, u⟩ := xu
    obtain ⟨hu, huP, hext⟩ := taken P x u HRn.out.symm
    rintro e w5 ⟨rfl, hrd, hgr, hx⟩
    have HB5 := Sh.mk (below_gr HB4.out (Nat.le_refl _) hgr (fun i e => by cases e; exact hr1))
    have HW5 := Sh.mk (HW4.out.kept (hgr.block q HW4.out.lt (fun e => by cases e; exact hrq rfl)) (fun i e => by simp [Value.ownBlock] at e))
    have HR5 := Sh.mk hrd
    clear hrd hgr HR4 HW4 HB4 x0 x1 x2
    obtain ⟨x0, x1, x2, _⟩ := S3.of (HX1.out.below HB5.out)
    go_wp2_with fail
    refine (left_any w2.heap.size r A3 c3 (bytesOf P) (0 + u) w5 HR5.out).mono ?_
    rw [HL.out, Nat.zero_add]
    rintro e w6 ⟨rfl, hd⟩
    obtain ⟨lf, hlf⟩ : ∃ lf, lf = P.size - u := ⟨_, rfl⟩
    rw [← hlf]
    have hulf : P.size - lf = u := by omega
    have HULF := Sh.mk hulf
    have hlfP : lf ≤ P.size := by omega
    have HU := Sh.mk hu
    have HEXT := Sh.mk hext
    have HB6 := Sh.mk (below_up HB5.out (Nat.le_refl _) hd.below)
    have HW6 := Sh.mk (HW5.out.below hd.below)
    clear hd HR5 HB5 HW5 x0 x1 x2 hlf hulf hu hext
    obtain ⟨x0, x1, x2, _⟩ := S3.of (HX1.out.below HB6.out)
    go_wp2_with fail
    refine (wnum_any w1.heap.size q (.slice none 0 0) [] x w6 HW6.out hx (by simp) HB6.out.size).mono ?_
    rintro e w7 ⟨rfl, vq, hwq, hfq⟩
    rw [List.nil_append] at hwq
    have HW7 := Sh.mk hwq
    have HB7 := Sh.mk (below_fx HB6.out hfq (Nat.le_refl _) hq1)
    clear hwq hfq HB6 HW6 x0 x1 x2
    obtain ⟨x0, x1, x2, _⟩ := S3.of (HX1.out.below HB7.out)
    go_wp2_with fail
    have hv9 := vnum_nine x hx
    have hwl : IntKind.i64.wrap ((P.size : Int) - lf) = (u : Int) := by rw [IntKind.wrap_i64]; have := HULF.out; omega
    have hdl : decide (u ≤ P.size) = true := by simpa using huP
    refine start_ (n := 20) (S := fun w' => w'.cell? ⟨g, 0, none⟩ = some (.string P) ∧ w'.cell? ⟨g, 1, none⟩ = some (.int .i64 N) ∧ w'.cell? ⟨g, 2, none⟩ = some (.int .i64 M)) (ds := []) #[false, false, false, false, false, false, false, false, false, false, false, false, false, false, false, false, false, false, false, false] (by kernel_rfl) rfl rfl ⟨(Sz.of HX1.out (below_drew HB7.out)).1, (Sz.of HX1.out (below_drew HB7.out)).2.1, (Sz.of HX1.out (below_drew HB7.out)).2.2.1⟩ (fun hHeld => ?_)
    refine pure_ (i := 0) (N := some 54) (v := ?_) (a' := ?_) #[true, false, false, false, false, false, false, false, false, false, false, false, false, false, false, false, false, false, false, false] rfl rfl (by kernel_rfl) (fun _ _ _ h => h) (Or.inl ⟨by rfl, ?_⟩) ?_ ?_
    rotate_left
    · intro w'
      go_simp
      with_reducible rfl
    rotate_left
    · simp only [Act.put, List.setIfInBounds_toArray, List.set_cons_zero, List.set_cons_succ, i64_w, i32_w]
      rfl
    refine pure_ (i := 1) (N := some 55) (v := ?_) (a' := ?_) #[true, true, false, false, false, false, false, false, false, false, false, false, false, false, false, false, false, false, false, false] rfl rfl (by kernel_rfl) (fun _ _ _ h => h) (Or.inl ⟨by rfl, ?_⟩) ?_ ?_
    rotate_left
    · intro w'
      go_simp
      with_reducible rfl
    rotate_left
    · simp only [Act.put, List.setIfInBounds_toArray, List.set_cons_zero, List.set_cons_succ, i64_w, i32_w]
      rfl
    refine pure_ (i := 2) (N := some 56) (v := ?_) (a' := ?_) #[true, true, true, false, false, false, false, false, false, false, false, false, false, false, false, false, false, false, false, false] rfl rfl (by kernel_rfl) (fun _ _ _ h => h) (Or.inl ⟨by rfl, ?_⟩) ?_ ?_
    rotate_left
    · intro w'
      go_simp
      with_reducible rfl
    rotate_left
    · simp only [Act.put, List.setIfInBounds_toArray, List.set_cons_zero, List.set_cons_succ, i64_w, i32_w]
      rfl
    refine pure_ (i := 3) (N := some 57) (v := ?_) (a' := ?_) #[true, true, true, true, false, false, false, false, false, false, false, false, false, false, false, false, false, false, false, false] rfl rfl (by kernel_rfl) (fun _ _ _ h => h) (Or.inl ⟨by rfl, ?_⟩) ?_ ?_
    rotate_left
    · intro w'
      go_simp
      with_reducible rfl
    rotate_left
    · simp only [Act.put, List.setIfInBounds_toArray, List.set_cons_zero, List.set_cons_succ, i64_w, i32_w]
      rfl
    refine pure_ (i := 4) (N := some 58) (v := ?_) (a' := ?_) #[true, true, true, true, true, false, false, false, false, false, false, false, false, false, false, false, false, false, false, false] rfl rfl (by kernel_rfl) (fun _ _ _ h => h) (Or.inl ⟨by rfl, ?_⟩) ?_ ?_
    rotate_left
    · intro w'
      go_simp
      with_reducible rfl
    rotate_left
    · simp only [Act.put, List.setIfInBounds_toArray, List.set_cons_zero, List.set_cons_succ, i64_w, i32_w]
      rfl
    refine pure_ (i := 5) (N := some 59) (v := ?_) (a' := ?_) #[true, true, true, true, true, true, false, false, false, false, false, false, false, false, false, false, false, false, false, false] rfl rfl (by kernel_rfl) (fun _ _ _ h => h) (Or.inl ⟨by rfl, ?_⟩) ?_ ?_
    rotate_left
    · intro w'
      go_simp
      with_reducible rfl
    rotate_left
    · simp only [Act.put, List.setIfInBounds_toArray, List.set_cons_zero, List.set_cons_succ, i64_w, i32_w]
      rfl
    refine pure_ (i := 6) (N := some 60) (v := ?_) (a' := ?_) #[true, true, true, true, true, true, true, false, false, false, false, false, false, false, false, false, false, false, false, false] rfl rfl (by kernel_rfl) (fun _ _ _ h => h) (Or.inl ⟨by rfl, ?_⟩) ?_ ?_
    rotate_left
    · intro w'
      go_simp
      with_reducible rfl
    rotate_left
    · simp only [Act.put, List.setIfInBounds_toArray, List.set_cons_zero, List.set_cons_succ, i64_w, i32_w]
      rfl
    refine pure_ (i := 7) (N := some 61) (v := ?_) (a' := ?_) #[true, true, true, true, true, true, true, true, false, false, false, false, false, false, false, false, false, false, false, false] rfl rfl (by kernel_rfl) (fun _ _ _ h => h) (Or.inl ⟨by rfl, ?_⟩) ?_ ?_
    rotate_left
    · intro w'
      go_simp
      with_reducible rfl
    rotate_left
    · simp only [Act.put, List.setIfInBounds_toArray, List.set_cons_zero, List.set_cons_succ, i64_w, i32_w]
      rfl
    refine pure_ (i := 10) (N := some 64) (v := ?_) (a' := ?_) #[true, true, true, true, true, true, true, true, false, false, true, false, false, false, false, false, false, false, false, false] rfl rfl (by kernel_rfl) (fun _ _ _ h => h) (Or.inl ⟨by rfl, ?_⟩) ?_ ?_
    rotate_left
    · intro w'
      go_simp
      with_reducible rfl
    rotate_left
    · simp only [Act.put, List.setIfInBounds_toArray, List.set_cons_zero, List.set_cons_succ, i64_w, i32_w]
      rfl
    refine pure_ (i := 12) (N := some 66) (v := ?_) (a' := ?_) #[true, true, true, true, true, true, true, true, false, false, true, false, true, false, false, false, false, false, false, false] rfl rfl (by kernel_rfl) (fun _ _ _ h => h) (Or.inl ⟨by rfl, ?_⟩) ?_ ?_
    rotate_left
    · intro w'
      go_simp
      with_reducible rfl
    rotate_left
    · simp only [Act.put, List.setIfInBounds_toArray, List.set_cons_zero, List.set_cons_succ, i64_w, i32_w]
      rfl
    refine pure_ (i := 15) (N := some 69) (v := ?_) (a' := ?_) #[true, true, true, true, true, true, true, true, false, false, true, false, true, false, false, true, false, false, false, false] rfl rfl (by kernel_rfl) (fun _ _ _ h => h) (Or.inl ⟨by rfl, ?_⟩) ?_ ?_
    rotate_left
    · intro w'
      go_simp
      with_reducible rfl
    rotate_left
    · simp only [Act.put, List.setIfInBounds_toArray, List.set_cons_zero, List.set_cons_succ, i64_w, i32_w]
      rfl
    refine take_ (i := 11) (N := some 65) (v := ?_) (a' := ?_) #[true, true, true, true, true, true, true, true, false, false, true, true, true, false, false, true, false, false, false, false] rfl rfl (by kernel_rfl) (fun _ _ _ h => h) (Or.inl ⟨by rfl, ?_⟩) hHeld ?_ ?_
    rotate_left
    · rintro w' ⟨s0, s1, s2⟩
      go_simp
      with_reducible rfl
    rotate_left
    · simp only [Act.put, List.setIfInBounds_toArray, List.set_cons_zero, List.set_cons_succ, i64_w, i32_w]
      rfl
    refine take_ (i := 13) (N := some 67) (v := ?_) (a' := ?_) #[true, true, true, true, true, true, true, true, false, false, true, true, true, true, false, true, false, false, false, false] rfl rfl (by kernel_rfl) (fun _ _ _ h => h) (Or.inl ⟨by rfl, ?_⟩) hHeld ?_ ?_
    rotate_left
    · rintro w' ⟨s0, s1, s2⟩
      go_simp
      with_reducible rfl
    rotate_left
    · simp only [Act.put, List.setIfInBounds_toArray, List.set_cons_zero, List.set_cons_succ, i64_w, i32_w]
      rfl
    refine pure_ (i := 14) (N := some 68) (v := ?_) (a' := ?_) #[true, true, true, true, true, true, true, true, false, false, true, true, true, true, true, true, false, false, false, false] rfl rfl (by kernel_rfl) (fun _ _ _ h => h) (Or.inl ⟨by rfl, ?_⟩) ?_ ?_
    rotate_left
    · intro w'
      go_simp
      with_reducible rfl
    rotate_left
    · simp only [Act.put, List.setIfInBounds_toArray, List.set_cons_zero, List.set_cons_succ, i64_w, i32_w]
      rfl
    refine pure_ (i := 16) (N := some 70) (v := ?_) (a' := ?_) #[true, true, true, true, true, true, true, true, false, false, true, true, true, true, true, true, true, false, false, false] rfl rfl (by kernel_rfl) (fun _ _ _ h => h) (Or.inl ⟨by rfl, ?_⟩) ?_ ?_
    rotate_left
    · intro w'
      go_simp
      with_reducible rfl
    rotate_left
    · simp only [Act.put, List.setIfInBounds_toArray, List.set_cons_zero, List.set_cons_succ, i64_w, i32_w]
      rfl
    refine pure_ (i := 17) (N := some 71) (v := ?_) (a' := ?_) #[true, true, true, true, true, true, true, true, false, false, true, true, true, true, true, true, true, true, false, false] rfl rfl (by kernel_rfl) (fun _ _ _ h => h) (Or.inl ⟨by rfl, ?_⟩) ?_ ?_
    rotate_left
    · intro w'
      go_simp
      with_reducible rfl
    rotate_left
    · simp only [Act.put, List.setIfInBounds_toArray, List.set_cons_zero, List.set_cons_succ, i64_w, i32_w]
      rfl
    refine one_ (i := 8) (N := some 62) #[true, true, true, true, true, true, true, true, true, false, true, true, true, true, true, true, true, true, false, false] rfl rfl (by kernel_rfl) (by decide) (fun K hK => ?_)
    refine goes_ Tryd.func27 (by kernel_rfl) rfl #[.pointer (some ⟨q, 0, none⟩)] (by rfl) rfl rfl (by simp only [List.map_toArray, List.map_cons, List.map_nil]; rfl) ?_
    with_reducible refine (wbytes_any w1.heap.size q vq (vnum x) _ (HW7.out.below (below_drew (Below.refl _ _))) (by omega)).mono ?_
    rintro e w8 ⟨⟨gb, cb, rfl, hgb1, hgb2, hcb, hCb⟩, hwb, hgb⟩
    refine ⟨_, rfl, ?_⟩
    have HBb := Sh.mk (below_gr (below_drew HB7.out) (Nat.le_refl _) hgb (fun i hi => (HW7.out.own.lt i hi).1))
    have hstr := C_str cb hCb
    rw [← HEXT.out] at hstr
    clear hCb hwb hgb
    refine hK.out _ _ ⟨(Sz.of HX1.out HBb.out).1, (Sz.of HX1.out HBb.out).2.1, (Sz.of HX1.out HBb.out).2.2.1⟩ (fun hHeld => ?_)
    clear hK K
    refine norm_ (a' := ?_) ?_ ?_
    rotate_left
    · show Act.put _ (some 62) _ = _
      simp only [Act.put, List.setIfInBounds_toArray, List.set_cons_zero, List.set_cons_succ, i64_w, i32_w]
      rfl
    refine one_ (i := 9) (N := some 63) #[true, true, true, true, true, true, true, true, true, true, true, true, true, true, true, true, true, true, false, false] rfl rfl (by kernel_rfl) (by decide) (fun K hK => ?_)
    refine value_ (w1 := ?_) (v := ?_) (by rfl) rfl ?_ ?_
    rotate_left 2
    · go_simp
      constructor
      · rfl
      · rfl
    refine hK.out _ _ ⟨(Sz.of HX1.out HBb.out).1, (Sz.of HX1.out HBb.out).2.1, (Sz.of HX1.out HBb.out).2.2.1⟩ (fun hHeld => ?_)
    clear hK K
    refine norm_ (a' := ?_) ?_ ?_
    rotate_left
    · show Act.put _ (some 63) _ = _
      simp only [Act.put, List.setIfInBounds_toArray, List.set_cons_zero, List.set_cons_succ, i64_w, i32_w]
      rfl
    refine pure_ (i := 18) (N := some 72) (v := ?_) (a' := ?_) #[true, true, true, true, true, true, true, true, true, true, true, true, true, true, true, true, true, true, true, false] rfl rfl (by kernel_rfl) (fun _ _ _ h => h) (Or.inl ⟨by rfl, ?_⟩) ?_ ?_
    rotate_left
    · intro w'
      go_simp
      with_reducible rfl
    rotate_left
    · simp only [Act.put, List.setIfInBounds_toArray, List.set_cons_zero, List.set_cons_succ, i64_w, i32_w]
      rfl
    refine pure_ (i := 19) (N := some 73) (v := ?_) (a' := ?_) #[true, true, true, true, true, true, true, true, true, true, true, true, true, true, true, true, true, true, true, true] rfl rfl (by kernel_rfl) (fun _ _ _ h => h) (Or.inl ⟨by rfl, ?_⟩) ?_ ?_
    rotate_left
    · intro w'
      go_simp
      with_reducible rfl
    rotate_left
    · simp only [Act.put, List.setIfInBounds_toArray, List.set_cons_zero, List.set_cons_succ, i64_w, i32_w]
      rfl
    refine done_ (by kernel_rfl) ?_
    go_wp2_with fail
    have HB8 := HBb
    clear HB7 HW7 HBb
  all_goals
    clear HRn
    refine (newWriter_any w8).mono ?_
    rintro e w9 ⟨rfl, hw9⟩
    obtain ⟨ba, hba⟩ : ∃ ba, ba = w8.heap.size := ⟨_, rfl⟩
    have HA9 := Sh.mk (show ∀ B, Wr w9 B ba (.slice none 0 0) [] by rw [hw9, hba]; exact fun B => Wr.new _ _)
    have hb9 : Below w8.heap.size w8 w9 := by rw [hw9]; exact (Below.refl _ _).alloc (Nat.le_refl _) _
    have HB9 := Sh.mk (below_up HB8.out (Nat.le_refl _) hb9)
    have hba1 : w1.heap.size ≤ ba := by have := HB8.out.size; omega
    have HBA := Sh.mk hba
    rw [← HBA.out]
    clear hw9 hb9 hba
    go_wp2_with fail
    refine (newWriter_any w9).mono ?_
    rintro e w10 ⟨rfl, hw10⟩
    obtain ⟨bb, hbb⟩ : ∃ bb, bb = w9.heap.size := ⟨_, rfl⟩
    have HC10 := Sh.mk (show ∀ B, Wr w10 B bb (.slice none 0 0) [] by rw [hw10, hbb]; exact fun B => Wr.new _ _)
    have hb10 : Below w9.heap.size w9 w10 := by rw [hw10]; exact (Below.refl _ _).alloc (Nat.le_refl _) _
    have HA10 := Sh.mk (show ∀ B, Wr w10 B ba (.slice none 0 0) [] from fun B => (HA9.out B).below hb10)
    have HB10 := Sh.mk (below_up HB9.out (Nat.le_refl _) hb10)
    have hab : ba < bb := by have := (HA9.out 0).lt; omega
    have HBBb := Sh.mk hbb
    rw [← HBBb.out]
    have hbb10 : bb < w10.heap.size := (HC10.out 0).lt
    have hz10 : w1.heap.size ≤ w10.heap.size := HB10.out.size
    clear hw10 hb10 hbb HA9 HB9
    obtain ⟨x0, x1, x2, _⟩ := S3.of (HX1.out.below HB10.out)
    go_wp2_with fail
    have HE10 := Sh.mk (HE.out.below (HX1.out.below HB10.out).bel)
    by_cases hN0 : N < 0
    · refine (wnum_neg E ba N w10 (HE10.out.sub (by decide)) hN0).mono ?_
      rintro e w11 ⟨rfl, rfl⟩
      have hN1 : decide (N < 0) = true := by simpa using hN0
      go_wp2_with fail
      by_cases hM0 : M < 0
      · refine (wnum_neg E bb M w10 (HE10.out.sub (by decide)) hM0).mono ?_
        rintro e w11 ⟨rfl, rfl⟩
        have hM1 : decide (M < 0) = true := by simpa using hM0
        go_wp2
        go_quiet (fail)
        go_wp2
        go_ret
        exact ⟨rfl, (HX1.out.below (pw_below_drewN HB10.out _)).bel⟩
      · obtain ⟨m, rfl⟩ := Int.eq_ofNat_of_zero_le (show 0 ≤ M by omega)
        refine (wnum_any w10.heap.size bb (.slice none 0 0) [] m w10 (HC10.out _) (by omega) (by simp) (Nat.le_refl _)).mono ?_
        rintro e w11 ⟨rfl, vb, hwb, hfb⟩
        have HB11 := Sh.mk (below_fx HB10.out hfb hz10 (by omega))
        clear hwb hfb x0 x1 x2 hM0
        obtain ⟨x0, x1, x2, _⟩ := S3.of (HX1.out.below HB11.out)
        go_wp2
        go_quiet (fail)
        go_wp2
        go_ret
        exact ⟨rfl, (HX1.out.below (pw_below_drewN HB11.out _)).bel⟩
    · obtain ⟨n, rfl⟩ := Int.eq_ofNat_of_zero_le (show 0 ≤ N by omega)
      refine (wnum_any w10.heap.size ba (.slice none 0 0) [] n w10 (HA10.out _) (by omega) (by simp) (Nat.le_refl _)).mono ?_
      rintro e w11 ⟨rfl, va, hwa, hfa⟩
      rw [List.nil_append] at hwa
      have HA11 := Sh.mk hwa
      have HC11 := Sh.mk (show ∀ B, Wr w11 B bb (.slice none 0 0) [] from fun B => (HC10.out B).kept (hfa.block bb hbb10 (by omega)) (fun i e => by simp [Value.ownBlock] at e))
      have HB11 := Sh.mk (below_fx HB10.out hfa hz10 (by omega))
      have HE11 := Sh.mk (HE.out.below (HX1.out.below HB11.out).bel)
      have hs11 : w10.heap.size ≤ w11.heap.size := hfa.size
      clear hwa hfa x0 x1 x2 hN0
      obtain ⟨x0, x1, x2, _⟩ := S3.of (HX1.out.below HB11.out)
      go_wp2_with fail
      by_cases hM0 : M < 0
      · refine (wnum_neg E bb M w11 (HE11.out.sub (by decide)) hM0).mono ?_
        rintro e w12 ⟨rfl, rfl⟩
        have hM1 : decide (M < 0) = true := by simpa using hM0
        go_wp2
        go_quiet (fail)
        go_wp2
        go_ret
        exact ⟨rfl, (HX1.out.below (pw_below_drewN HB11.out _)).bel⟩
      · obtain ⟨m, rfl⟩ := Int.eq_ofNat_of_zero_le (show 0 ≤ M by omega)
        refine (wnum_any w11.heap.size bb (.slice none 0 0) [] m w11 (HC11.out _) (by omega) (by simp) (Nat.le_refl _)).mono ?_
        rintro e w12 ⟨rfl, vb, hwb, hfb⟩
        rw [List.nil_append] at hwb
        have HC12 := Sh.mk hwb
        have HA12 := Sh.mk (HA11.out.other hfb (Nat.le_refl _) (by omega) (fun e => by have := (HA11.out.own.lt _ e).1; omega))
        have HB12 := Sh.mk (below_fx HB11.out hfb (by omega) (by omega))
        clear hwb hfb x0 x1 x2 hM0
        obtain ⟨x0, x1, x2, _⟩ := S3.of (HX1.out.below HB12.out)
        go_wp2_with fail
        have hnb : n < 9223372036854775808 := by omega
        have hmb : m < 9223372036854775808 := by omega
        have hn9 := vnum_nine n hnb
        have hm9 := vnum_nine m hmb
        refine (wbytes_any w10.heap.size ba va (vnum n) w12 HA12.out (by omega)).mono ?_
        rintro e w13 ⟨⟨ga, ca, rfl, hga1, hga2, hca, hCa⟩, hwa, hgra⟩
        have HB13 := Sh.mk (below_gr HB12.out (Nat.le_refl _) hgra (fun i e => by have := (HA12.out.own.lt i e).1; omega))
        have HC13 := Sh.mk (HC12.out.kept (hgra.block bb HC12.out.lt (fun e => by have := (HA12.out.own.lt bb e.symm).1; omega)) (fun i e => hgra.block i (HC12.out.own.lt i e).2 (fun e2 => by have h1 := (HC12.out.own.lt i e).1; have h2 := (HA11.out.own.lt i e2.symm).2; omega)))
        have hstra := C_str ca hCa
        have hLa : ByteArray.size ⟨(vnum n).toArray⟩ = (vnum n).length := by simp [ByteArray.size]
        obtain ⟨Pp, hPp⟩ : ∃ Pp, Pp = (⟨(vnum n).toArray⟩ : ByteArray) := ⟨_, rfl⟩
        rw [← hPp] at hstra hLa
        have HPp := Sh.mk hPp
        have HLa := Sh.mk hLa
        clear hCa hwa hgra HA12 HB12 x0 x1 x2 hPp hLa
        go_wp2_with fail
        clear hstra
        refine (wbytes_any w11.heap.size bb vb (vnum m) w13 HC13.out (by omega)).mono ?_
        rintro e w14 ⟨⟨gb, cb, rfl, hgb1, hgb2, hcb, hCb⟩, hwb, hgrb⟩
        have HB14 := Sh.mk (below_gr HB13.out (Nat.le_refl _) hgrb (fun i e => by have := (HC13.out.own.lt i e).1; omega))
        have hstrb := C_str cb hCb
        have hLb : ByteArray.size ⟨(vnum m).toArray⟩ = (vnum m).length := by simp [ByteArray.size]
        obtain ⟨Qq, hQq⟩ : ∃ Qq, Qq = (⟨(vnum m).toArray⟩ : ByteArray) := ⟨_, rfl⟩
        rw [← hQq] at hstrb hLb
        have HQq := Sh.mk hQq
        have HLb := Sh.mk hLb
        clear hCb hwb hgrb HC13 HB13 hQq hLb HC12 HA11 HC11
        obtain ⟨x0, x1, x2, _⟩ := S3.of (HX1.out.below HB14.out)
        have hp1 : 1 ≤ Pp.size := by have := List.length_pos_iff.2 (vnum_ne n); rw [HLa.out]; exact this
        have hp1b : decide ((1 : Int) ≤ (Pp.size : Int)) = true := by simp; omega
        have hp9 : Pp.size ≤ 9 := by rw [HLa.out]; exact hn9
        have hq9 : Qq.size ≤ 9 := by rw [HLb.out]; exact hm9
        by_cases hnm : n = m
        · have hPQ : Pp = Qq := by rw [HPp.out, HQq.out, hnm]
          subst hnm
          subst hPQ
          have hext2 : Pp.extract 0 Pp.size = Pp := by simp
          go_wp2
          go_ret
          exact ⟨rfl, (HX1.out.below HB14.out).bel⟩
        · have hnm1 : ((n : Int) == (m : Int)) = false := by simp; omega
          have hnm2 : (n == m) = false := by simpa using hnm
          by_cases hle : Pp.size ≤ Qq.size
          · have hd1 : decide (Qq.size < Pp.size) = false := by simpa using hle
            have hne : ((Qq.extract 0 Pp.size).toList == Pp.toList) = false := by
              rw [ByteArray.toList_eq, ByteArray.toList_eq, beq_eq_false_iff_ne]
              intro e
              apply hnm
              have h1 : Qq.data.toList.take (vnum n).length = vnum n := by
                simp only [ByteArray.data_extract, Array.toList_extract, List.extract, Nat.sub_zero, List.drop_zero] at e
                rw [HLa.out] at e
                rw [e, HPp.out]
              have h2 : vnum m = vnum n ++ (vnum m).drop (vnum n).length := by
                have h3 : Qq.data.toList = vnum m := by rw [HQq.out]
                rw [h3] at h1
                conv => lhs; rw [← List.take_append_drop (vnum n).length (vnum m), h1]
              exact vnum_prefix n m hnb hmb _ h2
            clear hnm
            go_wp2
            go_ret
            exact ⟨rfl, (HX1.out.below HB14.out).bel⟩
          · have hd1 : decide (Pp.size ≤ Qq.size) = false := by simpa using hle
            clear hnm
            go_wp2
            go_ret
            exact ⟨rfl, (HX1.out.below HB14.out).bel⟩
end Go.Proofs.YtlhnajgckdeedaaDoor
