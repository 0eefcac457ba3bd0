/-
Several texts as one: OffOne, OffPlayW.
-/
import Derived.Test.YtbpadakcjnkjeaaDoorOffB
import Derived.Test.YtbpadakcjnkjeaaDoorNum
import Derived.Test.YtbpadakcjnkjeaaDoorPick
/- caesuralaw26.one: all that is asked of two numbers is answered as the document answers. Conditions: both maps lie in memory; the refusals read as listed. -/
namespace Go.Proofs.YtbpadakcjnkjeaaDoor
open Go Go.RowKit Go.Proofs.YtbpadakcjnkjeaaDoorW.PrintWords Go.Proofs.YtbpadakcjnkjeaaDoorW.PrintLast Go.Proofs.YtbpadakcjnkjeaaDoorW.PrintMore
set_option maxRecDepth 100000
def oOf {α : Type} (r : Option α) : Option Nat := match r with | some _ => none | none => some 1
theorem numPost_val {E : Nat → Addr} {r : Option Int} {e : Ending} (h : NumPost E r e) : e = .returned (.tuple #[.int .i64 (r.getD 0), errV E (oOf r)]) := by
  cases r with
  | some x => exact h
  | none => exact h
theorem rNum_val {r : Option Int} {e : Ending} (h : RNum r e) : e = .returned (.tuple #[.int .i64 (r.getD 0), .int .i64 (numOf (oOf r))]) := by
  cases r with
  | some x => exact h
  | none => exact h
theorem linePost_val {E : Nat → Addr} {r : Option (Int × Int)} {e : Ending} (h : LinePost E r e) : e = .returned (.tuple #[.int .i64 (r.getD (0, 0)).1, .int .i64 (r.getD (0, 0)).2, errV E (oOf r)]) := by
  cases r with
  | some x => exact h
  | none => exact h
theorem rLine_val {r : Option (Int × Int)} {e : Ending} (h : RLine r e) : e = .returned (.tuple #[.int .i64 (r.getD (0, 0)).1, .int .i64 (r.getD (0, 0)).2, .int .i64 (numOf (oOf r))]) := by
  cases r with
  | some x => exact h
  | none => exact h
theorem oOf_all {α : Type} (r : Option α) : ∀ g, oOf r = some g → g ∈ allS := by
  cases r with
  | some x => intro g h; cases h
  | none => intro g h; cases h; decide
set_option maxHeartbeats 8000000 in
set_option maxRecDepth 100000 in
theorem ask_any (E : Nat → Addr) (b r : Nat) (A B : Option Addr) (c d : Nat) (us : List Un) (x y : Int) (w : World) (hE : GS allS E w) (h : MapU w b A c us) (hr : RMapU w r B d us) (hx : -9223372036854775808 ≤ x ∧ x ≤ 9223372036854775807) :
    Calls Tryd.prog 16 #[.pointer (some ⟨b, 0, none⟩), .pointer (some ⟨r, 0, none⟩), .int .i64 x, .int .i64 y] w fun e w' => e = .returned (.bool true) ∧ Below w.heap.size w w' := by
  have hne : ∀ z : Int, (z != z) = false := fun z => by simp
  have heq : ∀ z : Int, (z == z) = true := fun z => by simp
  have HM := Sh.mk h
  have HR := Sh.mk hr
  have HE := Sh.mk hE
  have HXx := Sh.mk hx
  clear hE h hr hx
  go_enter Tryd.func16, Tryd.ntmps16
  go_wp2_with fail
  refine (unit_call E b A c us w (HE.out.sub (by decide)) HM.out x).mono ?_
  rintro e w1 ⟨he, hb⟩
  obtain rfl := numPost_val he
  have HB1 := Sh.mk hb
  clear hb
  obtain ⟨u1, hu⟩ : ∃ u, u = (Option.map Int.ofNat (keyB us x)).getD 0 := ⟨_, rfl⟩
  obtain ⟨o1, ho⟩ : ∃ o, o = oOf (Option.map Int.ofNat (keyB us x)) := ⟨_, rfl⟩
  have hA := oOf_all (Option.map Int.ofNat (keyB us x))
  rw [← hu, ← ho]
  rw [← ho] at hA
  obtain ⟨v1, hv⟩ : ∃ v, v = errV E o1 := ⟨_, rfl⟩
  rw [← hv]
  have HA1 := Sh.mk hA
  have HV1 := Sh.mk hv
  have HU1 := Sh.mk hu
  have HO1 := Sh.mk ho
  clear hA hv hu ho
  go_wp2_with fail
  refine (rUnit_call r B d us w1 (HR.out.below HB1.out) x).mono ?_
  rintro e w2 ⟨he, hb⟩
  obtain rfl := rNum_val he
  have HB2 := Sh.mk (below_of HB1.out hb)
  clear hb
  rw [← HU1.out, ← HO1.out]
  go_wp2_with fail
  refine (byte_call E b A c us w2 ((HE.out.below HB2.out).sub (by decide)) (HM.out.below HB2.out) x HXx.out).mono ?_
  rintro e w3 ⟨he, hb⟩
  obtain rfl := numPost_val he
  have HB3 := Sh.mk (below_of HB2.out hb)
  clear hb
  obtain ⟨u2, hu⟩ : ∃ u, u = (if 0 ≤ x ∧ x < us.length + 1 then some (plA us x.toNat).1 else none).getD 0 := ⟨_, rfl⟩
  obtain ⟨o2, ho⟩ : ∃ o, o = oOf (if 0 ≤ x ∧ x < us.length + 1 then some (plA us x.toNat).1 else none) := ⟨_, rfl⟩
  have hA := oOf_all (if 0 ≤ x ∧ x < us.length + 1 then some (plA us x.toNat).1 else none)
  rw [← hu, ← ho]
  rw [← ho] at hA
  obtain ⟨v2, hv⟩ : ∃ v, v = errV E o2 := ⟨_, rfl⟩
  rw [← hv]
  have HA2 := Sh.mk hA
  have HV2 := Sh.mk hv
  have HU2 := Sh.mk hu
  have HO2 := Sh.mk ho
  clear hA hv hu ho
  go_wp2_with fail
  refine (rByte_call r B d us w3 (HR.out.below HB3.out) x).mono ?_
  rintro e w4 ⟨he, hb⟩
  obtain rfl := rNum_val he
  have HB4 := Sh.mk (below_of HB3.out hb)
  clear hb
  rw [← HU2.out, ← HO2.out]
  go_wp2_with fail
  rw [HV1.out]
  refine (num_any E w4 (HE.out.below HB4.out) o1 HA1.out).mono ?_
  rintro e wn ⟨rfl, rfl⟩
  go_wp2_with fail
  rw [HV2.out]
  refine (num_any E w4 (HE.out.below HB4.out) o2 HA2.out).mono ?_
  rintro e wn ⟨rfl, rfl⟩
  go_wp2_with fail
  refine (wide_call E b A c us w4 ((HE.out.below HB4.out).sub (by decide)) (HM.out.below HB4.out) x).mono ?_
  rintro e w5 ⟨he, hb⟩
  obtain rfl := numPost_val he
  have HB5 := Sh.mk (below_of HB4.out hb)
  clear hb
  obtain ⟨u3, hu⟩ : ∃ u, u = ((keyB us x).map (fun j => (plA us j).2.1)).getD 0 := ⟨_, rfl⟩
  obtain ⟨o3, ho⟩ : ∃ o, o = oOf ((keyB us x).map (fun j => (plA us j).2.1)) := ⟨_, rfl⟩
  have hA := oOf_all ((keyB us x).map (fun j => (plA us j).2.1))
  rw [← hu, ← ho]
  rw [← ho] at hA
  obtain ⟨v3, hv⟩ : ∃ v, v = errV E o3 := ⟨_, rfl⟩
  rw [← hv]
  have HA3 := Sh.mk hA
  have HV3 := Sh.mk hv
  have HU3 := Sh.mk hu
  have HO3 := Sh.mk ho
  clear hA hv hu ho
  go_wp2_with fail
  refine (rWide_call r B d us w5 (HR.out.below HB5.out) x).mono ?_
  rintro e w6 ⟨he, hb⟩
  obtain rfl := rNum_val he
  have HB6 := Sh.mk (below_of HB5.out hb)
  clear hb
  rw [← HU3.out, ← HO3.out]
  go_wp2_with fail
  refine (narrow_call E b A c us w6 ((HE.out.below HB6.out).sub (by decide)) (HM.out.below HB6.out) x).mono ?_
  rintro e w7 ⟨he, hb⟩
  obtain rfl := numPost_val he
  have HB7 := Sh.mk (below_of HB6.out hb)
  clear hb
  obtain ⟨u4, hu⟩ : ∃ u, u = ((keyW us x).map (fun j => (plA us j).1)).getD 0 := ⟨_, rfl⟩
  obtain ⟨o4, ho⟩ : ∃ o, o = oOf ((keyW us x).map (fun j => (plA us j).1)) := ⟨_, rfl⟩
  have hA := oOf_all ((keyW us x).map (fun j => (plA us j).1))
  rw [← hu, ← ho]
  rw [← ho] at hA
  obtain ⟨v4, hv⟩ : ∃ v, v = errV E o4 := ⟨_, rfl⟩
  rw [← hv]
  have HA4 := Sh.mk hA
  have HV4 := Sh.mk hv
  have HU4 := Sh.mk hu
  have HO4 := Sh.mk ho
  clear hA hv hu ho
  go_wp2_with fail
  refine (rNarrow_call r B d us w7 (HR.out.below HB7.out) x).mono ?_
  rintro e w8 ⟨he, hb⟩
  obtain rfl := rNum_val he
  have HB8 := Sh.mk (below_of HB7.out hb)
  clear hb
  rw [← HU4.out, ← HO4.out]
  go_wp2_with fail
  rw [HV3.out]
  refine (num_any E w8 (HE.out.below HB8.out) o3 HA3.out).mono ?_
  rintro e wn ⟨rfl, rfl⟩
  go_wp2_with fail
  rw [HV4.out]
  refine (num_any E w8 (HE.out.below HB8.out) o4 HA4.out).mono ?_
  rintro e wn ⟨rfl, rfl⟩
  go_wp2_with fail
  refine (line_call E b A c us w8 ((HE.out.below HB8.out).sub (by decide)) (HM.out.below HB8.out) x).mono ?_
  rintro e w9 ⟨he, hb⟩
  obtain rfl := linePost_val he
  have HB9 := Sh.mk (below_of HB8.out hb)
  clear hb
  obtain ⟨⟨l5, k5⟩, hu⟩ : ∃ u, u = ((keyB us x).map (fun j => (plA us j).2.2)).getD (0, 0) := ⟨_, rfl⟩
  obtain ⟨o5, ho⟩ : ∃ o, o = oOf ((keyB us x).map (fun j => (plA us j).2.2)) := ⟨_, rfl⟩
  have hA := oOf_all ((keyB us x).map (fun j => (plA us j).2.2))
  rw [← hu, ← ho]
  rw [← ho] at hA
  obtain ⟨v5, hv⟩ : ∃ v, v = errV E o5 := ⟨_, rfl⟩
  rw [← hv]
  have HA5 := Sh.mk hA
  have HV5 := Sh.mk hv
  have HU5 := Sh.mk hu
  have HO5 := Sh.mk ho
  clear hA hv hu ho
  go_wp2_with fail
  refine (rLine_call r B d us w9 (HR.out.below HB9.out) x).mono ?_
  rintro e w10 ⟨he, hb⟩
  obtain rfl := rLine_val he
  have HB10 := Sh.mk (below_of HB9.out hb)
  clear hb
  rw [← HU5.out, ← HO5.out]
  go_wp2_with fail
  refine (at_call E b A c us w10 ((HE.out.below HB10.out).sub (by decide)) (HM.out.below HB10.out) x y).mono ?_
  rintro e w11 ⟨he, hb⟩
  obtain rfl := numPost_val he
  have HB11 := Sh.mk (below_of HB10.out hb)
  clear hb
  obtain ⟨u6, hu⟩ : ∃ u, u = ((keyL us x y).map (fun j => (plA us j).1)).getD 0 := ⟨_, rfl⟩
  obtain ⟨o6, ho⟩ : ∃ o, o = oOf ((keyL us x y).map (fun j => (plA us j).1)) := ⟨_, rfl⟩
  have hA := oOf_all ((keyL us x y).map (fun j => (plA us j).1))
  rw [← hu, ← ho]
  rw [← ho] at hA
  obtain ⟨v6, hv⟩ : ∃ v, v = errV E o6 := ⟨_, rfl⟩
  rw [← hv]
  have HA6 := Sh.mk hA
  have HV6 := Sh.mk hv
  have HU6 := Sh.mk hu
  have HO6 := Sh.mk ho
  clear hA hv hu ho
  go_wp2_with fail
  refine (rAt_call r B d us w11 (HR.out.below HB11.out) x y).mono ?_
  rintro e w12 ⟨he, hb⟩
  obtain rfl := rNum_val he
  have HB12 := Sh.mk (below_of HB11.out hb)
  clear hb
  rw [← HU6.out, ← HO6.out]
  go_wp2_with fail
  rw [HV5.out]
  refine (num_any E w12 (HE.out.below HB12.out) o5 HA5.out).mono ?_
  rintro e wn ⟨rfl, rfl⟩
  go_wp2_with fail
  rw [HV6.out]
  refine (num_any E w12 (HE.out.below HB12.out) o6 HA6.out).mono ?_
  rintro e wn ⟨rfl, rfl⟩
  go_wp2
  go_ret
  exact ⟨rfl, HB12.out⟩
end Go.Proofs.YtbpadakcjnkjeaaDoor
/- The walk of caesuralaw26.OffsetsPlay: of every text its counts, and what all numbers near its length, and any, are. Conditions: a text of at most 2^20 bytes; the table and the refusals read as listed. -/
namespace Go.Proofs.YtbpadakcjnkjeaaDoor
open Go Go.RowKit Go.Proofs.YtbpadakcjnkjeaaDoorW.PrintWords Go.Proofs.YtbpadakcjnkjeaaDoorW.PrintLast Go.Proofs.YtbpadakcjnkjeaaDoorW.PrintMore
set_option maxRecDepth 100000
set_option linter.unusedSimpArgs false
abbrev AkT : TypeId := 41
/-- What lies in memory. -/
structure OS (w W : World) (g : Nat) (cs : Array Value) (b r : Nat) (A B : Option Addr) (c d : Nat) (us : List Un) : Prop where
  bel : Below w.heap.size w W
  box : W.heap[g]? = some (.cells cs AkT (0, 0))
  m : MapU W b A c us
  r : RMapU W r B d us
theorem OS.below {w W W1 : World} {g : Nat} {cs : Array Value} {b r : Nat} {A B : Option Addr} {c d : Nat} {us : List Un} (h : OS w W g cs b r A B c d us) (hb : Below W.heap.size W W1) : OS w W1 g cs b r A B c d us := ⟨below_of h.bel hb, blk_below h.box hb, h.m.below hb, h.r.below hb⟩
theorem MapAt.open {w : World} {Bs b : Nat} {v : Value} {us : List Un} (h : MapAt w Bs b v (plL us (us.length + 1))) (hc : Chained us 0) (hs : us.length ≤ 1000000000) : ∃ A c, v = .slice A (us.length + 1) c ∧ MapU w b A c us := by
  obtain ⟨A, c, rfl, _, hC⟩ := R_open h.row (us.length + 1) (plL_len _ _)
  exact ⟨A, c, rfl, ⟨h.blk, hC, hc, hs⟩⟩
theorem RMapAt.open {w : World} {Bs b : Nat} {v : Value} {us : List Un} (h : RMapAt w Bs b v (rpL us (us.length + 1))) (hs : us.length ≤ 1000000000) : ∃ A c, v = .slice A (us.length + 1) c ∧ RMapU w b A c us := by
  obtain ⟨A, c, rfl, _, hC⟩ := R_open h.row (us.length + 1) (rpL_len _ _)
  exact ⟨A, c, rfl, ⟨h.blk, hC, hs⟩⟩
set_option maxHeartbeats 16000000 in
set_option maxRecDepth 100000 in
theorem offPlay_any (E : Nat → Addr) (T : ByteArray) (x y : Int) (w : World) (hE : GS allS E w) (hf : FormsAt w) (hs : T.size ≤ 1048576) (hx : -9223372036854775808 ≤ x ∧ x ≤ 9223372036854775807) (hy : -9223372036854775808 ≤ y ∧ y ≤ 9223372036854775807) :
    Calls Tryd.prog 4 #[.agg #[.string T, .int .i64 x, .int .i64 y]] w fun e w' => e = .returned (.bool true) ∧ Below w.heap.size w w' := by
  have hne : ∀ z : Int, (z != z) = false := fun z => by simp
  have HE := Sh.mk hE
  have HF := Sh.mk hf
  have HXx := Sh.mk hx
  have HYy := Sh.mk hy
  have HCh := Sh.mk (chained_units T T.size 0)
  have hul := unitsFrom_len T T.size 0
  obtain ⟨us, hus⟩ : ∃ us, us = unitsFrom T T.size 0 := ⟨_, rfl⟩
  have HU := Sh.mk hus
  rw [← hus] at hul HCh
  obtain ⟨W0, hW0⟩ : ∃ W0, W0 = w.alloc (.cells #[.string T, .int .i64 x, .int .i64 y] AkT) := ⟨_, rfl⟩
  obtain ⟨g, hg⟩ : ∃ g, g = w.heap.size := ⟨_, rfl⟩
  have HX0 := Sh.mk (show W0.heap[g]? = some (.cells #[.string T, .int .i64 x, .int .i64 y] AkT (0, 0)) by rw [hW0, hg]; exact blk_new _ _)
  have HB0 := Sh.mk (show Below w.heap.size w W0 by rw [hW0]; exact (Below.refl _ _).alloc (Nat.le_refl _) _)
  have HW := Sh.mk hW0
  have HG := Sh.mk hg
  clear hus hW0 hg hE hf hx hy
  go_enter Tryd.func4, Tryd.ntmps4
  go_wp2_with fail
  rw [← HW.out, ← HG.out]
  clear HW
  have z0 := blk_cell HX0.out 0
  simp only [List.getElem?_toArray, List.getElem?_cons_zero, List.getElem?_cons_succ] at z0
  go_wp2_with fail
  refine (offNew_any T W0 (HF.out.below HB0.out) (by omega)).mono ?_
  rintro e w1 ⟨b, v, rfl, hbb, hm, hb⟩
  rw [← HU.out] at hm
  obtain ⟨A, c, rfl, hmu⟩ := hm.open HCh.out (by omega)
  have HM1 := Sh.mk hmu
  have HX1 := Sh.mk (blk_below HX0.out hb)
  have HB1 := Sh.mk (below_of HB0.out hb)
  clear hm hmu hb HX0 HB0 z0 hbb
  have z0 := blk_cell HX1.out 0
  simp only [List.getElem?_toArray, List.getElem?_cons_zero, List.getElem?_cons_succ] at z0
  go_wp2_with fail
  refine (refNew_any T w1 (by omega)).mono ?_
  rintro e w2 ⟨r, v, rfl, hbb, hm, hb⟩
  rw [← HU.out] at hm
  obtain ⟨B, d, rfl, hru⟩ := hm.open (by omega)
  have HS2 := Sh.mk (show OS w w2 g #[.string T, .int .i64 x, .int .i64 y] b r A B c d us from ⟨below_of HB1.out hb, blk_below HX1.out hb, HM1.out.below hb, hru⟩)
  clear hm hru hb HX1 HB1 HM1 z0 hbb
  go_wp2_with fail
  refine (count_any b A c us w2 HS2.out.m).mono ?_
  rintro e w3 ⟨rfl, hb⟩
  have HS3 := Sh.mk (HS2.out.below hb)
  clear hb HS2
  go_wp2_with fail
  refine (rCount_any r B d us w3 HS3.out.r).mono ?_
  rintro e w4 ⟨rfl, hb⟩
  have HS4 := Sh.mk (HS3.out.below hb)
  clear hb HS3
  go_wp2
  go_loopw [13, 14, 15] (fun i _ _ wr => ∃ (k : Int), -2 ≤ k ∧ k ≤ 1048700 ∧ i = .int .i64 k ∧ Sh (OS w wr g #[.string T, .int .i64 x, .int .i64 y] b r A B c d us)) (fun i _ _ _ => (1048710 - intOf i).toNat)
  case atStart => exact ⟨-2, by omega, by omega, rfl, HS4⟩
  case round =>
    obtain ⟨k, hk0, hk1, rfl, HS⟩ := hrel
    have z0 := blk_cell HS.out.box 0
    have z1 := blk_cell HS.out.box 1
    have z2 := blk_cell HS.out.box 2
    simp only [List.getElem?_toArray, List.getElem?_cons_zero, List.getElem?_cons_succ] at z0 z1 z2
    by_cases hin : k ≤ T.size + 2 ∧ k < 300
    · have hd1 : decide (k ≤ (T.size : Int) + 2) = true := decide_eq_true hin.1
      have hd2 : decide (k < 300) = true := decide_eq_true hin.2
      have hk3 : k < 300 := hin.2
      clear hin
      go_wp2
      go_loopw [14, 15] (fun j _ wx => ∃ (q : Nat), q ≤ 3 ∧ j = .int .i64 q ∧ Sh (OS w wx g #[.string T, .int .i64 x, .int .i64 y] b r A B c d us)) (fun j _ _ => 3 - (intOf j).toNat)
      case atStart => exact ⟨0, by omega, rfl, HS⟩
      case round =>
        obtain ⟨q, hq, rfl, HSq⟩ := hrel
        by_cases hlt : q < 3
        · clear z0 z1 z2
          have z0 := blk_cell HSq.out.box 0
          have z1 := blk_cell HSq.out.box 1
          have z2 := blk_cell HSq.out.box 2
          simp only [List.getElem?_toArray, List.getElem?_cons_zero, List.getElem?_cons_succ] at z0 z1 z2
          obtain ⟨p, hp⟩ : ∃ p, p = y % ((T.size + 3 : Nat) : Int) := ⟨_, rfl⟩
          have hp0 : 0 ≤ p := by rw [hp]; exact Int.emod_nonneg _ (by omega)
          have hp1 : p < T.size + 3 := by rw [hp]; have := Int.emod_lt_of_pos y (show (0 : Int) < ((T.size + 3 : Nat) : Int) by omega); omega
          have hpk := pick_any y (T.size + 3) wr (by omega) (by omega)
          rw [← hp, Int.natCast_add] at hpk
          have HPk := Sh.mk hpk
          clear hp hpk
          go_wp2_with fail
          refine HPk.out.mono ?_
          rintro e wn ⟨rfl, rfl⟩
          clear HPk
          go_wp2_with fail
          refine (ask_any E b r A B c d us k _ wr (HE.out.below HSq.out.bel) HSq.out.m HSq.out.r (by omega)).mono ?_
          rintro e wn ⟨rfl, hb⟩
          have HS5 := Sh.mk (HSq.out.below hb)
          clear hb z0 z1 z2
          go_wp2
          go_roundw
          case rel => exact ⟨q + 1, by omega, by go_num, HS5⟩
          case measure => simp [intOf]; omega
        · obtain rfl : q = 3 := by omega
          go_wp2
          go_roundw
          case rel => exact ⟨k + 1, by omega, by omega, by go_num, HSq⟩
          case measure => simp [intOf]; omega
    · have hfin : ∀ (u v : Int), True := fun _ _ => trivial
      clear hfin
      have hd : decide (k ≤ (T.size : Int) + 2) = false ∨ (decide (k ≤ (T.size : Int) + 2) = true ∧ decide (k < 300) = false) := by
        by_cases h1 : k ≤ (T.size : Int) + 2
        · exact .inr ⟨decide_eq_true h1, decide_eq_false (fun h2 => hin ⟨h1, h2⟩)⟩
        · exact .inl (decide_eq_false h1)
      clear hin
      rcases hd with hd1 | ⟨hd1, hd2⟩
      all_goals
        go_wp2_with fail
        refine (ask_any E b r A B c d us x y wr (HE.out.below HS.out.bel) HS.out.m HS.out.r HXx.out).mono ?_
        rintro e wn ⟨rfl, hb⟩
        have HS5 := Sh.mk (HS.out.below hb)
        clear hb z0 z1 z2
        have z1 := blk_cell HS5.out.box 1
        have z2 := blk_cell HS5.out.box 2
        simp only [List.getElem?_toArray, List.getElem?_cons_zero, List.getElem?_cons_succ] at z1 z2
        go_wp2_with fail
        refine (ask_any E b r A B c d us y x wn (HE.out.below HS5.out.bel) HS5.out.m HS5.out.r HYy.out).mono ?_
        rintro e wm ⟨rfl, hb⟩
        have HS6 := Sh.mk (HS5.out.below hb)
        clear hb
        go_wp2
        go_ret
        exact ⟨rfl, HS6.out.bel⟩
end Go.Proofs.YtbpadakcjnkjeaaDoor
