/-
caesuraref0.SameBytes over equal lists; caesuralaw1.apart: a writer's bytes, twice, and neither list touches the other. Conditions: the length is within Go's bound.
-/
import Derived.Test.YtlhnajgckdeedaaDoorOg
import Derived.Test.YtlhnajgckdeedaaDoorVlaw
import Derived.Deep.QuietTactic
import Derived.BigQuiet
namespace Go.Proofs.YtlhnajgckdeedaaDoor
open Go Go.RowKit Go.Proofs.YtlhnajgckdeedaaDoorW.PrintWords Go.Proofs.YtlhnajgckdeedaaDoorW.PrintLast Go.Proofs.YtlhnajgckdeedaaDoorW.PrintMore
theorem cell_lt {w : World} {a : Addr} {v : Value} (h : w.cell? a = some v) : a.block < w.heap.size := World.block_lt_of_cell? w a h
theorem C_grown {w w1 : World} {A : Option Addr} {n : Nat} {xs : List Int} {r : Option Nat} (h : (Kd.int .u8).C w A n xs) (hg : w.grownBy w1 r) (hr : ∀ ad, A = some ad → some ad.block ≠ r) : (Kd.int .u8).C w1 A n xs := by
  obtain ⟨h1, h2, h3⟩ := readsInt_of.2 (Kd.reads_of_C (h1 := fun _ => rfl) h)
  refine Kd.C_of_reads (h1 := fun _ => rfl) (readsInt_of.1 ⟨h1, h2, fun hn => ?_⟩)
  obtain ⟨ad, e, hc⟩ := h3 hn
  refine ⟨ad, e, fun j hj => ?_⟩
  have hcj := hc j hj
  have hb := add_block ad j
  have hlt := cell_lt hcj
  rw [hb] at hlt
  rw [World.cell?_of_block (hg.block (ad.add j).block (by rw [hb]; exact hlt) (by rw [hb]; exact hr ad e))]
  exact hcj
set_option maxHeartbeats 1000000 in
set_option maxRecDepth 100000 in
theorem sameBytes_any (A B : Option Addr) (c d n : Nat) (xs : List Int) (w : World) (h1 : (Kd.int .u8).C w A n xs) (h2 : (Kd.int .u8).C w B n xs) :
    Calls Tryd.prog 47 #[.slice A n c, .slice B n d] w fun e w' => e = .returned (.bool true) ∧ Drawn0 w w' := by
  have HA := Sh.mk h1
  have HB := Sh.mk h2
  have hl := C_len h1
  clear h1 h2
  go_enter Tryd.func47, Tryd.ntmps47
  go_wp2
  go_loopw [5] (fun i wr => ∃ k : Nat, k ≤ n ∧ i = .int .i64 k ∧ Drawn0 w wr) (fun i _ => n - (intOf i).toNat)
  case atStart => exact ⟨0, by omega, rfl, Drawn0.refl _⟩
  case round =>
    obtain ⟨k, hk, rfl, ⟨m, rfl⟩⟩ := hrel
    by_cases hlt : k < n
    · obtain ⟨ad, e1, hx⟩ := C_at HA.out k hlt
      cases e1
      obtain ⟨ad2, e2, hy⟩ := C_at HB.out k hlt
      cases e2
      have hss : (rd xs (k : Int) != rd xs (k : Int)) = false := by simp
      go_wp2
      go_quiet (fail)
      go_wp2
      go_roundw
      case rel => exact ⟨k + 1, by omega, by go_num, ⟨⟨_, rfl⟩⟩⟩
      case measure => simp [intOf]; omega
    · obtain rfl : k = n := by omega
      go_wp2
      go_ret
      exact ⟨rfl, ⟨_, rfl⟩⟩
theorem grown_up {w w1 w2 : World} {r r2 : Option Nat} (h : w.grownBy w1 r) (k : w1.grownBy w2 r2) (hr : ∀ i, r2 = some i → i < w.heap.size → r = some i) : w.grownBy w2 r :=
  ⟨k.os.trans h.os, k.tape.trans h.tape, k.output.trans h.output, Nat.le_trans h.size k.size, fun i hi hir => (k.block i (by have := h.size; omega) (fun e => hir (hr i e.symm hi).symm)).trans (h.block i hi hir)⟩
theorem gr_below {w w1 : World} (h : Below w.heap.size w w1) : w.grownBy w1 none := ⟨h.os, h.tape, h.output, h.size, fun i hi _ => h.block i hi⟩
theorem Wr.grown {w w1 : World} {b : Nat} {v : Value} {l : List UInt8} {r : Option Nat} (h : Wr w 0 b v l) (hg : w.grownBy w1 r) (h1 : r ≠ some b) (h2 : ∀ g, v.ownBlock = some g → r ≠ some g) : Wr w1 0 b v l :=
  h.kept (hg.block b h.lt (fun e => h1 e.symm)) (fun g e => hg.block g (h.own.lt g e).2 (fun e2 => h2 g e e2.symm))
theorem Og.grown {w w1 : World} {g cap : Nat} {xs : List Int} {r : Option Nat} (h : Og w g cap xs) (hg : w.grownBy w1 r) (h1 : r ≠ some g) : Og w1 g cap xs := h.kept (hg.block g h.lt (fun e => h1 e.symm))
set_option maxHeartbeats 4000000 in
set_option maxRecDepth 100000 in
theorem apart_any (b : Nat) (v : Value) (l : List UInt8) (A : Option Addr) (c n : Nat) (w : World) (h : Wr w 0 b v l) (hn : l.length = n) (hC : (Kd.int .u8).C w A n (ints l)) (hA : ∀ ad, A = some ad → ad.block < w.heap.size ∧ some ad.block ≠ v.ownBlock) (hl : n + 64 ≤ 140737488355328) :
    Calls Tryd.prog 41 #[.pointer (some ⟨b, 0, none⟩), .slice A n c] w fun e w' => e = .returned (.bool true) ∧ Wr w' 0 b v l ∧ w.grownBy w' v.ownBlock := by
  subst hn
  have HC := Sh.mk hC
  have HA := Sh.mk hA
  have HW := Sh.mk h
  have hvl : ∀ g, v.ownBlock = some g → g < w.heap.size := fun g e => (h.own.lt g e).2
  have HV := Sh.mk hvl
  have hbl := h.lt
  have hil : (ints l).length = l.length := ints_len l
  have HI := Sh.mk hil
  clear hC hA h hvl hil
  go_enter Tryd.func41, Tryd.ntmps41
  go_wp2_with fail
  refine (wbytes_og b v l w HW.out (by omega)).mono ?_
  rintro e w1 ⟨⟨p, cp, rfl, hp, hop⟩, hw1, hg1⟩
  have HP1 := Sh.mk (show Og w1 p cp (ints l) from hop)
  have HW1 := Sh.mk hw1
  have HG1 := Sh.mk hg1
  clear hop hw1 hg1
  go_wp2_with fail
  refine (wbytes_og b v l w1 HW1.out (by omega)).mono ?_
  rintro e w2 ⟨⟨q, cq, rfl, hq, hoq⟩, hw2, hg2⟩
  have hpl := HP1.out.lt
  have hs1 := HG1.out.size
  have hvp : ∀ g, v.ownBlock = some g → g < p := fun g e => by have := HV.out g e; omega
  have HQ2 := Sh.mk (show Og w2 q cq (ints l) from hoq)
  have HP2 := Sh.mk (HP1.out.grown hg2 (fun e => by have := hvp p e; omega))
  have HW2 := Sh.mk hw2
  have HG2 := Sh.mk (grown_up HG1.out hg2 (fun i e _ => e))
  have HVP := Sh.mk hvp
  clear hoq hw2 hg2 HP1 HW1 HG1 hvp
  have HC2 := Sh.mk (C_grown HC.out HG2.out (fun ad e => (HA.out ad e).2))
  go_wp2_with fail
  refine (sameBytes_any (some ⟨p, 0, none⟩) A cp c l.length (ints l) w2 (by rw [← HI.out]; exact HP2.out.C) HC2.out).mono ?_
  rintro e w3 ⟨rfl, hd3⟩
  have HD3 := Sh.mk hd3
  clear hd3
  go_wp2_with fail
  refine (sameBytes_any (some ⟨q, 0, none⟩) A cq c l.length (ints l) w3 (by rw [← HI.out]; exact (HQ2.out.below HD3.out.below).C) (Kd.C_below HC2.out HD3.out.below)).mono ?_
  rintro e w4 ⟨rfl, hd4⟩
  have hd24 : Below w2.heap.size w2 w4 := (HD3.out.below).trans (hd4.below.mono HD3.out.below.size)
  have HQ4 := Sh.mk (HQ2.out.below hd24)
  have HP4 := Sh.mk (HP2.out.below hd24)
  have HW4 := Sh.mk (HW2.out.below hd24)
  have HC4 := Sh.mk (Kd.C_below HC2.out hd24)
  have HG4 := Sh.mk (grown_up HG2.out (gr_below hd24) (fun i e _ => by cases e))
  have hql : q < w4.heap.size := HQ4.out.lt
  have hpq : p < q := by omega
  have hwp : w.heap.size ≤ w4.heap.size := HG4.out.size
  clear hd24 hd4 HD3 HC2 HQ2 HP2 HW2 HG2
  go_wp2_with fail
  refine (fill_any p cp l.length (ints l) 99 w4 HP4.out HI.out hl).mono ?_
  rintro e w5 ⟨⟨p5, cp5, rfl, ho5, hh5⟩, hg5⟩
  have HP5 := Sh.mk ho5
  have hp5 : p5 ≠ q := by omega
  have HQ5 := Sh.mk (HQ4.out.grown hg5 (fun e => by have := Option.some.inj e; omega))
  have HW5 := Sh.mk (HW4.out.grown hg5 (fun e => by have := Option.some.inj e; omega) (fun g e e2 => by have := Option.some.inj e2; have := HVP.out g e; omega))
  have HC5 := Sh.mk (C_grown HC4.out hg5 (fun ad e e2 => by have := Option.some.inj e2; have := (HA.out ad e).1; omega))
  have HG5 := Sh.mk (grown_up HG4.out hg5 (fun i e hi => by have := Option.some.inj e; omega))
  have hs5 : w4.heap.size ≤ w5.heap.size := hg5.size
  clear ho5 hh5 hg5 HP4 HQ4 HW4 HC4 HG4
  go_wp2_with fail
  refine (sameBytes_any (some ⟨q, 0, none⟩) A cq c l.length (ints l) w5 (by rw [← HI.out]; exact HQ5.out.C) HC5.out).mono ?_
  rintro e w6 ⟨rfl, hd6⟩
  have HP6 := Sh.mk (HP5.out.below hd6.below)
  have HQ6 := Sh.mk (HQ5.out.below hd6.below)
  have HW6 := Sh.mk (HW5.out.below hd6.below)
  have HG6 := Sh.mk (grown_up HG5.out (gr_below hd6.below) (fun i e _ => by cases e))
  have hs6 : w5.heap.size ≤ w6.heap.size := hd6.below.size
  clear hd6 HP5 HQ5 HW5 HC5 HG5
  go_wp2_with fail
  refine (fill_any q cq l.length (ints l) 98 w6 HQ6.out HI.out hl).mono ?_
  rintro e w7 ⟨⟨q7, cq7, rfl, ho7, hh7⟩, hg7⟩
  have HQ7 := Sh.mk ho7
  have HP7 := Sh.mk (HP6.out.grown hg7 (fun e => by have := Option.some.inj e; omega))
  have HW7 := Sh.mk (HW6.out.grown hg7 (fun e => by have := Option.some.inj e; omega) (fun g e e2 => by have := Option.some.inj e2; have := HVP.out g e; omega))
  have HG7 := Sh.mk (grown_up HG6.out hg7 (fun i e hi => by have := Option.some.inj e; omega))
  clear ho7 hh7 hg7 HP6 HQ6 HW6 HG6
  go_wp2_with fail
  refine (full_any (some ⟨p5, 0, none⟩) cp5 (l.length + 64) 99 w7 (by have := HP7.out.C; rw [List.length_replicate] at this; exact this)).mono ?_
  rintro e w8 ⟨rfl, rfl⟩
  go_wp2_with fail
  refine (full_any (some ⟨q7, 0, none⟩) cq7 (l.length + 64) 98 w7 (by have := HQ7.out.C; rw [List.length_replicate] at this; exact this)).mono ?_
  rintro e w8 ⟨rfl, rfl⟩
  go_wp2
  go_ret
  exact ⟨rfl, HW7.out, HG7.out⟩
end Go.Proofs.YtlhnajgckdeedaaDoor
