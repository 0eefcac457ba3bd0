/-
Several texts as one: OffRef, OffRefW, OffRefC, OffRefD, OffCount.
-/
import Derived.Test.YtbpadakcjnkjeaaDoorRefSplit
import Derived.Test.YtbpadakcjnkjeaaDoorOffA
/- caesuraref26.New, walked. Conditions: the text's size. -/
namespace Go.Proofs.YtbpadakcjnkjeaaDoor
open Go Go.RowKit Go.Proofs.YtbpadakcjnkjeaaDoorW.PrintWords Go.Proofs.YtbpadakcjnkjeaaDoorW.PrintLast Go.Proofs.YtbpadakcjnkjeaaDoorW.PrintMore
set_option maxRecDepth 100000
set_option linter.unusedSimpArgs false
abbrev Rp : Type := Int × Int × Int × Int × Int
abbrev RpT : TypeId := 63
abbrev RmT : TypeId := 66
abbrev rplK : Kd Rp := Kd.pair (Kd.int .i64) (Kd.pair (Kd.int .i64) (Kd.pair (Kd.int .i64) (Kd.pair (Kd.int .i64) (Kd.int .i64))))
def rpA (us : List Un) (k : Nat) : Rp := ((plA us k).1, (k : Int), (plA us k).2.1, (plA us k).2.2.1, (plA us k).2.2.2)
def rpL (us : List Un) (k : Nat) : List Rp := (List.range k).map (rpA us)
theorem rpL_len (us : List Un) (k : Nat) : (rpL us k).length = k := by simp [rpL]
theorem rpL_succ (us : List Un) (k : Nat) : rpL us (k + 1) = rpL us k ++ [rpA us k] := by simp [rpL, List.range_succ]
theorem rpL_get (us : List Un) (n k : Nat) (h : k < n) : (rpL us n)[k]? = some (rpA us k) := by simp [rpL, h]
theorem info_rp : (Tryd.prog.info? RpT).map (fun i => (i.zero, i.size, i.bytes)) = some (some (.agg #[.int .i64 0, .int .i64 0, .int .i64 0, .int .i64 0, .int .i64 0]), 5, 40) := by kernel_rfl
theorem rp_M (w : World) (base : Nat) (ok : Nat → Prop) (x : Rp) : rplK.M w base ok x [.int .i64 x.1, .int .i64 x.2.1, .int .i64 x.2.2.1, .int .i64 x.2.2.2.1, .int .i64 x.2.2.2.2] :=
  ⟨[.int .i64 x.1], [.int .i64 x.2.1, .int .i64 x.2.2.1, .int .i64 x.2.2.2.1, .int .i64 x.2.2.2.2], rfl, rfl, [.int .i64 x.2.1], [.int .i64 x.2.2.1, .int .i64 x.2.2.2.1, .int .i64 x.2.2.2.2], rfl, rfl, [.int .i64 x.2.2.1], [.int .i64 x.2.2.2.1, .int .i64 x.2.2.2.2], rfl, rfl, [.int .i64 x.2.2.2.1], [.int .i64 x.2.2.2.2], rfl, rfl, rfl⟩
/-- The document's map in memory. -/
structure RMapAt (w : World) (B b : Nat) (v : Value) (ps : List Rp) : Prop where
  blk : w.heap[b]? = some (.cells #[v] RmT (0, 0))
  row : Kd.R rplK RpT w B (fun _ => True) v ps
theorem RMapAt.cell {w : World} {B b : Nat} {v : Value} {ps : List Rp} (h : RMapAt w B b v ps) : w.cell? ⟨b, 0, none⟩ = some v := (blk_cell h.blk 0).trans rfl
theorem RMapAt.lt {w : World} {B b : Nat} {v : Value} {ps : List Rp} (h : RMapAt w B b v ps) : b < w.heap.size := blk_lt h.blk
theorem RMapAt.below {w w1 : World} {B b : Nat} {v : Value} {ps : List Rp} (h : RMapAt w B b v ps) (hb : Below w.heap.size w w1) : RMapAt w1 B b v ps := ⟨blk_below h.blk hb, Kd.R_below h.row hb⟩
theorem RMapAt.ne {w : World} {B b : Nat} {v : Value} {ps : List Rp} (h : RMapAt w B b v ps) : v.ownBlock ≠ some b := by
  obtain ⟨inner, ho⟩ := Kd.R_own h.row
  intro e
  obtain ⟨cells, hc⟩ := own_typed ho b e
  rw [h.blk] at hc
  simp only [Option.some.injEq, Obj.cells.injEq] at hc
  exact absurd hc.2.1 (by decide)
theorem RMapAt.base {w : World} {B b : Nat} {v : Value} {ps : List Rp} (h : RMapAt w B b v ps) (g : Nat) (hg : v.ownBlock = some g) : B ≤ g := by
  obtain ⟨inner, ho⟩ := Kd.R_own h.row
  exact own_base ho g hg
/-- A store of the row behind an append. -/
theorem RMapAt.put {w w1 : World} {B b : Nat} {v v1 : Value} {l l1 : List Rp} (h : RMapAt w B b v l) (hg : w.grownBy w1 v.ownBlock) (hr : Kd.R rplK RpT w1 B (fun _ => True) v1 l1) : RMapAt (w1.setCell ⟨b, 0, none⟩ v1) B b v1 l1 := by
  have hb1 : w1.heap[b]? = some (.cells #[v] RmT (0, 0)) := (hg.block b h.lt (fun e => h.ne e.symm)).trans h.blk
  refine ⟨?_, Kd.R_set hr hb1 (by intro q hq; simp [rplK, Kd.pair, Kd.int, Kd.scalar] at hq; subst hq; decide) 0 _⟩
  have := blk_set hb1 0 v1
  simpa using this
/-- A cell of a block that is not the row's is written. -/
theorem RMapAt.set {w : World} {B b : Nat} {v : Value} {l : List Rp} (h : RMapAt w B b v l) (pb j : Nat) (x : Value) (h1 : b ≠ pb) (h2 : pb < B) : RMapAt (w.setCell ⟨pb, j, none⟩ x) B b v l := by
  refine ⟨(Below.heap_setCell _ _ _ _ (fun e => h1 (by simpa using e))).trans h.blk, ?_⟩
  have ht : Kd.R rplK RpT w B (fun i => some i = v.ownBlock) v l := Kd.R_tight rfl h.row
  exact Kd.R_mono (Kd.R_step ht (fun i hi hlt => Below.heap_setCell _ _ _ _ (fun e => by have := h.base i hi.symm; simp at e; omega))) (fun _ _ => trivial)
/-- What lies in memory while the document's New goes along the units. -/
structure RNS (w : World) (pb mb : Nat) (v : Value) (ps : List Rp) (cs : Array Value) (A : Option Addr) (n c : Nat) (us : List Un) (W : World) : Prop where
  m : RMapAt W (pb + 1) mb v ps
  p : W.heap[pb]? = some (.cells cs RpT (0, 0))
  bel : Below w.heap.size w W
  row : Kd.R unitK 50 W 0 (fun i => i < pb) (.slice A n c) us
  hmb : pb + 1 ≤ mb
  hw : w.heap.size ≤ pb
section
variable {w : World} {pb mb : Nat} {v : Value} {ps : List Rp} {cs : Array Value} {A : Option Addr} {n c : Nat} {us : List Un} {W W1 : World}
theorem RNS.below (h : RNS w pb mb v ps cs A n c us W) (hb : Below W.heap.size W W1) : RNS w pb mb v ps cs A n c us W1 :=
  ⟨h.m.below hb, blk_below h.p hb, below_of h.bel hb, Kd.R_below h.row hb, h.hmb, h.hw⟩
theorem RNS.setp (h : RNS w pb mb v ps cs A n c us W) (i : Nat) (x : Value) : RNS w pb mb v ps (cs.setIfInBounds i x) A n c us (W.setCell ⟨pb, i, none⟩ x) :=
  ⟨h.m.set pb i x (by have := h.hmb; omega) (by omega), blk_set h.p i x, h.bel.setCell (p := ⟨pb, i, none⟩) h.hw _, Kd.R_step h.row (fun k hk _ => Below.heap_setCell _ _ _ _ (fun e => by simp at e; omega)), h.hmb, h.hw⟩
theorem RNS.app (h : RNS w pb mb v ps cs A n c us W) {v1 : Value} {ps1 : List Rp} (hg : W.grownBy W1 v.ownBlock) (hr : Kd.R rplK RpT W1 (pb + 1) (fun _ => True) v1 ps1) : RNS w pb mb v1 ps1 cs A n c us (W1.setCell ⟨mb, 0, none⟩ v1) := by
  have hbase : ∀ g, v.ownBlock = some g → pb + 1 ≤ g := h.m.base
  have hpW : pb < W.heap.size := blk_lt h.p
  have hmb := h.hmb
  have hk : ∀ k, k ≤ pb → (W1.setCell ⟨mb, 0, none⟩ v1).heap[k]? = W.heap[k]? := fun k hk => (Below.heap_setCell _ _ _ _ (fun e => by simp at e; omega)).trans (hg.block k (by omega) (fun e => by have := hbase k e.symm; omega))
  refine ⟨h.m.put hg hr, (hk pb (by omega)).trans h.p, ?_, Kd.R_step h.row (fun k ho _ => hk k (by omega)), hmb, h.hw⟩
  exact (h.bel.grown hg h.bel.size (fun g e => by have := hbase g e; have := h.hw; omega)).setCell (p := ⟨mb, 0, none⟩) (by have := h.hw; show w.heap.size ≤ mb; omega) _
theorem RNS.cells (h : RNS w pb mb v ps cs A n c us W) (i : Nat) : W.cell? ⟨pb, i, none⟩ = cs[i]? := blk_cell h.p i
end
theorem rp_reps1 (w : World) (base : Nat) (ok : Nat → Prop) (x : Rp) : Reps (rplK.M w base ok) 5 [x] [.int .i64 x.1, .int .i64 x.2.1, .int .i64 x.2.2.1, .int .i64 x.2.2.2.1, .int .i64 x.2.2.2.2] := by
  refine ⟨rfl, fun j p hj => ?_⟩
  match j, hj with
  | 0, hj => cases hj; exact rp_M w base ok x
theorem rp_lit (W : World) (base : Nat) (x : Rp) (hb : base ≤ W.heap.size) : Kd.R rplK RpT (W.alloc (.cells #[.int .i64 x.1, .int .i64 x.2.1, .int .i64 x.2.2.1, .int .i64 x.2.2.2.1, .int .i64 x.2.2.2.2] RpT)) base (fun _ => True) (.slice (some ⟨W.heap.size, 0, none⟩) 1 1) [x] :=
  ⟨fun _ _ => trivial, OwnRow.lit W base (rp_reps1 _ _ _ x) hb (by simp)⟩
end Go.Proofs.YtbpadakcjnkjeaaDoor
/- caesuraref26.New, walked: the places, counted in five ways. Conditions: the text's size. -/
namespace Go.Proofs.YtbpadakcjnkjeaaDoor
open Go Go.RowKit Go.Proofs.YtbpadakcjnkjeaaDoorW.PrintWords Go.Proofs.YtbpadakcjnkjeaaDoorW.PrintLast Go.Proofs.YtbpadakcjnkjeaaDoorW.PrintMore
set_option maxRecDepth 100000
set_option linter.unusedSimpArgs false
set_option maxHeartbeats 16000000 in
set_option maxRecDepth 100000 in
theorem refNew_any (s : ByteArray) (w : World) (hs : s.size ≤ 1000000000) :
    Calls Tryd.prog 14 #[.string s] w fun e w' => ∃ b v, e = .returned (.pointer (some ⟨b, 0, none⟩)) ∧ w.heap.size ≤ b ∧ RMapAt w' w.heap.size b v (rpL (unitsFrom s s.size 0) ((unitsFrom s s.size 0).length + 1)) ∧ Below w.heap.size w w' := by
  have hul := unitsFrom_len s s.size 0
  obtain ⟨us, hus⟩ : ∃ us, us = unitsFrom s s.size 0 := ⟨_, rfl⟩
  have HU := Sh.mk hus
  rw [← hus] at hul ⊢
  clear hus
  go_enter Tryd.func14, Tryd.ntmps14
  go_wp2_with fail
  refine (refSplit_any s w (by omega)).mono ?_
  rintro e w1 ⟨v, rfl, hr, hb1⟩
  rw [← HU.out] at hr
  obtain ⟨A, c, rfl, hc, hC⟩ := R_open hr us.length rfl
  obtain ⟨pb, hpb⟩ : ∃ pb, pb = w1.heap.size := ⟨_, rfl⟩
  obtain ⟨w2, hw2⟩ : ∃ w2, w2 = ((w1.alloc (.cells #[.int .i64 0, .int .i64 0, .int .i64 0, .int .i64 1, .int .i64 1] RpT)).alloc (.cells #[.int .i64 0, .int .i64 0, .int .i64 0, .int .i64 1, .int .i64 1] RpT)).alloc (.cells #[.slice (some ⟨pb + 1, 0, none⟩) 1 1] RmT) := ⟨_, rfl⟩
  have hsz1 : (w1.alloc (.cells #[.int .i64 0, .int .i64 0, .int .i64 0, .int .i64 1, .int .i64 1] RpT)).heap.size = pb + 1 := by rw [hpb]; simp
  have hsz2 : ((w1.alloc (.cells #[.int .i64 0, .int .i64 0, .int .i64 0, .int .i64 1, .int .i64 1] RpT)).alloc (.cells #[.int .i64 0, .int .i64 0, .int .i64 0, .int .i64 1, .int .i64 1] RpT)).heap.size = pb + 2 := by rw [World.size_alloc, hsz1]
  have hb2 : Below w1.heap.size w1 w2 := by rw [hw2]; exact (((Below.refl _ w1).alloc (Nat.le_refl _) _).alloc (by omega) _).alloc (by omega) _
  have hru : Kd.R unitK 50 w1 0 (fun i => i < pb) (.slice A us.length c) us := by
    obtain ⟨inner, ho⟩ := Kd.R_own hr
    have ht : Kd.R unitK 50 w1 w.heap.size (fun i => some i = (Value.slice A us.length c).ownBlock) (.slice A us.length c) us := Kd.R_tight rfl hr
    exact Kd.R_lower (Kd.R_mono ht (fun k hk => by rw [hpb]; exact own_lt ho k hk.symm)) (Nat.zero_le _)
  have HS2 := Sh.mk (show RNS w pb (pb + 2) (.slice (some ⟨pb + 1, 0, none⟩) 1 1) (rpL us (0 + 1)) #[.int .i64 (rpA us 0).1, .int .i64 (rpA us 0).2.1, .int .i64 (rpA us 0).2.2.1, .int .i64 (rpA us 0).2.2.2.1, .int .i64 (rpA us 0).2.2.2.2] A us.length c us w2 from
    ⟨⟨by rw [hw2, ← hsz2]; exact blk_new _ _, by
        have := rp_lit (w1.alloc (.cells #[.int .i64 0, .int .i64 0, .int .i64 0, .int .i64 1, .int .i64 1] RpT)) (pb + 1) (0, 0, 0, 1, 1) (by omega)
        rw [hsz1] at this
        rw [hw2]
        exact Kd.R_alloc this _⟩,
      by rw [hw2, hpb]; exact blk_alloc (blk_alloc (blk_new w1 _) _) _, below_of hb1 hb2, Kd.R_below hru hb2, by omega, by rw [hpb]; exact hb1.size⟩)
  have HW2 := Sh.mk hw2
  have HPB := Sh.mk hpb
  obtain ⟨mb, hmb⟩ : ∃ mb, mb = pb + 2 := ⟨_, rfl⟩
  have HMB := Sh.mk hmb
  rw [← hmb] at HS2
  clear hmb hr hC hpb hw2 hsz1 hsz2 hb1 hb2 hru
  go_wp2
  rw [← HPB.out]
  rw [← HW2.out]
  rw [show pb + 1 + 1 = mb by rw [HMB.out]]
  go_loopw [6] (fun i wr => ∃ (k : Nat) (v1 : Value), k ≤ us.length ∧ i = .int .i64 k ∧ Sh (RNS w pb mb v1 (rpL us (k + 1)) #[.int .i64 (rpA us k).1, .int .i64 (rpA us k).2.1, .int .i64 (rpA us k).2.2.1, .int .i64 (rpA us k).2.2.2.1, .int .i64 (rpA us k).2.2.2.2] A us.length c us wr)) (fun i _ => us.length - (intOf i).toNat)
  case atStart => exact ⟨0, _, by omega, rfl, HS2⟩
  case round =>
    obtain ⟨k, v1, hk, rfl, HS⟩ := hrel
    by_cases hlt : k < us.length
    · obtain ⟨ad, e1, y0, y1, y2⟩ := C_un (C_of_R HS.out.row rfl) k hlt
      cases e1
      have hpe0 : plA us (k + 1) = stepP (plA us k) (rdU us k) := plA_succ us k hlt
      have hrk : rpA us k = ((plA us k).1, (k : Int), (plA us k).2.1, (plA us k).2.2.1, (plA us k).2.2.2) := rfl
      obtain ⟨⟨pA, pW, pL, pC⟩, hpe⟩ : ∃ p : Pl, p = plA us k := ⟨_, rfl⟩
      obtain ⟨⟨uP, uA, uE⟩, hue⟩ : ∃ u : Un, u = rdU us k := ⟨_, rfl⟩
      rw [← hpe, ← hue] at hpe0
      have hbd := plA_bound us k hk
      rw [← hpe] at hbd hrk
      obtain ⟨⟨hW0, hW1⟩, ⟨hL0, hL1⟩, ⟨hC0, hC1⟩⟩ := hbd
      simp only [] at hW0 hW1 hL0 hL1 hC0 hC1 hrk
      rw [hrk] at HS
      rw [← hue] at y0 y1 y2
      simp only [] at y0 y1 y2 HS
      clear hue hrk
      have p0 := HS.out.cells 0
      have p1 := HS.out.cells 1
      have p2 := HS.out.cells 2
      have p3 := HS.out.cells 3
      have p4 := HS.out.cells 4
      have f0 := blk_frozen HS.out.p 0
      have f1 := blk_frozen HS.out.p 1
      have f2 := blk_frozen HS.out.p 2
      have f3 := blk_frozen HS.out.p 3
      have f4 := blk_frozen HS.out.p 4
      simp only [List.getElem?_toArray, List.getElem?_cons_zero, List.getElem?_cons_succ] at p0 p1 p2 p3 p4
      have hadb : (ad.add (k * 3)).block ≠ pb := by
        rw [add_block]
        have := HS.out.row.1 ad.block rfl
        omega
      have hset : ∀ (W : World) (i : Nat) (v : Value), (W.setCell ⟨pb, i, none⟩ v).cell? (ad.add (k * 3)) = W.cell? (ad.add (k * 3)) := fun W i v => World.cell?_of_block (Below.heap_setCell W ⟨pb, i, none⟩ v _ hadb)
      have HP0 := Sh.mk hpe0
      by_cases hgt : 65535 < uP
      · have hg1 : decide (65535 < uP) = true := by simpa using hgt
        have hn1 : (uP == 10) = false := by simp; omega
        have HPE := Sh.mk (show (uE, (k : Int) + 1, pW + 1 + 1, pL, pC + 1) = rpA us (k + 1) by rw [rpA, HP0.out]; simp only [stepP]; rw [if_pos hgt, if_neg (by omega), if_neg (by omega)]; rfl)
        have HS6 := Sh.mk (((((HS.out.setp 0 (.int .i64 uE)).setp 1 (.int .i64 ((k : Int) + 1))).setp 2 (.int .i64 (pW + 1))).setp 2 (.int .i64 (pW + 1 + 1))).setp 4 (.int .i64 (pC + 1)))
        go_wp2
        obtain ⟨w6, hw6⟩ : ∃ w6, w6 = (((((wr.setCell ⟨pb, 0, none⟩ (.int .i64 uE)).setCell ⟨pb, 1, none⟩ (.int .i64 ((k : Int) + 1))).setCell ⟨pb, 2, none⟩ (.int .i64 (pW + 1))).setCell ⟨pb, 2, none⟩ (.int .i64 (pW + 1 + 1))).setCell ⟨pb, 4, none⟩ (.int .i64 (pC + 1))) := ⟨_, rfl⟩
        rw [← hw6] at HS6 ⊢
        obtain ⟨⟨qA, qU, qW, qL, qC⟩, hq⟩ : ∃ q : Rp, q = (uE, (k : Int) + 1, pW + 1 + 1, pL, pC + 1) := ⟨_, rfl⟩
        rw [← hq] at HPE
        simp only [Prod.mk.injEq] at hq
        obtain ⟨rfl, hq1, hq2, hq3, hq4⟩ := hq
        have HSd := Sh.mk (show RNS w pb mb v1 (rpL us (k + 1)) #[.int .i64 qA, .int .i64 qU, .int .i64 qW, .int .i64 qL, .int .i64 qC] (some ad) us.length c us w6.drew by rw [hq1, hq2, hq3, hq4]; exact HS6.out.below (below_drew (Below.refl _ _)))
        clear hw6 HS6 hq1 hq2 hq3 hq4 p0 p1 p2 p3 p4 f0 f1 f2 f3 f4 hset y0 y1 y2
        refine start_ (n := 11) (S := fun w' => w'.cell? ⟨mb, 0, none⟩ = some v1 ∧ w'.cell? ⟨pb, 0, none⟩ = some (.int .i64 qA) ∧ w'.cell? ⟨pb, 1, none⟩ = some (.int .i64 qU) ∧ w'.cell? ⟨pb, 2, none⟩ = some (.int .i64 qW) ∧ w'.cell? ⟨pb, 3, none⟩ = some (.int .i64 qL) ∧ w'.cell? ⟨pb, 4, none⟩ = some (.int .i64 qC)) (ds := [7, 10]) #[false, false, false, false, false, false, false, false, false, false, false] (by kernel_rfl) rfl rfl ⟨HSd.out.m.cell, ((HSd.out.cells 0).trans rfl), ((HSd.out.cells 1).trans rfl), ((HSd.out.cells 2).trans rfl), ((HSd.out.cells 3).trans rfl), ((HSd.out.cells 4).trans rfl)⟩ (fun hHeld => ?_)
        refine pure_ (i := 0) (N := some 59) (v := ?_) (a' := ?_) #[true, false, false, false, false, false, false, false, false, false, false] rfl rfl (by kernel_rfl) (fun _ _ _ h => h) (Or.inl ⟨by rfl, ?_⟩) ?_ ?_
        rotate_left
        · intro w'
          go_simp
          with_reducible rfl
        rotate_left
        · simp only [Act.put, List.setIfInBounds_toArray, List.set_cons_zero, List.set_cons_succ, i64_w, i32_w]
          rfl
        refine pure_ (i := 1) (N := some 60) (v := ?_) (a' := ?_) #[true, true, false, false, false, false, false, false, false, false, false] rfl rfl (by kernel_rfl) (fun _ _ _ h => h) (Or.inl ⟨by rfl, ?_⟩) ?_ ?_
        rotate_left
        · intro w'
          go_simp
          with_reducible rfl
        rotate_left
        · simp only [Act.put, List.setIfInBounds_toArray, List.set_cons_zero, List.set_cons_succ, i64_w, i32_w]
          rfl
        refine pure_ (i := 2) (N := some 61) (v := ?_) (a' := ?_) #[true, true, true, false, false, false, false, false, false, false, false] rfl rfl (by kernel_rfl) (fun _ _ _ h => h) (Or.inl ⟨by rfl, ?_⟩) ?_ ?_
        rotate_left
        · intro w'
          go_simp
          with_reducible rfl
        rotate_left
        · simp only [Act.put, List.setIfInBounds_toArray, List.set_cons_zero, List.set_cons_succ, i64_w, i32_w]
          rfl
        refine pure_ (i := 3) (N := some 62) (v := ?_) (a' := ?_) #[true, true, true, true, false, false, false, false, false, false, false] rfl rfl (by kernel_rfl) (fun _ _ _ h => h) (Or.inl ⟨by rfl, ?_⟩) ?_ ?_
        rotate_left
        · intro w'
          go_simp
          with_reducible rfl
        rotate_left
        · simp only [Act.put, List.setIfInBounds_toArray, List.set_cons_zero, List.set_cons_succ, i64_w, i32_w]
          rfl
        refine take_ (i := 4) (N := some 63) (v := ?_) (a' := ?_) #[true, true, true, true, true, false, false, false, false, false, false] rfl rfl (by kernel_rfl) (fun _ _ _ h => h) (Or.inl ⟨by rfl, ?_⟩) hHeld ?_ ?_
        rotate_left
        · rintro w' ⟨s0, s1, s2, s3, s4, s5⟩
          go_simp
          with_reducible rfl
        rotate_left
        · simp only [Act.put, List.setIfInBounds_toArray, List.set_cons_zero, List.set_cons_succ, i64_w, i32_w]
          rfl
        refine take_ (i := 5) (N := some 64) (v := ?_) (a' := ?_) #[true, true, true, true, true, true, false, false, false, false, false] rfl rfl (by kernel_rfl) (fun _ _ _ h => h) (Or.inl ⟨by rfl, ?_⟩) hHeld ?_ ?_
        rotate_left
        · rintro w' ⟨s0, s1, s2, s3, s4, s5⟩
          go_simp
          with_reducible rfl
        rotate_left
        · simp only [Act.put, List.setIfInBounds_toArray, List.set_cons_zero, List.set_cons_succ, i64_w, i32_w]
          rfl
        refine one_ (i := 6) (N := some 65) #[true, true, true, true, true, true, true, false, false, false, false] rfl rfl (by kernel_rfl) (by decide) (fun K hK => ?_)
        refine value_ (w1 := ?_) (v := ?_) (by rfl) rfl ?_ ?_
        rotate_left 2
        · go_simp
          constructor
          · rfl
          · rfl
        refine hK.out _ _ ⟨(HSd.out.m.below (below_alloc (Below.refl _ _) _)).cell, (((HSd.out.below (below_alloc (Below.refl _ _) _)).cells 0).trans rfl), (((HSd.out.below (below_alloc (Below.refl _ _) _)).cells 1).trans rfl), (((HSd.out.below (below_alloc (Below.refl _ _) _)).cells 2).trans rfl), (((HSd.out.below (below_alloc (Below.refl _ _) _)).cells 3).trans rfl), (((HSd.out.below (below_alloc (Below.refl _ _) _)).cells 4).trans rfl)⟩ (fun hHeld => ?_)
        clear hK K
        refine norm_ (a' := ?_) ?_ ?_
        rotate_left
        · show Act.put _ (some 65) _ = _
          simp only [Act.put, List.setIfInBounds_toArray, List.set_cons_zero, List.set_cons_succ, i64_w, i32_w]
          rfl
        refine last_ (i := 7) (N := some 66) #[true, true, true, true, true, true, true, true, false, false, false] rfl rfl (by kernel_rfl) (by decide) (fun K hK => ?_)
        refine Kd.R_append_step rplK (w0 := w6.drew) (pb + 1) (by rfl) (.tmp 63) (.tmp 65) 64 RpT (.agg #[.int .i64 0, .int .i64 0, .int .i64 0, .int .i64 0, .int .i64 0]) 40 rfl Tryd.underlying64 info_rp rfl (by decide) (by decide) _ (rpL us (k + 1)) (qA, qU, qW, qL, qC) [.int .i64 qA, .int .i64 qU, .int .i64 qW, .int .i64 qL, .int .i64 qC] (fun _ => True) (fun _ => False) rfl rfl (rp_M _ _ _ (qA, qU, qW, qL, qC)) (fun _ hk => hk.elim) (fun _ _ => trivial) HSd.out.m.row (Below.refl _ _) (by have := blk_lt HSd.out.p; omega) (by rw [rpL_len]; omega) ?_
        intro v4 w4 hr4 _ hg4 hat4
        rw [HPE.out, ← rpL_succ] at hr4
        obtain ⟨A4, c4, rfl, hc4, _⟩ := Kd.R_reads hr4
        have HS4 := Sh.mk (HSd.out.app hg4 hr4)
        have HB4 := Sh.mk ((hg4.block mb HSd.out.m.lt (fun e => HSd.out.m.ne e.symm)).trans HSd.out.m.blk)
        have xf4 := blk_frozen HB4.out 0
        have xc4 : w4.cell? ⟨mb, 0, none⟩ = some v1 := (blk_cell HB4.out 0).trans rfl
        clear hr4 hg4 hat4
        refine hK.out _ _ ?_
        clear hK K
        refine norm_ (a' := ?_) ?_ ?_
        rotate_left
        · show Act.put _ (some 66) _ = _
          simp only [Act.put, List.setIfInBounds_toArray, List.set_cons_zero, List.set_cons_succ, i64_w, i32_w]
          rfl
        refine pure_ (i := 8) (N := some 67) (v := ?_) (a' := ?_) #[true, true, true, true, true, true, true, true, true, false, false] rfl rfl (by kernel_rfl) (fun _ _ _ h => h) (Or.inl ⟨by rfl, ?_⟩) ?_ ?_
        rotate_left
        · intro w'
          go_simp
          with_reducible rfl
        rotate_left
        · simp only [Act.put, List.setIfInBounds_toArray, List.set_cons_zero, List.set_cons_succ, i64_w, i32_w]
          rfl
        refine pure_ (i := 9) (N := some 68) (v := ?_) (a' := ?_) #[true, true, true, true, true, true, true, true, true, true, false] rfl rfl (by kernel_rfl) (fun _ _ _ h => h) (Or.inl ⟨by rfl, ?_⟩) ?_ ?_
        rotate_left
        · intro w'
          go_simp
          with_reducible rfl
        rotate_left
        · simp only [Act.put, List.setIfInBounds_toArray, List.set_cons_zero, List.set_cons_succ, i64_w, i32_w]
          rfl
        refine last_ (i := 10) (N := none) #[true, true, true, true, true, true, true, true, true, true, true] rfl rfl (by kernel_rfl) (by decide) (fun K hK => ?_)
        refine skip_ (w1 := ?_) (by rfl) rfl ?_ ?_
        rotate_left
        · go_simp
          rfl
        refine hK.out _ _ ?_
        clear hK K
        refine done_ (by kernel_rfl) ?_
        go_wp2
        go_roundw
        case rel => exact ⟨k + 1, _, by omega, by go_num, ⟨by rw [← HPE.out]; exact HS4.out⟩⟩
        case measure => simp [intOf]; omega
      · have hg1 : decide (65535 < uP) = false := by simpa using hgt
        by_cases hn : uP = 10
        · have hn1 : (uP == 10) = true := by simpa using hn
          have HPE := Sh.mk (show (uE, (k : Int) + 1, pW + 1, pL + 1, 1) = rpA us (k + 1) by rw [rpA, HP0.out]; simp only [stepP]; rw [if_neg hgt, if_pos hn, if_pos hn]; rfl)
          have HS6 := Sh.mk ((((((HS.out.setp 0 (.int .i64 uE)).setp 1 (.int .i64 ((k : Int) + 1))).setp 2 (.int .i64 (pW + 1))).setp 4 (.int .i64 (pC + 1))).setp 3 (.int .i64 (pL + 1))).setp 4 (.int .i64 1))
          go_wp2
          obtain ⟨w6, hw6⟩ : ∃ w6, w6 = ((((((wr.setCell ⟨pb, 0, none⟩ (.int .i64 uE)).setCell ⟨pb, 1, none⟩ (.int .i64 ((k : Int) + 1))).setCell ⟨pb, 2, none⟩ (.int .i64 (pW + 1))).setCell ⟨pb, 4, none⟩ (.int .i64 (pC + 1))).setCell ⟨pb, 3, none⟩ (.int .i64 (pL + 1))).setCell ⟨pb, 4, none⟩ (.int .i64 1)) := ⟨_, rfl⟩
          rw [← hw6] at HS6 ⊢
          obtain ⟨⟨qA, qU, qW, qL, qC⟩, hq⟩ : ∃ q : Rp, q = (uE, (k : Int) + 1, pW + 1, pL + 1, 1) := ⟨_, rfl⟩
          rw [← hq] at HPE
          simp only [Prod.mk.injEq] at hq
          obtain ⟨rfl, hq1, hq2, hq3, hq4⟩ := hq
          have HSd := Sh.mk (show RNS w pb mb v1 (rpL us (k + 1)) #[.int .i64 qA, .int .i64 qU, .int .i64 qW, .int .i64 qL, .int .i64 qC] (some ad) us.length c us w6.drew by rw [hq1, hq2, hq3, hq4]; exact HS6.out.below (below_drew (Below.refl _ _)))
          clear hw6 HS6 hq1 hq2 hq3 hq4 p0 p1 p2 p3 p4 f0 f1 f2 f3 f4 hset y0 y1 y2
          refine start_ (n := 11) (S := fun w' => w'.cell? ⟨mb, 0, none⟩ = some v1 ∧ w'.cell? ⟨pb, 0, none⟩ = some (.int .i64 qA) ∧ w'.cell? ⟨pb, 1, none⟩ = some (.int .i64 qU) ∧ w'.cell? ⟨pb, 2, none⟩ = some (.int .i64 qW) ∧ w'.cell? ⟨pb, 3, none⟩ = some (.int .i64 qL) ∧ w'.cell? ⟨pb, 4, none⟩ = some (.int .i64 qC)) (ds := [7, 10]) #[false, false, false, false, false, false, false, false, false, false, false] (by kernel_rfl) rfl rfl ⟨HSd.out.m.cell, ((HSd.out.cells 0).trans rfl), ((HSd.out.cells 1).trans rfl), ((HSd.out.cells 2).trans rfl), ((HSd.out.cells 3).trans rfl), ((HSd.out.cells 4).trans rfl)⟩ (fun hHeld => ?_)
          refine pure_ (i := 0) (N := some 59) (v := ?_) (a' := ?_) #[true, false, false, false, false, false, false, false, false, false, false] rfl rfl (by kernel_rfl) (fun _ _ _ h => h) (Or.inl ⟨by rfl, ?_⟩) ?_ ?_
          rotate_left
          · intro w'
            go_simp
            with_reducible rfl
          rotate_left
          · simp only [Act.put, List.setIfInBounds_toArray, List.set_cons_zero, List.set_cons_succ, i64_w, i32_w]
            rfl
          refine pure_ (i := 1) (N := some 60) (v := ?_) (a' := ?_) #[true, true, false, false, false, false, false, false, false, false, false] rfl rfl (by kernel_rfl) (fun _ _ _ h => h) (Or.inl ⟨by rfl, ?_⟩) ?_ ?_
          rotate_left
          · intro w'
            go_simp
            with_reducible rfl
          rotate_left
          · simp only [Act.put, List.setIfInBounds_toArray, List.set_cons_zero, List.set_cons_succ, i64_w, i32_w]
            rfl
          refine pure_ (i := 2) (N := some 61) (v := ?_) (a' := ?_) #[true, true, true, false, false, false, false, false, false, false, false] rfl rfl (by kernel_rfl) (fun _ _ _ h => h) (Or.inl ⟨by rfl, ?_⟩) ?_ ?_
          rotate_left
          · intro w'
            go_simp
            with_reducible rfl
          rotate_left
          · simp only [Act.put, List.setIfInBounds_toArray, List.set_cons_zero, List.set_cons_succ, i64_w, i32_w]
            rfl
          refine pure_ (i := 3) (N := some 62) (v := ?_) (a' := ?_) #[true, true, true, true, false, false, false, false, false, false, false] rfl rfl (by kernel_rfl) (fun _ _ _ h => h) (Or.inl ⟨by rfl, ?_⟩) ?_ ?_
          rotate_left
          · intro w'
            go_simp
            with_reducible rfl
          rotate_left
          · simp only [Act.put, List.setIfInBounds_toArray, List.set_cons_zero, List.set_cons_succ, i64_w, i32_w]
            rfl
          refine take_ (i := 4) (N := some 63) (v := ?_) (a' := ?_) #[true, true, true, true, true, false, false, false, false, false, false] rfl rfl (by kernel_rfl) (fun _ _ _ h => h) (Or.inl ⟨by rfl, ?_⟩) hHeld ?_ ?_
          rotate_left
          · rintro w' ⟨s0, s1, s2, s3, s4, s5⟩
            go_simp
            with_reducible rfl
          rotate_left
          · simp only [Act.put, List.setIfInBounds_toArray, List.set_cons_zero, List.set_cons_succ, i64_w, i32_w]
            rfl
          refine take_ (i := 5) (N := some 64) (v := ?_) (a' := ?_) #[true, true, true, true, true, true, false, false, false, false, false] rfl rfl (by kernel_rfl) (fun _ _ _ h => h) (Or.inl ⟨by rfl, ?_⟩) hHeld ?_ ?_
          rotate_left
          · rintro w' ⟨s0, s1, s2, s3, s4, s5⟩
            go_simp
            with_reducible rfl
          rotate_left
          · simp only [Act.put, List.setIfInBounds_toArray, List.set_cons_zero, List.set_cons_succ, i64_w, i32_w]
            rfl
          refine one_ (i := 6) (N := some 65) #[true, true, true, true, true, true, true, false, false, false, false] rfl rfl (by kernel_rfl) (by decide) (fun K hK => ?_)
          refine value_ (w1 := ?_) (v := ?_) (by rfl) rfl ?_ ?_
          rotate_left 2
          · go_simp
            constructor
            · rfl
            · rfl
          refine hK.out _ _ ⟨(HSd.out.m.below (below_alloc (Below.refl _ _) _)).cell, (((HSd.out.below (below_alloc (Below.refl _ _) _)).cells 0).trans rfl), (((HSd.out.below (below_alloc (Below.refl _ _) _)).cells 1).trans rfl), (((HSd.out.below (below_alloc (Below.refl _ _) _)).cells 2).trans rfl), (((HSd.out.below (below_alloc (Below.refl _ _) _)).cells 3).trans rfl), (((HSd.out.below (below_alloc (Below.refl _ _) _)).cells 4).trans rfl)⟩ (fun hHeld => ?_)
          clear hK K
          refine norm_ (a' := ?_) ?_ ?_
          rotate_left
          · show Act.put _ (some 65) _ = _
            simp only [Act.put, List.setIfInBounds_toArray, List.set_cons_zero, List.set_cons_succ, i64_w, i32_w]
            rfl
          refine last_ (i := 7) (N := some 66) #[true, true, true, true, true, true, true, true, false, false, false] rfl rfl (by kernel_rfl) (by decide) (fun K hK => ?_)
          refine Kd.R_append_step rplK (w0 := w6.drew) (pb + 1) (by rfl) (.tmp 63) (.tmp 65) 64 RpT (.agg #[.int .i64 0, .int .i64 0, .int .i64 0, .int .i64 0, .int .i64 0]) 40 rfl Tryd.underlying64 info_rp rfl (by decide) (by decide) _ (rpL us (k + 1)) (qA, qU, qW, qL, qC) [.int .i64 qA, .int .i64 qU, .int .i64 qW, .int .i64 qL, .int .i64 qC] (fun _ => True) (fun _ => False) rfl rfl (rp_M _ _ _ (qA, qU, qW, qL, qC)) (fun _ hk => hk.elim) (fun _ _ => trivial) HSd.out.m.row (Below.refl _ _) (by have := blk_lt HSd.out.p; omega) (by rw [rpL_len]; omega) ?_
          intro v4 w4 hr4 _ hg4 hat4
          rw [HPE.out, ← rpL_succ] at hr4
          obtain ⟨A4, c4, rfl, hc4, _⟩ := Kd.R_reads hr4
          have HS4 := Sh.mk (HSd.out.app hg4 hr4)
          have HB4 := Sh.mk ((hg4.block mb HSd.out.m.lt (fun e => HSd.out.m.ne e.symm)).trans HSd.out.m.blk)
          have xf4 := blk_frozen HB4.out 0
          have xc4 : w4.cell? ⟨mb, 0, none⟩ = some v1 := (blk_cell HB4.out 0).trans rfl
          clear hr4 hg4 hat4
          refine hK.out _ _ ?_
          clear hK K
          refine norm_ (a' := ?_) ?_ ?_
          rotate_left
          · show Act.put _ (some 66) _ = _
            simp only [Act.put, List.setIfInBounds_toArray, List.set_cons_zero, List.set_cons_succ, i64_w, i32_w]
            rfl
          refine pure_ (i := 8) (N := some 67) (v := ?_) (a' := ?_) #[true, true, true, true, true, true, true, true, true, false, false] rfl rfl (by kernel_rfl) (fun _ _ _ h => h) (Or.inl ⟨by rfl, ?_⟩) ?_ ?_
          rotate_left
          · intro w'
            go_simp
            with_reducible rfl
          rotate_left
          · simp only [Act.put, List.setIfInBounds_toArray, List.set_cons_zero, List.set_cons_succ, i64_w, i32_w]
            rfl
          refine pure_ (i := 9) (N := some 68) (v := ?_) (a' := ?_) #[true, true, true, true, true, true, true, true, true, true, false] rfl rfl (by kernel_rfl) (fun _ _ _ h => h) (Or.inl ⟨by rfl, ?_⟩) ?_ ?_
          rotate_left
          · intro w'
            go_simp
            with_reducible rfl
          rotate_left
          · simp only [Act.put, List.setIfInBounds_toArray, List.set_cons_zero, List.set_cons_succ, i64_w, i32_w]
            rfl
          refine last_ (i := 10) (N := none) #[true, true, true, true, true, true, true, true, true, true, true] rfl rfl (by kernel_rfl) (by decide) (fun K hK => ?_)
          refine skip_ (w1 := ?_) (by rfl) rfl ?_ ?_
          rotate_left
          · go_simp
            rfl
          refine hK.out _ _ ?_
          clear hK K
          refine done_ (by kernel_rfl) ?_
          go_wp2
          go_roundw
          case rel => exact ⟨k + 1, _, by omega, by go_num, ⟨by rw [← HPE.out]; exact HS4.out⟩⟩
          case measure => simp [intOf]; omega
        · have hn1 : (uP == 10) = false := by simpa using hn
          have HPE := Sh.mk (show (uE, (k : Int) + 1, pW + 1, pL, pC + 1) = rpA us (k + 1) by rw [rpA, HP0.out]; simp only [stepP]; rw [if_neg hgt, if_neg hn, if_neg hn]; rfl)
          have HS6 := Sh.mk ((((HS.out.setp 0 (.int .i64 uE)).setp 1 (.int .i64 ((k : Int) + 1))).setp 2 (.int .i64 (pW + 1))).setp 4 (.int .i64 (pC + 1)))
          go_wp2
          obtain ⟨w6, hw6⟩ : ∃ w6, w6 = ((((wr.setCell ⟨pb, 0, none⟩ (.int .i64 uE)).setCell ⟨pb, 1, none⟩ (.int .i64 ((k : Int) + 1))).setCell ⟨pb, 2, none⟩ (.int .i64 (pW + 1))).setCell ⟨pb, 4, none⟩ (.int .i64 (pC + 1))) := ⟨_, rfl⟩
          rw [← hw6] at HS6 ⊢
          obtain ⟨⟨qA, qU, qW, qL, qC⟩, hq⟩ : ∃ q : Rp, q = (uE, (k : Int) + 1, pW + 1, pL, pC + 1) := ⟨_, rfl⟩
          rw [← hq] at HPE
          simp only [Prod.mk.injEq] at hq
          obtain ⟨rfl, hq1, hq2, hq3, hq4⟩ := hq
          have HSd := Sh.mk (show RNS w pb mb v1 (rpL us (k + 1)) #[.int .i64 qA, .int .i64 qU, .int .i64 qW, .int .i64 qL, .int .i64 qC] (some ad) us.length c us w6.drew by rw [hq1, hq2, hq3, hq4]; exact HS6.out.below (below_drew (Below.refl _ _)))
          clear hw6 HS6 hq1 hq2 hq3 hq4 p0 p1 p2 p3 p4 f0 f1 f2 f3 f4 hset y0 y1 y2
          refine start_ (n := 11) (S := fun w' => w'.cell? ⟨mb, 0, none⟩ = some v1 ∧ w'.cell? ⟨pb, 0, none⟩ = some (.int .i64 qA) ∧ w'.cell? ⟨pb, 1, none⟩ = some (.int .i64 qU) ∧ w'.cell? ⟨pb, 2, none⟩ = some (.int .i64 qW) ∧ w'.cell? ⟨pb, 3, none⟩ = some (.int .i64 qL) ∧ w'.cell? ⟨pb, 4, none⟩ = some (.int .i64 qC)) (ds := [7, 10]) #[false, false, false, false, false, false, false, false, false, false, false] (by kernel_rfl) rfl rfl ⟨HSd.out.m.cell, ((HSd.out.cells 0).trans rfl), ((HSd.out.cells 1).trans rfl), ((HSd.out.cells 2).trans rfl), ((HSd.out.cells 3).trans rfl), ((HSd.out.cells 4).trans rfl)⟩ (fun hHeld => ?_)
          refine pure_ (i := 0) (N := some 59) (v := ?_) (a' := ?_) #[true, false, false, false, false, false, false, false, false, false, false] rfl rfl (by kernel_rfl) (fun _ _ _ h => h) (Or.inl ⟨by rfl, ?_⟩) ?_ ?_
          rotate_left
          · intro w'
            go_simp
            with_reducible rfl
          rotate_left
          · simp only [Act.put, List.setIfInBounds_toArray, List.set_cons_zero, List.set_cons_succ, i64_w, i32_w]
            rfl
          refine pure_ (i := 1) (N := some 60) (v := ?_) (a' := ?_) #[true, true, false, false, false, false, false, false, false, false, false] rfl rfl (by kernel_rfl) (fun _ _ _ h => h) (Or.inl ⟨by rfl, ?_⟩) ?_ ?_
          rotate_left
          · intro w'
            go_simp
            with_reducible rfl
          rotate_left
          · simp only [Act.put, List.setIfInBounds_toArray, List.set_cons_zero, List.set_cons_succ, i64_w, i32_w]
            rfl
          refine pure_ (i := 2) (N := some 61) (v := ?_) (a' := ?_) #[true, true, true, false, false, false, false, false, false, false, false] rfl rfl (by kernel_rfl) (fun _ _ _ h => h) (Or.inl ⟨by rfl, ?_⟩) ?_ ?_
          rotate_left
          · intro w'
            go_simp
            with_reducible rfl
          rotate_left
          · simp only [Act.put, List.setIfInBounds_toArray, List.set_cons_zero, List.set_cons_succ, i64_w, i32_w]
            rfl
          refine pure_ (i := 3) (N := some 62) (v := ?_) (a' := ?_) #[true, true, true, true, false, false, false, false, false, false, false] rfl rfl (by kernel_rfl) (fun _ _ _ h => h) (Or.inl ⟨by rfl, ?_⟩) ?_ ?_
          rotate_left
          · intro w'
            go_simp
            with_reducible rfl
          rotate_left
          · simp only [Act.put, List.setIfInBounds_toArray, List.set_cons_zero, List.set_cons_succ, i64_w, i32_w]
            rfl
          refine take_ (i := 4) (N := some 63) (v := ?_) (a' := ?_) #[true, true, true, true, true, false, false, false, false, false, false] rfl rfl (by kernel_rfl) (fun _ _ _ h => h) (Or.inl ⟨by rfl, ?_⟩) hHeld ?_ ?_
          rotate_left
          · rintro w' ⟨s0, s1, s2, s3, s4, s5⟩
            go_simp
            with_reducible rfl
          rotate_left
          · simp only [Act.put, List.setIfInBounds_toArray, List.set_cons_zero, List.set_cons_succ, i64_w, i32_w]
            rfl
          refine take_ (i := 5) (N := some 64) (v := ?_) (a' := ?_) #[true, true, true, true, true, true, false, false, false, false, false] rfl rfl (by kernel_rfl) (fun _ _ _ h => h) (Or.inl ⟨by rfl, ?_⟩) hHeld ?_ ?_
          rotate_left
          · rintro w' ⟨s0, s1, s2, s3, s4, s5⟩
            go_simp
            with_reducible rfl
          rotate_left
          · simp only [Act.put, List.setIfInBounds_toArray, List.set_cons_zero, List.set_cons_succ, i64_w, i32_w]
            rfl
          refine one_ (i := 6) (N := some 65) #[true, true, true, true, true, true, true, false, false, false, false] rfl rfl (by kernel_rfl) (by decide) (fun K hK => ?_)
          refine value_ (w1 := ?_) (v := ?_) (by rfl) rfl ?_ ?_
          rotate_left 2
          · go_simp
            constructor
            · rfl
            · rfl
          refine hK.out _ _ ⟨(HSd.out.m.below (below_alloc (Below.refl _ _) _)).cell, (((HSd.out.below (below_alloc (Below.refl _ _) _)).cells 0).trans rfl), (((HSd.out.below (below_alloc (Below.refl _ _) _)).cells 1).trans rfl), (((HSd.out.below (below_alloc (Below.refl _ _) _)).cells 2).trans rfl), (((HSd.out.below (below_alloc (Below.refl _ _) _)).cells 3).trans rfl), (((HSd.out.below (below_alloc (Below.refl _ _) _)).cells 4).trans rfl)⟩ (fun hHeld => ?_)
          clear hK K
          refine norm_ (a' := ?_) ?_ ?_
          rotate_left
          · show Act.put _ (some 65) _ = _
            simp only [Act.put, List.setIfInBounds_toArray, List.set_cons_zero, List.set_cons_succ, i64_w, i32_w]
            rfl
          refine last_ (i := 7) (N := some 66) #[true, true, true, true, true, true, true, true, false, false, false] rfl rfl (by kernel_rfl) (by decide) (fun K hK => ?_)
          refine Kd.R_append_step rplK (w0 := w6.drew) (pb + 1) (by rfl) (.tmp 63) (.tmp 65) 64 RpT (.agg #[.int .i64 0, .int .i64 0, .int .i64 0, .int .i64 0, .int .i64 0]) 40 rfl Tryd.underlying64 info_rp rfl (by decide) (by decide) _ (rpL us (k + 1)) (qA, qU, qW, qL, qC) [.int .i64 qA, .int .i64 qU, .int .i64 qW, .int .i64 qL, .int .i64 qC] (fun _ => True) (fun _ => False) rfl rfl (rp_M _ _ _ (qA, qU, qW, qL, qC)) (fun _ hk => hk.elim) (fun _ _ => trivial) HSd.out.m.row (Below.refl _ _) (by have := blk_lt HSd.out.p; omega) (by rw [rpL_len]; omega) ?_
          intro v4 w4 hr4 _ hg4 hat4
          rw [HPE.out, ← rpL_succ] at hr4
          obtain ⟨A4, c4, rfl, hc4, _⟩ := Kd.R_reads hr4
          have HS4 := Sh.mk (HSd.out.app hg4 hr4)
          have HB4 := Sh.mk ((hg4.block mb HSd.out.m.lt (fun e => HSd.out.m.ne e.symm)).trans HSd.out.m.blk)
          have xf4 := blk_frozen HB4.out 0
          have xc4 : w4.cell? ⟨mb, 0, none⟩ = some v1 := (blk_cell HB4.out 0).trans rfl
          clear hr4 hg4 hat4
          refine hK.out _ _ ?_
          clear hK K
          refine norm_ (a' := ?_) ?_ ?_
          rotate_left
          · show Act.put _ (some 66) _ = _
            simp only [Act.put, List.setIfInBounds_toArray, List.set_cons_zero, List.set_cons_succ, i64_w, i32_w]
            rfl
          refine pure_ (i := 8) (N := some 67) (v := ?_) (a' := ?_) #[true, true, true, true, true, true, true, true, true, false, false] rfl rfl (by kernel_rfl) (fun _ _ _ h => h) (Or.inl ⟨by rfl, ?_⟩) ?_ ?_
          rotate_left
          · intro w'
            go_simp
            with_reducible rfl
          rotate_left
          · simp only [Act.put, List.setIfInBounds_toArray, List.set_cons_zero, List.set_cons_succ, i64_w, i32_w]
            rfl
          refine pure_ (i := 9) (N := some 68) (v := ?_) (a' := ?_) #[true, true, true, true, true, true, true, true, true, true, false] rfl rfl (by kernel_rfl) (fun _ _ _ h => h) (Or.inl ⟨by rfl, ?_⟩) ?_ ?_
          rotate_left
          · intro w'
            go_simp
            with_reducible rfl
          rotate_left
          · simp only [Act.put, List.setIfInBounds_toArray, List.set_cons_zero, List.set_cons_succ, i64_w, i32_w]
            rfl
          refine last_ (i := 10) (N := none) #[true, true, true, true, true, true, true, true, true, true, true] rfl rfl (by kernel_rfl) (by decide) (fun K hK => ?_)
          refine skip_ (w1 := ?_) (by rfl) rfl ?_ ?_
          rotate_left
          · go_simp
            rfl
          refine hK.out _ _ ?_
          clear hK K
          refine done_ (by kernel_rfl) ?_
          go_wp2
          go_roundw
          case rel => exact ⟨k + 1, _, by omega, by go_num, ⟨by rw [← HPE.out]; exact HS4.out⟩⟩
          case measure => simp [intOf]; omega
    · obtain rfl : k = us.length := by omega
      go_wp2
      go_ret
      exact ⟨mb, v1, rfl, by have := HS.out.hmb; have := HS.out.hw; omega, ⟨HS.out.m.blk, Kd.R_lower HS.out.m.row (show w.heap.size ≤ pb + 1 by have := HS.out.hw; omega)⟩, HS.out.bel⟩
end Go.Proofs.YtbpadakcjnkjeaaDoor
/- caesuraref26.Map's calls: edge, Unit, Byte, Wide, Narrow, Line, At. Condition: the map lies in memory. -/
namespace Go.Proofs.YtbpadakcjnkjeaaDoor
open Go Go.RowKit Go.Proofs.YtbpadakcjnkjeaaDoorW.PrintWords Go.Proofs.YtbpadakcjnkjeaaDoorW.PrintLast Go.Proofs.YtbpadakcjnkjeaaDoorW.PrintMore
set_option maxRecDepth 100000
/-- The document's map of these units in memory. -/
structure RMapU (w : World) (b : Nat) (A : Option Addr) (c : Nat) (us : List Un) : Prop where
  blk : w.heap[b]? = some (.cells #[.slice A (us.length + 1) c] RmT (0, 0))
  C : rplK.C w A (us.length + 1) (rpL us (us.length + 1))
  small : us.length ≤ 1000000000
theorem RMapU.below {w w1 : World} {b : Nat} {A : Option Addr} {c : Nat} {us : List Un} (h : RMapU w b A c us) (hb : Below w.heap.size w w1) : RMapU w1 b A c us := ⟨blk_below h.blk hb, Kd.C_below h.C hb, h.small⟩
theorem RMapU.cell {w : World} {b : Nat} {A : Option Addr} {c : Nat} {us : List Un} (h : RMapU w b A c us) : w.cell? ⟨b, 0, none⟩ = some (.slice A (us.length + 1) c) := (blk_cell h.blk 0).trans rfl
def rdR (ps : List Rp) (k : Nat) : Rp := ps.getD k (0, 0, 0, 0, 0)
theorem rdR_rpL (us : List Un) (n k : Nat) (h : k < n) : rdR (rpL us n) k = rpA us k := by
  unfold rdR
  rw [List.getD_eq_getElem?_getD, rpL_get us n k h, Option.getD_some]
/-- What an index into a row of the document's places reads. -/
theorem C_rp {w : World} {A : Option Addr} {n : Nat} {xs : List Rp} (h : rplK.C w A n xs) (i : Nat) (hi : i < n) : ∃ ad, A = some ad ∧ w.cell? (ad.add (i * 5)) = some (.int .i64 (rdR xs i).1) ∧ w.cell? ⟨(ad.add (i * 5)).block, (ad.add (i * 5)).off + 1, none⟩ = some (.int .i64 (rdR xs i).2.1) ∧
    w.cell? ⟨(ad.add (i * 5)).block, (ad.add (i * 5)).off + 2, none⟩ = some (.int .i64 (rdR xs i).2.2.1) ∧ w.cell? ⟨(ad.add (i * 5)).block, (ad.add (i * 5)).off + 3, none⟩ = some (.int .i64 (rdR xs i).2.2.2.1) ∧ w.cell? ⟨(ad.add (i * 5)).block, (ad.add (i * 5)).off + 4, none⟩ = some (.int .i64 (rdR xs i).2.2.2.2) := by
  obtain ⟨h1, h2, h3⟩ := h
  obtain ⟨ad, e, hc⟩ := h3 (by omega)
  have hl : i < xs.length := by omega
  obtain ⟨c, hs, hp, hcell⟩ := hc i _ (List.getElem?_eq_getElem hl)
  obtain ⟨c0, c1, rfl, hc0, c2, c3, rfl, hc2, c4, c5, rfl, hc4, c6, c7, rfl, hc6, hc7⟩ := hp
  have e0 : rdR xs i = xs[i] := by simp [rdR, List.getD, hl]
  rw [e0]
  have k0 : c0 = [.int .i64 xs[i].1] := hc0
  have k2 : c2 = [.int .i64 xs[i].2.1] := hc2
  have k4 : c4 = [.int .i64 xs[i].2.2.1] := hc4
  have k6 : c6 = [.int .i64 xs[i].2.2.2.1] := hc6
  have k7 : c7 = [.int .i64 xs[i].2.2.2.2] := hc7
  subst k0 k2 k4 k6 k7
  exact ⟨ad, e, hcell 0 _ rfl, by rw [← add_field _ _ 1 (by omega)]; exact hcell 1 _ rfl, by rw [← add_field _ _ 2 (by omega)]; exact hcell 2 _ rfl, by rw [← add_field _ _ 3 (by omega)]; exact hcell 3 _ rfl, by rw [← add_field _ _ 4 (by omega)]; exact hcell 4 _ rfl⟩
abbrev rpV (p : Rp) : Array Value := #[.int .i64 p.1, .int .i64 p.2.1, .int .i64 p.2.2.1, .int .i64 p.2.2.2.1, .int .i64 p.2.2.2.2]
theorem oneRp (a b c d e : Int) : (#[.int .i64 a, .int .i64 b, .int .i64 c, .int .i64 d, .int .i64 e] : Array Value).all (·.oneCell') = true := by simp [Value.oneCell']
def EdgePost (us : List Un) (r : Option Nat) (e : Ending) : Prop :=
  match r with
  | some j => e = .returned (.tuple #[.agg (rpV (rpA us j)), .int .i64 0])
  | none => e = .returned (.tuple #[.agg (rpV (0, 0, 0, 0, 0)), .int .i64 1])
theorem first_is {n : Nat} {q : Nat → Bool} {j : Nat} (hj : j < n) (hq : q j = true) (hb : ∀ i, i < j → q i = false) : firstF n q = some j := by
  cases h : firstF n q with
  | none => have := first_none h j hj; rw [hq] at this; cases this
  | some i =>
    obtain ⟨a, b, c⟩ := first_some h
    have h1 : ¬ j < i := fun e => by have := c j e; rw [hq] at this; cases this
    have h2 : ¬ i < j := fun e => by have := hb i e; rw [b] at this; cases this
    rw [show i = j by omega]
theorem first_no {n : Nat} {q : Nat → Bool} (hb : ∀ i, i < n → q i = false) : firstF n q = none := by
  cases h : firstF n q with
  | none => rfl
  | some i =>
    obtain ⟨a, b, _⟩ := first_some h
    rw [hb i a] at b
    cases b
set_option maxHeartbeats 4000000 in
set_option maxRecDepth 100000 in
theorem edge_any (b : Nat) (A : Option Addr) (c : Nat) (us : List Un) (w : World) (h : RMapU w b A c us) (x : Int) :
    Calls Tryd.prog 44 #[.pointer (some ⟨b, 0, none⟩), .int .i64 x] w fun e w' => EdgePost us (keyB us x) e ∧ Below w.heap.size w w' := by
  obtain ⟨W, hW⟩ : ∃ W, W = w.alloc (.cells #[.int .i64 0, .int .i64 0, .int .i64 0, .int .i64 0, .int .i64 0] RpT) := ⟨_, rfl⟩
  have hbW : Below w.heap.size w W := by rw [hW]; exact (Below.refl _ _).alloc (Nat.le_refl _) _
  obtain ⟨g, hg⟩ : ∃ g, g = w.heap.size := ⟨_, rfl⟩
  have HX := Sh.mk (show W.heap[g]? = some (.cells #[.int .i64 0, .int .i64 0, .int .i64 0, .int .i64 0, .int .i64 0] RpT (0, 0)) by rw [hW, hg]; exact blk_new _ _)
  have hM := h.below hbW
  have HB := Sh.mk hbW
  have HM := Sh.mk hM
  have x0 := hM.cell
  have hsm := h.small
  have hl := h.C.2.1
  have HW := Sh.mk hW
  have HG := Sh.mk hg
  clear hW hg hbW h hM
  go_enter Tryd.func44, Tryd.ntmps44
  go_wp2
  rw [← HG.out]
  rw [← HW.out]
  go_loop [6] (fun i => ∃ k : Nat, k ≤ us.length + 1 ∧ i = .int .i64 k ∧ Sh (∀ i, i < k → ((plA us i).1 == x) = false)) (fun i => us.length + 1 - (intOf i).toNat)
  case atStart => exact ⟨0, by omega, rfl, ⟨fun i hi => by omega⟩⟩
  case round =>
    obtain ⟨k, hk, rfl, HK⟩ := hrel
    by_cases hlt : k < us.length + 1
    · obtain ⟨ad, e1, y0, y1, y2, y3, y4⟩ := C_rp HM.out.C k hlt
      cases e1
      rw [rdR_rpL us _ k hlt] at y0 y1 y2 y3 y4
      simp only [rpA] at y0 y1 y2 y3 y4
      by_cases hx : (plA us k).1 = x
      · have hx1 : ((plA us k).1 == x) = true := by simpa using hx
        have HF := Sh.mk (show keyB us x = some k from first_is hlt hx1 HK.out)
        clear hx
        go_wp2_with (first | (refine wpList_store_row rfl RpT (.tmp 4) (.tmp 32) rfl g (rpV (rpA us k)) rfl rfl RpT #[.int .i64 0, .int .i64 0, .int .i64 0, .int .i64 0, .int .i64 0] HX.out (by kernel_rfl) rfl (oneRp _ _ _ _ _) ?_))
        have hR := setRow_heap W g _ (rpV (rpA us k)) _ _ HX.out
        (try simp only [Exit.inBlock, Exit.then])
        refine bodyPost_ret (results_cell_row2 rfl _ _ g RpT _ (0, 0) _ rfl hR Tryd.underlying63 rfl (by kernel_rfl)) rfl ?_
        exact ⟨by rw [HF.out]; rfl, below_setRow HB.out (by have := HG.out; omega) _⟩
      · have hx1 : ((plA us k).1 == x) = false := by simpa using hx
        have HK2 := Sh.mk (show ∀ i, i < k + 1 → ((plA us i).1 == x) = false from fun i hi => by
          by_cases e : i = k
          · rw [e]; exact hx1
          · exact HK.out i (by omega))
        clear hx
        go_wp2
        go_round
        case rel => exact ⟨k + 1, by omega, by go_num, HK2⟩
        case measure => simp [intOf]; omega
    · obtain rfl : k = us.length + 1 := by omega
      have HF := Sh.mk (show keyB us x = none from first_no HK.out)
      go_wp2_with (first | (refine wpList_store_row rfl RpT (.tmp 4) (.tmp 33) rfl g (rpV (0, 0, 0, 0, 0)) rfl rfl RpT #[.int .i64 0, .int .i64 0, .int .i64 0, .int .i64 0, .int .i64 0] HX.out (by kernel_rfl) rfl (oneRp _ _ _ _ _) ?_))
      have hR := setRow_heap W g _ (rpV (0, 0, 0, 0, 0)) _ _ HX.out
      (try simp only [Exit.inBlock, Exit.then])
      refine bodyPost_ret (results_cell_row2 rfl _ _ g RpT _ (0, 0) _ rfl hR Tryd.underlying63 rfl (by kernel_rfl)) rfl ?_
      exact ⟨by rw [HF.out]; rfl, below_setRow HB.out (by have := HG.out; omega) _⟩
end Go.Proofs.YtbpadakcjnkjeaaDoor
/- caesuraref26.Map's calls, and Count of both maps. Condition: the maps lie in memory. -/
namespace Go.Proofs.YtbpadakcjnkjeaaDoor
open Go Go.RowKit Go.Proofs.YtbpadakcjnkjeaaDoorW.PrintWords Go.Proofs.YtbpadakcjnkjeaaDoorW.PrintLast Go.Proofs.YtbpadakcjnkjeaaDoorW.PrintMore
set_option maxRecDepth 100000
def RNum (r : Option Int) (e : Ending) : Prop :=
  match r with
  | some x => e = .returned (.tuple #[.int .i64 x, .int .i64 0])
  | none => e = .returned (.tuple #[.int .i64 0, .int .i64 1])
def RLine (r : Option (Int × Int)) (e : Ending) : Prop :=
  match r with
  | some x => e = .returned (.tuple #[.int .i64 x.1, .int .i64 x.2, .int .i64 0])
  | none => e = .returned (.tuple #[.int .i64 0, .int .i64 0, .int .i64 1])
section
variable (b : Nat) (A : Option Addr) (c : Nat) (us : List Un) (w : World) (h : RMapU w b A c us)
include h
set_option maxHeartbeats 1000000 in
set_option maxRecDepth 100000 in
theorem rUnit_call (x : Int) : Calls Tryd.prog 27 #[.pointer (some ⟨b, 0, none⟩), .int .i64 x] w fun e w' => RNum (Option.map Int.ofNat (keyB us x)) e ∧ Below w.heap.size w w' := by
  have HM := Sh.mk h
  clear h
  go_enter Tryd.func27, Tryd.ntmps27
  go_wp2_with fail
  refine (edge_any b A c us w HM.out x).mono ?_
  cases hr : keyB us x with
  | some j =>
    rintro e w1 ⟨he, hb⟩
    obtain rfl := he
    have HB := Sh.mk hb
    have HR := Sh.mk hr
    clear hb hr
    simp only [rpV, rpA]
    go_wp2
    go_ret2
    rw [HR.out]
    exact ⟨rfl, HB.out.alloc HB.out.size _⟩
  | none =>
    rintro e w1 ⟨he, hb⟩
    obtain rfl := he
    have HB := Sh.mk hb
    have HR := Sh.mk hr
    clear hb hr
    simp only [rpV]
    go_wp2
    go_ret2
    rw [HR.out]
    exact ⟨rfl, HB.out.alloc HB.out.size _⟩
set_option maxHeartbeats 1000000 in
set_option maxRecDepth 100000 in
theorem rWide_call (x : Int) : Calls Tryd.prog 30 #[.pointer (some ⟨b, 0, none⟩), .int .i64 x] w fun e w' => RNum ((keyB us x).map (fun j => (plA us j).2.1)) e ∧ Below w.heap.size w w' := by
  have HM := Sh.mk h
  clear h
  go_enter Tryd.func30, Tryd.ntmps30
  go_wp2_with fail
  refine (edge_any b A c us w HM.out x).mono ?_
  cases hr : keyB us x with
  | some j =>
    rintro e w1 ⟨he, hb⟩
    obtain rfl := he
    have HB := Sh.mk hb
    have HR := Sh.mk hr
    clear hb hr
    simp only [rpV, rpA]
    go_wp2
    go_ret2
    rw [HR.out]
    exact ⟨rfl, HB.out.alloc HB.out.size _⟩
  | none =>
    rintro e w1 ⟨he, hb⟩
    obtain rfl := he
    have HB := Sh.mk hb
    have HR := Sh.mk hr
    clear hb hr
    simp only [rpV]
    go_wp2
    go_ret2
    rw [HR.out]
    exact ⟨rfl, HB.out.alloc HB.out.size _⟩
set_option maxHeartbeats 1000000 in
set_option maxRecDepth 100000 in
theorem rLine_call (x : Int) : Calls Tryd.prog 32 #[.pointer (some ⟨b, 0, none⟩), .int .i64 x] w fun e w' => RLine ((keyB us x).map (fun j => (plA us j).2.2)) e ∧ Below w.heap.size w w' := by
  have HM := Sh.mk h
  clear h
  go_enter Tryd.func32, Tryd.ntmps32
  go_wp2_with fail
  refine (edge_any b A c us w HM.out x).mono ?_
  cases hr : keyB us x with
  | some j =>
    rintro e w1 ⟨he, hb⟩
    obtain rfl := he
    have HB := Sh.mk hb
    have HR := Sh.mk hr
    clear hb hr
    simp only [rpV, rpA]
    go_wp2
    go_quiet (fail)
    go_wp2
    go_ret3
    rw [HR.out]
    exact ⟨rfl, below_of (HB.out.alloc HB.out.size _) (pw_below_drewN (Below.refl _ _) _)⟩
  | none =>
    rintro e w1 ⟨he, hb⟩
    obtain rfl := he
    have HB := Sh.mk hb
    have HR := Sh.mk hr
    clear hb hr
    simp only [rpV]
    go_wp2
    go_quiet (fail)
    go_wp2
    go_ret3
    rw [HR.out]
    exact ⟨rfl, below_of (HB.out.alloc HB.out.size _) (pw_below_drewN (Below.refl _ _) _)⟩
set_option maxHeartbeats 1000000 in
set_option maxRecDepth 100000 in
theorem rNarrow_call (x : Int) : Calls Tryd.prog 31 #[.pointer (some ⟨b, 0, none⟩), .int .i64 x] w fun e w' => RNum ((keyW us x).map (fun j => (plA us j).1)) e ∧ Below w.heap.size w w' := by
  have HM := Sh.mk h
  have x0 := h.cell
  have hsm := h.small
  have hl := h.C.2.1
  clear h
  go_enter Tryd.func31, Tryd.ntmps31
  go_wp2
  go_loop [6] (fun i => ∃ k : Nat, k ≤ us.length + 1 ∧ i = .int .i64 k ∧ Sh (∀ i, i < k → ((plA us i).2.1 == x) = false)) (fun i => us.length + 1 - (intOf i).toNat)
  case atStart => exact ⟨0, by omega, rfl, ⟨fun i hi => by omega⟩⟩
  case round =>
    obtain ⟨k, hk, rfl, HK⟩ := hrel
    by_cases hlt : k < us.length + 1
    · obtain ⟨ad, e1, y0, y1, y2, y3, y4⟩ := C_rp HM.out.C k hlt
      cases e1
      rw [rdR_rpL us _ k hlt] at y0 y1 y2 y3 y4
      simp only [rpA] at y0 y1 y2 y3 y4
      by_cases hx : (plA us k).2.1 = x
      · have hx1 : ((plA us k).2.1 == x) = true := by simpa using hx
        have HF := Sh.mk (show keyW us x = some k from first_is hlt hx1 HK.out)
        clear hx
        go_wp2
        go_ret2
        exact ⟨by rw [HF.out]; rfl, Below.refl _ _⟩
      · have hx1 : ((plA us k).2.1 == x) = false := by simpa using hx
        have HK2 := Sh.mk (show ∀ i, i < k + 1 → ((plA us i).2.1 == x) = false from fun i hi => by
          by_cases e : i = k
          · rw [e]; exact hx1
          · exact HK.out i (by omega))
        clear hx
        go_wp2
        go_round
        case rel => exact ⟨k + 1, by omega, by go_num, HK2⟩
        case measure => simp [intOf]; omega
    · obtain rfl : k = us.length + 1 := by omega
      have HF := Sh.mk (show keyW us x = none from first_no HK.out)
      go_wp2
      go_ret2
      exact ⟨by rw [HF.out]; rfl, Below.refl _ _⟩
set_option maxHeartbeats 1000000 in
set_option maxRecDepth 100000 in
theorem rAt_call (l x : Int) : Calls Tryd.prog 33 #[.pointer (some ⟨b, 0, none⟩), .int .i64 l, .int .i64 x] w fun e w' => RNum ((keyL us l x).map (fun j => (plA us j).1)) e ∧ Below w.heap.size w w' := by
  have HM := Sh.mk h
  have x0 := h.cell
  have hsm := h.small
  have hl := h.C.2.1
  clear h
  go_enter Tryd.func33, Tryd.ntmps33
  go_wp2
  go_loop [8] (fun i => ∃ k : Nat, k ≤ us.length + 1 ∧ i = .int .i64 k ∧ Sh (∀ i, i < k → ((plA us i).2.2.1 == l && (plA us i).2.2.2 == x) = false)) (fun i => us.length + 1 - (intOf i).toNat)
  case atStart => exact ⟨0, by omega, rfl, ⟨fun i hi => by omega⟩⟩
  case round =>
    obtain ⟨k, hk, rfl, HK⟩ := hrel
    by_cases hlt : k < us.length + 1
    · obtain ⟨ad, e1, y0, y1, y2, y3, y4⟩ := C_rp HM.out.C k hlt
      cases e1
      rw [rdR_rpL us _ k hlt] at y0 y1 y2 y3 y4
      simp only [rpA] at y0 y1 y2 y3 y4
      cases hx1 : ((plA us k).2.2.1 == l) with
      | true =>
        cases hx2 : ((plA us k).2.2.2 == x) with
        | true =>
          have HF := Sh.mk (show keyL us l x = some k from first_is hlt (by rw [hx1, hx2]; rfl) HK.out)
          go_wp2
          go_ret2
          exact ⟨by rw [HF.out]; rfl, Below.refl _ _⟩
        | false =>
          have HK2 := Sh.mk (show ∀ i, i < k + 1 → ((plA us i).2.2.1 == l && (plA us i).2.2.2 == x) = false from fun i hi => by
            by_cases e : i = k
            · rw [e, hx1, hx2]; rfl
            · exact HK.out i (by omega))
          go_wp2
          go_round
          case rel => exact ⟨k + 1, by omega, by go_num, HK2⟩
          case measure => simp [intOf]; omega
      | false =>
        have HK2 := Sh.mk (show ∀ i, i < k + 1 → ((plA us i).2.2.1 == l && (plA us i).2.2.2 == x) = false from fun i hi => by
          by_cases e : i = k
          · rw [e, hx1]; rfl
          · exact HK.out i (by omega))
        go_wp2
        go_round
        case rel => exact ⟨k + 1, by omega, by go_num, HK2⟩
        case measure => simp [intOf]; omega
    · obtain rfl : k = us.length + 1 := by omega
      have HF := Sh.mk (show keyL us l x = none from first_no HK.out)
      go_wp2
      go_ret2
      exact ⟨by rw [HF.out]; rfl, Below.refl _ _⟩
set_option maxHeartbeats 1000000 in
set_option maxRecDepth 100000 in
theorem rByte_call (x : Int) :
    Calls Tryd.prog 28 #[.pointer (some ⟨b, 0, none⟩), .int .i64 x] w fun e w' => RNum (if 0 ≤ x ∧ x < us.length + 1 then some (plA us x.toNat).1 else none) e ∧ Below w.heap.size w w' := by
  have HM := Sh.mk h
  have x0 := h.cell
  have hl := h.C.2.1
  clear h
  by_cases h0 : 0 ≤ x ∧ x < us.length + 1
  · rw [if_pos h0]
    obtain ⟨j, rfl⟩ := Int.eq_ofNat_of_zero_le h0.1
    have hj : j < us.length + 1 := by omega
    obtain ⟨ad, e1, y0, y1, y2, y3, y4⟩ := C_rp HM.out.C j hj
    cases e1
    rw [rdR_rpL us _ j hj] at y0 y1 y2 y3 y4
    simp only [rpA] at y0 y1 y2 y3 y4
    have hd : decide (us.length + 1 ≤ j) = false := by simp; omega
    clear h0
    go_enter Tryd.func28, Tryd.ntmps28
    go_wp2
    go_ret2
    exact ⟨rfl, Below.refl _ _⟩
  · rw [if_neg h0]
    by_cases hn : x < 0
    · have hd : decide (x < 0) = true := by simpa using hn
      clear h0 hn
      go_enter Tryd.func28, Tryd.ntmps28
      go_wp2
      go_ret2
      exact ⟨rfl, Below.refl _ _⟩
    · have hd : decide (x < 0) = false := by simpa using hn
      have hd2 : decide ((us.length : Int) + 1 ≤ x) = true := by simp; omega
      clear h0 hn
      go_enter Tryd.func28, Tryd.ntmps28
      go_wp2
      go_ret2
      exact ⟨rfl, Below.refl _ _⟩
end
end Go.Proofs.YtbpadakcjnkjeaaDoor
/- Count of both maps. Condition: the maps lie in memory. -/
namespace Go.Proofs.YtbpadakcjnkjeaaDoor
open Go Go.RowKit Go.Proofs.YtbpadakcjnkjeaaDoorW.PrintWords Go.Proofs.YtbpadakcjnkjeaaDoorW.PrintLast Go.Proofs.YtbpadakcjnkjeaaDoorW.PrintMore
set_option maxRecDepth 100000
set_option linter.unusedSimpArgs false
theorem results_tmp4 {fn : Func} {t u v x : Tmp} (h : fn.results = #[.tmp t, .tmp u, .tmp v, .tmp x]) (tmps : Array Value) (P : Program) (w : World) :
    (results fn tmps).run P w = .ok (.tuple #[tmps.getD t undef, tmps.getD u undef, tmps.getD v undef, tmps.getD x undef]) w := by
  simp [results, h]
theorem onePl (a b c d : Int) : (#[.int .i64 a, .int .i64 b, .int .i64 c, .int .i64 d] : Array Value).all (·.oneCell') = true := by simp [Value.oneCell']
set_option maxHeartbeats 4000000 in
set_option maxRecDepth 100000 in
theorem last_any (b : Nat) (A : Option Addr) (c : Nat) (us : List Un) (w0 : World) (h : MapU w0 b A c us) :
    Calls Tryd.prog 24 #[.pointer (some ⟨b, 0, none⟩)] w0 fun e w' => e = .returned (plV (plA us us.length)) ∧ Below w0.heap.size w0 w' := by
  obtain ⟨w, hW⟩ : ∃ w, w = w0.alloc (.cells #[.int .i64 0, .int .i64 0, .int .i64 0, .int .i64 0] PlT) := ⟨_, rfl⟩
  have hbW : Below w0.heap.size w0 w := by rw [hW]; exact (Below.refl _ _).alloc (Nat.le_refl _) _
  obtain ⟨g, hg⟩ : ∃ g, g = w0.heap.size := ⟨_, rfl⟩
  have HX := Sh.mk (show w.heap[g]? = some (.cells #[.int .i64 0, .int .i64 0, .int .i64 0, .int .i64 0] PlT (0, 0)) by rw [hW, hg]; exact blk_new _ _)
  have hM := h.below hbW
  have x0 := hM.cell
  have hsm := h.small
  have hl := h.C.2.1
  obtain ⟨ad, e1, y0, y1, y2, y3⟩ := C_pl hM.C us.length (by omega)
  cases e1
  rw [rdP_plL us _ us.length (by omega)] at y0 y1 y2 y3
  obtain ⟨⟨pA, pW, pL, pC⟩, hp⟩ : ∃ p : Pl, p = plA us us.length := ⟨_, rfl⟩
  rw [← hp] at y0 y1 y2 y3 ⊢
  simp only [] at y0 y1 y2 y3
  have hww : wrap64 ((us.length : Nat) : Int) = ((us.length : Nat) : Int) := by unfold wrap64; omega
  have HB := Sh.mk hbW
  have HW := Sh.mk hW
  have HG := Sh.mk hg
  clear hW hg hbW h hM hp
  go_enter Tryd.func24, Tryd.ntmps24
  go_wp2
  rw [← HG.out]
  rw [← HW.out]
  refine start_ (n := 13) (S := fun w' => w'.cell? ⟨b, 0, none⟩ = some (.slice (some ad) (us.length + 1) c) ∧ w'.cell? (ad.add (us.length * 4)) = some (.int .i64 pA) ∧ w'.cell? ⟨(ad.add (us.length * 4)).block, (ad.add (us.length * 4)).off + 1, none⟩ = some (.int .i64 pW) ∧ w'.cell? ⟨(ad.add (us.length * 4)).block, (ad.add (us.length * 4)).off + 2, none⟩ = some (.int .i64 pL) ∧ w'.cell? ⟨(ad.add (us.length * 4)).block, (ad.add (us.length * 4)).off + 3, none⟩ = some (.int .i64 pC)) (ds := [12]) #[false, false, false, false, false, false, false, false, false, false, false, false, false] (by kernel_rfl) rfl rfl ⟨cellD x0, cellD y0, cellD y1, cellD y2, cellD y3⟩ (fun hHeld => ?_)
  refine pure_ (i := 0) (N := some 3) (v := ?_) (a' := ?_) #[true, false, false, false, false, false, false, false, false, false, false, false, false] rfl rfl (by kernel_rfl) (fun _ _ _ h => h) (Or.inl ⟨by rfl, ?_⟩) ?_ ?_
  rotate_left
  · intro w'
    go_simp
    with_reducible rfl
  rotate_left
  · simp only [Act.put, List.setIfInBounds_toArray, List.set_cons_zero, List.set_cons_succ, i64_w, i32_w, hww]
    rfl
  refine pure_ (i := 1) (N := some 4) (v := ?_) (a' := ?_) #[true, true, false, false, false, false, false, false, false, false, false, false, false] rfl rfl (by kernel_rfl) (fun _ _ _ h => h) (Or.inl ⟨by rfl, ?_⟩) ?_ ?_
  rotate_left
  · intro w'
    go_simp
    with_reducible rfl
  rotate_left
  · simp only [Act.put, List.setIfInBounds_toArray, List.set_cons_zero, List.set_cons_succ, i64_w, i32_w, hww]
    rfl
  refine pure_ (i := 2) (N := some 5) (v := ?_) (a' := ?_) #[true, true, true, false, false, false, false, false, false, false, false, false, false] rfl rfl (by kernel_rfl) (fun _ _ _ h => h) (Or.inl ⟨by rfl, ?_⟩) ?_ ?_
  rotate_left
  · intro w'
    go_simp
    with_reducible rfl
  rotate_left
  · simp only [Act.put, List.setIfInBounds_toArray, List.set_cons_zero, List.set_cons_succ, i64_w, i32_w, hww]
    rfl
  refine pure_ (i := 4) (N := some 7) (v := ?_) (a' := ?_) #[true, true, true, false, true, false, false, false, false, false, false, false, false] rfl rfl (by kernel_rfl) (fun _ _ _ h => h) (Or.inl ⟨by rfl, ?_⟩) ?_ ?_
  rotate_left
  · intro w'
    go_simp
    with_reducible rfl
  rotate_left
  · simp only [Act.put, List.setIfInBounds_toArray, List.set_cons_zero, List.set_cons_succ, i64_w, i32_w, hww]
    rfl
  refine pure_ (i := 5) (N := some 8) (v := ?_) (a' := ?_) #[true, true, true, false, true, true, false, false, false, false, false, false, false] rfl rfl (by kernel_rfl) (fun _ _ _ h => h) (Or.inl ⟨by rfl, ?_⟩) ?_ ?_
  rotate_left
  · intro w'
    go_simp
    with_reducible rfl
  rotate_left
  · simp only [Act.put, List.setIfInBounds_toArray, List.set_cons_zero, List.set_cons_succ, i64_w, i32_w, hww]
    rfl
  refine pure_ (i := 6) (N := some 9) (v := ?_) (a' := ?_) #[true, true, true, false, true, true, true, false, false, false, false, false, false] rfl rfl (by kernel_rfl) (fun _ _ _ h => h) (Or.inl ⟨by rfl, ?_⟩) ?_ ?_
  rotate_left
  · intro w'
    go_simp
    with_reducible rfl
  rotate_left
  · simp only [Act.put, List.setIfInBounds_toArray, List.set_cons_zero, List.set_cons_succ, i64_w, i32_w, hww]
    rfl
  refine take_ (i := 3) (N := some 6) (v := ?_) (a' := ?_) #[true, true, true, true, true, true, true, false, false, false, false, false, false] rfl rfl (by kernel_rfl) (fun _ _ _ h => h) (Or.inl ⟨by rfl, ?_⟩) hHeld ?_ ?_
  rotate_left
  · rintro w' ⟨s0, s1, s2, s3, s4⟩
    go_simp
    with_reducible rfl
  rotate_left
  · simp only [Act.put, List.setIfInBounds_toArray, List.set_cons_zero, List.set_cons_succ, i64_w, i32_w, hww]
    rfl
  refine take_ (i := 7) (N := some 10) (v := ?_) (a' := ?_) #[true, true, true, true, true, true, true, true, false, false, false, false, false] rfl rfl (by kernel_rfl) (fun _ _ _ h => h) (Or.inl ⟨by rfl, ?_⟩) hHeld ?_ ?_
  rotate_left
  · rintro w' ⟨s0, s1, s2, s3, s4⟩
    go_simp
    with_reducible rfl
  rotate_left
  · simp only [Act.put, List.setIfInBounds_toArray, List.set_cons_zero, List.set_cons_succ, i64_w, i32_w, hww]
    rfl
  refine pure_ (i := 8) (N := some 11) (v := ?_) (a' := ?_) #[true, true, true, true, true, true, true, true, true, false, false, false, false] rfl rfl (by kernel_rfl) (fun _ _ _ h => h) (Or.inl ⟨by rfl, ?_⟩) ?_ ?_
  rotate_left
  · intro w'
    go_simp
    with_reducible rfl
  rotate_left
  · simp only [Act.put, List.setIfInBounds_toArray, List.set_cons_zero, List.set_cons_succ, i64_w, i32_w, hww]
    rfl
  refine pure_ (i := 9) (N := some 12) (v := ?_) (a' := ?_) #[true, true, true, true, true, true, true, true, true, true, false, false, false] rfl rfl (by kernel_rfl) (fun _ _ _ h => h) (Or.inl ⟨by rfl, ?_⟩) ?_ ?_
  rotate_left
  · intro w'
    go_simp
    with_reducible rfl
  rotate_left
  · simp only [Act.put, List.setIfInBounds_toArray, List.set_cons_zero, List.set_cons_succ, i64_w, i32_w, hww]
    rfl
  refine pure_ (i := 10) (N := some 13) (v := ?_) (a' := ?_) #[true, true, true, true, true, true, true, true, true, true, true, false, false] rfl rfl (by kernel_rfl) (fun _ _ _ h => h) (Or.inl ⟨by rfl, ?_⟩) ?_ ?_
  rotate_left
  · intro w'
    go_simp
    rw [if_pos (by omega)]
  rotate_left
  · simp only [Act.put, List.setIfInBounds_toArray, List.set_cons_zero, List.set_cons_succ, i64_w, i32_w, hww]
    rfl
  refine take_ (i := 11) (N := some 14) (v := ?_) (a' := ?_) #[true, true, true, true, true, true, true, true, true, true, true, true, false] rfl rfl (by kernel_rfl) (fun _ _ _ h => h) (Or.inl ⟨by rfl, ?_⟩) hHeld ?_ ?_
  rotate_left
  · rintro w' ⟨s0, s1, s2, s3, s4⟩
    go_simp
    with_reducible rfl
  rotate_left
  · simp only [Act.put, List.setIfInBounds_toArray, List.set_cons_zero, List.set_cons_succ, i64_w, i32_w, hww]
    rfl
  refine last_ (i := 12) (N := none) #[true, true, true, true, true, true, true, true, true, true, true, true, true] rfl rfl (by kernel_rfl) (by decide) (fun K hK => ?_)
  rw [if_pos (by rfl)]
  refine wp_store_row PlT (.tmp 2) (.tmp 14) rfl g #[.int .i64 pA, .int .i64 pW, .int .i64 pL, .int .i64 pC] rfl rfl PlT #[.int .i64 0, .int .i64 0, .int .i64 0, .int .i64 0] (show w.drew.heap[g]? = _ from HX.out) (by kernel_rfl) rfl (onePl _ _ _ _) ?_
  refine hK.out _ _ ?_
  clear hK K
  refine done_ (by kernel_rfl) ?_
  have hR := setRow_heap w.drew g _ #[.int .i64 pA, .int .i64 pW, .int .i64 pL, .int .i64 pC] _ _ (show w.drew.heap[g]? = _ from HX.out)
  go_wp2
  (try simp only [Exit.inBlock, Exit.then])
  refine bodyPost_ret (results_cell_row rfl _ _ g PlT _ (0, 0) _ rfl hR Tryd.underlying57 rfl (by kernel_rfl)) rfl ?_
  exact ⟨rfl, below_setRow (below_of HB.out (below_drew (Below.refl _ _))) (by have := HG.out; omega) _⟩
set_option maxHeartbeats 4000000 in
set_option maxRecDepth 100000 in
theorem count_any (b : Nat) (A : Option Addr) (c : Nat) (us : List Un) (w : World) (h : MapU w b A c us) :
    Calls Tryd.prog 10 #[.pointer (some ⟨b, 0, none⟩)] w fun e w' => e = .returned (.tuple #[.int .i64 (plA us us.length).1, .int .i64 us.length, .int .i64 (plA us us.length).2.1, .int .i64 (plA us us.length).2.2.1]) ∧ Below w.heap.size w w' := by
  have HM := Sh.mk h
  have hl := h.C.2.1
  have hsm := h.small
  clear h
  go_enter Tryd.func10, Tryd.ntmps10
  go_wp2_with fail
  refine (last_any b A c us w HM.out).mono ?_
  rintro e w1 ⟨rfl, hb⟩
  obtain ⟨⟨pA, pW, pL, pC⟩, hp⟩ : ∃ p : Pl, p = plA us us.length := ⟨_, rfl⟩
  rw [← hp]
  have HP := Sh.mk hp
  have HB := Sh.mk hb
  have hb2 : Below w1.heap.size w1 (w1.alloc (.cells #[.int .i64 pA, .int .i64 pW, .int .i64 pL, .int .i64 pC] PlT)) := below_alloc (Below.refl _ _) _
  have x1 := ((HM.out.below hb).below hb2).cell
  have HB2 := Sh.mk (below_of hb hb2)
  clear hb hb2 hp
  go_wp2
  go_quiet (fail)
  go_wp2
  (try simp only [Exit.inBlock, Exit.then])
  refine bodyPost_ret (results_tmp4 rfl _ _ _) rfl ?_
  rw [← HP.out]
  exact ⟨rfl, below_of HB2.out (pw_below_drewN (Below.refl _ _) _)⟩
set_option maxHeartbeats 4000000 in
set_option maxRecDepth 100000 in
theorem rCount_any (b : Nat) (A : Option Addr) (c : Nat) (us : List Un) (w : World) (h : RMapU w b A c us) :
    Calls Tryd.prog 15 #[.pointer (some ⟨b, 0, none⟩)] w fun e w' => e = .returned (.tuple #[.int .i64 (plA us us.length).1, .int .i64 us.length, .int .i64 (plA us us.length).2.1, .int .i64 (plA us us.length).2.2.1]) ∧ Below w.heap.size w w' := by
  have x0 := h.cell
  have hl := h.C.2.1
  have hsm := h.small
  obtain ⟨ad, e1, y0, y1, y2, y3, y4⟩ := C_rp h.C us.length (by omega)
  cases e1
  rw [rdR_rpL us _ us.length (by omega)] at y0 y1 y2 y3 y4
  obtain ⟨⟨qA, qU, qW, qL, qC⟩, hp⟩ : ∃ q : Rp, q = rpA us us.length := ⟨_, rfl⟩
  rw [← hp] at y0 y1 y2 y3 y4
  simp only [] at y0 y1 y2 y3 y4
  have HP := Sh.mk hp
  have hww : wrap64 ((us.length : Nat) : Int) = ((us.length : Nat) : Int) := by unfold wrap64; omega
  clear h hp
  go_enter Tryd.func15, Tryd.ntmps15
  go_wp2
  refine start_ (n := 14) (S := fun w' => w'.cell? ⟨b, 0, none⟩ = some (.slice (some ad) (us.length + 1) c) ∧ w'.cell? (ad.add (us.length * 5)) = some (.int .i64 qA) ∧ w'.cell? ⟨(ad.add (us.length * 5)).block, (ad.add (us.length * 5)).off + 1, none⟩ = some (.int .i64 qU) ∧ w'.cell? ⟨(ad.add (us.length * 5)).block, (ad.add (us.length * 5)).off + 2, none⟩ = some (.int .i64 qW) ∧ w'.cell? ⟨(ad.add (us.length * 5)).block, (ad.add (us.length * 5)).off + 3, none⟩ = some (.int .i64 qL) ∧ w'.cell? ⟨(ad.add (us.length * 5)).block, (ad.add (us.length * 5)).off + 4, none⟩ = some (.int .i64 qC)) (ds := [13]) #[false, false, false, false, false, false, false, false, false, false, false, false, false, false] (by kernel_rfl) rfl rfl ⟨cellD x0, cellD y0, cellD y1, cellD y2, cellD y3, cellD y4⟩ (fun hHeld => ?_)
  refine pure_ (i := 0) (N := some 7) (v := ?_) (a' := ?_) #[true, false, false, false, false, false, false, false, false, false, false, false, false, false] rfl rfl (by kernel_rfl) (fun _ _ _ h => h) (Or.inl ⟨by rfl, ?_⟩) ?_ ?_
  rotate_left
  · intro w'
    go_simp
    with_reducible rfl
  rotate_left
  · simp only [Act.put, List.setIfInBounds_toArray, List.set_cons_zero, List.set_cons_succ, i64_w, i32_w, hww]
    rfl
  refine pure_ (i := 1) (N := some 8) (v := ?_) (a' := ?_) #[true, true, false, false, false, false, false, false, false, false, false, false, false, false] rfl rfl (by kernel_rfl) (fun _ _ _ h => h) (Or.inl ⟨by rfl, ?_⟩) ?_ ?_
  rotate_left
  · intro w'
    go_simp
    with_reducible rfl
  rotate_left
  · simp only [Act.put, List.setIfInBounds_toArray, List.set_cons_zero, List.set_cons_succ, i64_w, i32_w, hww]
    rfl
  refine pure_ (i := 2) (N := some 9) (v := ?_) (a' := ?_) #[true, true, true, false, false, false, false, false, false, false, false, false, false, false] rfl rfl (by kernel_rfl) (fun _ _ _ h => h) (Or.inl ⟨by rfl, ?_⟩) ?_ ?_
  rotate_left
  · intro w'
    go_simp
    with_reducible rfl
  rotate_left
  · simp only [Act.put, List.setIfInBounds_toArray, List.set_cons_zero, List.set_cons_succ, i64_w, i32_w, hww]
    rfl
  refine pure_ (i := 4) (N := some 11) (v := ?_) (a' := ?_) #[true, true, true, false, true, false, false, false, false, false, false, false, false, false] rfl rfl (by kernel_rfl) (fun _ _ _ h => h) (Or.inl ⟨by rfl, ?_⟩) ?_ ?_
  rotate_left
  · intro w'
    go_simp
    with_reducible rfl
  rotate_left
  · simp only [Act.put, List.setIfInBounds_toArray, List.set_cons_zero, List.set_cons_succ, i64_w, i32_w, hww]
    rfl
  refine pure_ (i := 5) (N := some 12) (v := ?_) (a' := ?_) #[true, true, true, false, true, true, false, false, false, false, false, false, false, false] rfl rfl (by kernel_rfl) (fun _ _ _ h => h) (Or.inl ⟨by rfl, ?_⟩) ?_ ?_
  rotate_left
  · intro w'
    go_simp
    with_reducible rfl
  rotate_left
  · simp only [Act.put, List.setIfInBounds_toArray, List.set_cons_zero, List.set_cons_succ, i64_w, i32_w, hww]
    rfl
  refine pure_ (i := 6) (N := some 13) (v := ?_) (a' := ?_) #[true, true, true, false, true, true, true, false, false, false, false, false, false, false] rfl rfl (by kernel_rfl) (fun _ _ _ h => h) (Or.inl ⟨by rfl, ?_⟩) ?_ ?_
  rotate_left
  · intro w'
    go_simp
    with_reducible rfl
  rotate_left
  · simp only [Act.put, List.setIfInBounds_toArray, List.set_cons_zero, List.set_cons_succ, i64_w, i32_w, hww]
    rfl
  refine take_ (i := 3) (N := some 10) (v := ?_) (a' := ?_) #[true, true, true, true, true, true, true, false, false, false, false, false, false, false] rfl rfl (by kernel_rfl) (fun _ _ _ h => h) (Or.inl ⟨by rfl, ?_⟩) hHeld ?_ ?_
  rotate_left
  · rintro w' ⟨s0, s1, s2, s3, s4, s5⟩
    go_simp
    with_reducible rfl
  rotate_left
  · simp only [Act.put, List.setIfInBounds_toArray, List.set_cons_zero, List.set_cons_succ, i64_w, i32_w, hww]
    rfl
  refine take_ (i := 7) (N := some 14) (v := ?_) (a' := ?_) #[true, true, true, true, true, true, true, true, false, false, false, false, false, false] rfl rfl (by kernel_rfl) (fun _ _ _ h => h) (Or.inl ⟨by rfl, ?_⟩) hHeld ?_ ?_
  rotate_left
  · rintro w' ⟨s0, s1, s2, s3, s4, s5⟩
    go_simp
    with_reducible rfl
  rotate_left
  · simp only [Act.put, List.setIfInBounds_toArray, List.set_cons_zero, List.set_cons_succ, i64_w, i32_w, hww]
    rfl
  refine pure_ (i := 8) (N := some 15) (v := ?_) (a' := ?_) #[true, true, true, true, true, true, true, true, true, false, false, false, false, false] rfl rfl (by kernel_rfl) (fun _ _ _ h => h) (Or.inl ⟨by rfl, ?_⟩) ?_ ?_
  rotate_left
  · intro w'
    go_simp
    with_reducible rfl
  rotate_left
  · simp only [Act.put, List.setIfInBounds_toArray, List.set_cons_zero, List.set_cons_succ, i64_w, i32_w, hww]
    rfl
  refine pure_ (i := 9) (N := some 16) (v := ?_) (a' := ?_) #[true, true, true, true, true, true, true, true, true, true, false, false, false, false] rfl rfl (by kernel_rfl) (fun _ _ _ h => h) (Or.inl ⟨by rfl, ?_⟩) ?_ ?_
  rotate_left
  · intro w'
    go_simp
    with_reducible rfl
  rotate_left
  · simp only [Act.put, List.setIfInBounds_toArray, List.set_cons_zero, List.set_cons_succ, i64_w, i32_w, hww]
    rfl
  refine pure_ (i := 10) (N := some 17) (v := ?_) (a' := ?_) #[true, true, true, true, true, true, true, true, true, true, true, false, false, false] rfl rfl (by kernel_rfl) (fun _ _ _ h => h) (Or.inl ⟨by rfl, ?_⟩) ?_ ?_
  rotate_left
  · intro w'
    go_simp
    rw [if_pos (by omega)]
  rotate_left
  · simp only [Act.put, List.setIfInBounds_toArray, List.set_cons_zero, List.set_cons_succ, i64_w, i32_w, hww]
    rfl
  refine take_ (i := 11) (N := some 18) (v := ?_) (a' := ?_) #[true, true, true, true, true, true, true, true, true, true, true, true, false, false] rfl rfl (by kernel_rfl) (fun _ _ _ h => h) (Or.inl ⟨by rfl, ?_⟩) hHeld ?_ ?_
  rotate_left
  · rintro w' ⟨s0, s1, s2, s3, s4, s5⟩
    go_simp
    with_reducible rfl
  rotate_left
  · simp only [Act.put, List.setIfInBounds_toArray, List.set_cons_zero, List.set_cons_succ, i64_w, i32_w, hww]
    rfl
  refine one_ (i := 12) (N := some 6) #[true, true, true, true, true, true, true, true, true, true, true, true, true, false] rfl rfl (by kernel_rfl) (by decide) (fun K hK => ?_)
  refine value_ (w1 := ?_) (v := ?_) (by rfl) rfl ?_ ?_
  rotate_left 2
  · go_simp
    constructor
    · rfl
    · rfl
  refine hK.out _ _ ⟨(cellB (below_of (below_drew (Below.refl _ _)) (below_alloc (Below.refl _ _) _)) x0), (cellB (below_of (below_drew (Below.refl _ _)) (below_alloc (Below.refl _ _) _)) y0), (cellB (below_of (below_drew (Below.refl _ _)) (below_alloc (Below.refl _ _) _)) y1), (cellB (below_of (below_drew (Below.refl _ _)) (below_alloc (Below.refl _ _) _)) y2), (cellB (below_of (below_drew (Below.refl _ _)) (below_alloc (Below.refl _ _) _)) y3), (cellB (below_of (below_drew (Below.refl _ _)) (below_alloc (Below.refl _ _) _)) y4)⟩ (fun hHeld => ?_)
  clear hK K
  refine norm_ (a' := ?_) ?_ ?_
  rotate_left
  · show Act.put _ (some 6) _ = _
    simp only [Act.put, List.setIfInBounds_toArray, List.set_cons_zero, List.set_cons_succ, i64_w, i32_w, hww]
    rfl
  refine last_ (i := 13) (N := none) #[true, true, true, true, true, true, true, true, true, true, true, true, true, true] rfl rfl (by kernel_rfl) (by decide) (fun K hK => ?_)
  rw [if_pos (by rfl)]
  refine wp_store_row RpT (.tmp 6) (.tmp 18) rfl w.heap.size #[.int .i64 qA, .int .i64 qU, .int .i64 qW, .int .i64 qL, .int .i64 qC] rfl rfl RpT #[.int .i64 0, .int .i64 0, .int .i64 0, .int .i64 0, .int .i64 0] (blk_new w.drew (.cells #[.int .i64 0, .int .i64 0, .int .i64 0, .int .i64 0, .int .i64 0] RpT)) (by kernel_rfl) rfl (oneRp _ _ _ _ _) ?_
  refine hK.out _ _ ?_
  clear hK K
  refine done_ (by kernel_rfl) ?_
  have hR := setRow_heap (w.alloc (.cells #[.int .i64 0, .int .i64 0, .int .i64 0, .int .i64 0, .int .i64 0] 63)).drew w.heap.size _ #[.int .i64 qA, .int .i64 qU, .int .i64 qW, .int .i64 qL, .int .i64 qC] _ _ (show (w.alloc (.cells #[.int .i64 0, .int .i64 0, .int .i64 0, .int .i64 0, .int .i64 0] 63)).drew.heap[w.heap.size]? = _ from blk_new w (.cells #[.int .i64 0, .int .i64 0, .int .i64 0, .int .i64 0, .int .i64 0] 63))
  have hBB : Below w.heap.size w ((w.alloc (.cells #[.int .i64 0, .int .i64 0, .int .i64 0, .int .i64 0, .int .i64 0] 63)).drew.setRow w.heap.size #[.int .i64 qA, .int .i64 qU, .int .i64 qW, .int .i64 qL, .int .i64 qC]) := below_setRow (below_of (below_alloc (Below.refl w.heap.size w) (.cells #[.int .i64 0, .int .i64 0, .int .i64 0, .int .i64 0, .int .i64 0] 63)) (below_drew (Below.refl _ _))) (Nat.le_refl w.heap.size) #[.int .i64 qA, .int .i64 qU, .int .i64 qW, .int .i64 qL, .int .i64 qC]
  obtain ⟨w5, hw5⟩ : ∃ w5, w5 = (w.alloc (.cells #[.int .i64 0, .int .i64 0, .int .i64 0, .int .i64 0, .int .i64 0] 63)).drew.setRow w.heap.size #[.int .i64 qA, .int .i64 qU, .int .i64 qW, .int .i64 qL, .int .i64 qC] := ⟨_, rfl⟩
  rw [← hw5] at hR hBB ⊢
  have z0 := blk_cell hR 0
  have z1 := blk_cell hR 1
  have z2 := blk_cell hR 2
  have z3 := blk_cell hR 3
  simp only [List.getElem?_toArray, List.getElem?_cons_zero, List.getElem?_cons_succ] at z0 z1 z2 z3
  have HB := Sh.mk hBB
  clear hR hBB hw5
  go_wp2
  go_quiet (fail)
  go_wp2
  (try simp only [Exit.inBlock, Exit.then])
  refine bodyPost_ret (results_tmp4 rfl _ _ _) rfl ?_
  have hq : (qA, qU, qW, qL, qC) = rpA us us.length := HP.out
  simp only [rpA, Prod.mk.injEq] at hq
  rw [← hq.1, ← hq.2.1, ← hq.2.2.1, ← hq.2.2.2.1]
  exact ⟨rfl, below_of HB.out (pw_below_drewN (Below.refl _ _) _)⟩
end Go.Proofs.YtbpadakcjnkjeaaDoor
