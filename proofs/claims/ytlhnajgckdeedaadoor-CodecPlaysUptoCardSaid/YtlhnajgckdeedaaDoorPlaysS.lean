/-
What lies in memory while caesuralaw1.CodecPlays reads: the box, the list with marks, two readers. No condition.
-/
import Derived.Test.YtlhnajgckdeedaaDoorWritesW
import Derived.Test.YtlhnajgckdeedaaDoorRefRt
import Derived.Test.YtlhnajgckdeedaaDoorSpare
namespace Go.Proofs.YtlhnajgckdeedaaDoor
open Go Go.RowKit Go.Proofs.YtlhnajgckdeedaaDoorW.PrintWords Go.Proofs.YtlhnajgckdeedaaDoorW.PrintLast Go.Proofs.YtlhnajgckdeedaaDoorW.PrintMore
abbrev ScT : TypeId := 62
theorem R_gr {w w1 : World} {B : Nat} {v : Value} {xs : List Int} {r : Nat} (h : Kd.R (Kd.int .u8) 5 w B (fun _ => True) v xs) (hg : w.grownBy w1 (some r)) (hr : v.ownBlock ≠ some r) : Kd.R (Kd.int .u8) 5 w1 B (fun _ => True) v xs := by
  have ht : Kd.R (Kd.int .u8) 5 w B (fun i => some i = v.ownBlock) v xs := Kd.R_tight rfl h
  exact Kd.R_mono (Kd.R_grown ht hg (fun k hk e => hr (hk.symm.trans e))) (fun _ _ => trivial)
theorem R_base {w : World} {B : Nat} {v : Value} {xs : List Int} {r : Nat} (h : Kd.R (Kd.int .u8) 5 w B (fun _ => True) v xs) (hr : r < B) : v.ownBlock ≠ some r := by
  obtain ⟨inner, ho⟩ := Kd.R_own h
  intro e
  have := own_base ho r e
  omega
theorem set_gr (w : World) (G i : Nat) (v : Value) : w.grownBy (w.setCell ⟨G, i, none⟩ v) (some G) := ⟨rfl, rfl, rfl, by simp [World.setCell], fun k _ hk => Below.heap_setCell _ _ _ _ (fun e => hk (by rw [e]))⟩
structure PS (w0 W : World) (g : Nat) (cs : Array Value) (G cg n : Nat) (gl : List Int) (B1 r1 : Nat) (A1 : Option Addr) (c1 B2 r2 : Nat) (A2 : Option Addr) (c2 : Nat) (xs : List Int) (p1 p2 : Nat) : Prop where
  bel : Below w0.heap.size w0 W
  box : W.heap[g]? = some (.cells cs ScT (0, 0))
  row : Kd.R (Kd.int .u8) 5 W w0.heap.size (fun _ => True) (.slice (some ⟨G, 0, none⟩) n cg) gl
  len : gl.length = n
  a : Rdr W B1 r1 A1 c1 xs p1
  b : RRd W B2 r2 A2 c2 xs p2
  h1 : w0.heap.size ≤ r1
  h2 : w0.heap.size ≤ r2
  g1 : G < B1
  g2 : G < B2
section
variable {w0 W W1 : World} {g : Nat} {cs : Array Value} {G cg n : Nat} {gl : List Int} {B1 r1 : Nat} {A1 : Option Addr} {c1 B2 r2 : Nat} {A2 : Option Addr} {c2 : Nat} {xs : List Int} {p1 p2 : Nat}
theorem PS.below (h : PS w0 W g cs G cg n gl B1 r1 A1 c1 B2 r2 A2 c2 xs p1 p2) (hb : Below W.heap.size W W1) : PS w0 W1 g cs G cg n gl B1 r1 A1 c1 B2 r2 A2 c2 xs p1 p2 :=
  ⟨below_of h.bel hb, blk_below h.box hb, Kd.R_below h.row hb, h.len, h.a.below hb, h.b.below hb, h.h1, h.h2, h.g1, h.g2⟩
theorem Rdr.gr {B b : Nat} {A : Option Addr} {c : Nat} {xs : List Int} {pos r : Nat} (h : Rdr W B b A c xs pos) (hg : W.grownBy W1 (some r)) (h1 : b ≠ r) (h2 : (Value.slice A xs.length c).ownBlock ≠ some r) : Rdr W1 B b A c xs pos :=
  ⟨(hg.block b h.lt (fun e => h1 (Option.some.inj e))).trans h.blk, R_gr h.row hg h2, h.pos_le⟩
theorem RRd.gr {B b : Nat} {A : Option Addr} {c : Nat} {xs : List Int} {pos r : Nat} (h : RRd W B b A c xs pos) (hg : W.grownBy W1 (some r)) (h1 : b ≠ r) (h2 : (Value.slice A xs.length c).ownBlock ≠ some r) : RRd W1 B b A c xs pos :=
  ⟨(hg.block b h.lt (fun e => h1 (Option.some.inj e))).trans h.blk, R_gr h.row hg h2, h.pos_le⟩
theorem ne_typed {w : World} {a b : Nat} {x y : Array Value} {s t : TypeId} {u v : Nat × Nat} (h1 : w.heap[a]? = some (.cells x s u)) (h2 : w.heap[b]? = some (.cells y t v)) (hst : s ≠ t) : a ≠ b := by
  rintro rfl
  rw [h1] at h2
  simp only [Option.some.injEq, Obj.cells.injEq] at h2
  exact hst h2.2.1
theorem row_ne {w : World} {B : Nat} {v : Value} {xs : List Int} {r : Nat} {x : Array Value} {t : TypeId} (h : Kd.R (Kd.int .u8) 5 w B (fun _ => True) v xs) (hb : w.heap[r]? = some (.cells x t (0, 0))) (ht : 5 ≠ t) : v.ownBlock ≠ some r := fun e => (Kd.R_ne h hb ht) e.symm
theorem PS.store (h : PS w0 W g cs G cg n gl B1 r1 A1 c1 B2 r2 A2 c2 xs p1 p2) (i : Nat) (y : Int) : PS w0 (W.setCell ⟨G, i, none⟩ (.int .u8 y)) g cs G cg n (gl.set i y) B1 r1 A1 c1 B2 r2 A2 c2 xs p1 p2 := by
  have hGr := set_gr W G i (.int .u8 y)
  obtain ⟨inner, ho⟩ := Kd.R_own h.row
  have hG := own_base ho G rfl
  have e0 : G ≠ g := fun e => (row_ne h.row h.box (by decide)) (by rw [← e]; rfl)
  have e1 : G ≠ r1 := fun e => (row_ne h.row h.a.blk (by decide)) (by rw [← e]; rfl)
  have e2 : G ≠ r2 := fun e => (row_ne h.row h.b.blk (by decide)) (by rw [← e]; rfl)
  refine ⟨h.bel.setCell (p := ⟨G, i, none⟩) hG _, (hGr.block g (blk_lt h.box) (fun e => e0 (Option.some.inj e).symm)).trans h.box, R_st h.row i y, by rw [List.length_set]; exact h.len,
    h.a.gr hGr (fun e => e1 e.symm) (R_base h.a.row h.g1), h.b.gr hGr (fun e => e2 e.symm) (R_base h.b.row h.g2), h.h1, h.h2, h.g1, h.g2⟩
theorem PS.moveA {q : Nat} (h : PS w0 W g cs G cg n gl B1 r1 A1 c1 B2 r2 A2 c2 xs p1 p2) (ha : Rdr W1 B1 r1 A1 c1 xs q) (hg : W.grownBy W1 (some r1)) : PS w0 W1 g cs G cg n gl B1 r1 A1 c1 B2 r2 A2 c2 xs q p2 :=
  ⟨below_gr h.bel (Nat.le_refl _) hg (fun i e => by cases e; exact h.h1), (hg.block g (blk_lt h.box) (fun e => ne_typed h.box h.a.blk (by decide) (Option.some.inj e))).trans h.box, R_gr h.row hg (row_ne h.row h.a.blk (by decide)), h.len, ha,
    h.b.gr hg (ne_typed h.b.blk h.a.blk (by decide)) (row_ne h.b.row h.a.blk (by decide)), h.h1, h.h2, h.g1, h.g2⟩
theorem PS.moveB {q : Nat} (h : PS w0 W g cs G cg n gl B1 r1 A1 c1 B2 r2 A2 c2 xs p1 p2) (hb : RRd W1 B2 r2 A2 c2 xs q) (hg : W.grownBy W1 (some r2)) : PS w0 W1 g cs G cg n gl B1 r1 A1 c1 B2 r2 A2 c2 xs p1 q :=
  ⟨below_gr h.bel (Nat.le_refl _) hg (fun i e => by cases e; exact h.h2), (hg.block g (blk_lt h.box) (fun e => ne_typed h.box h.b.blk (by decide) (Option.some.inj e))).trans h.box, R_gr h.row hg (row_ne h.row h.b.blk (by decide)), h.len,
    h.a.gr hg (ne_typed h.a.blk h.b.blk (by decide)) (row_ne h.a.row h.b.blk (by decide)), hb, h.h1, h.h2, h.g1, h.g2⟩
/-- A third reader, laid behind the two, moves. -/
theorem PS.other {B3 r3 : Nat} {A3 : Option Addr} {c3 : Nat} {ys : List Int} {p3 : Nat} (h : PS w0 W g cs G cg n gl B1 r1 A1 c1 B2 r2 A2 c2 xs p1 p2) (h3 : Rdr W B3 r3 A3 c3 ys p3) (hne : r1 ≠ r3) (hr : w0.heap.size ≤ r3) (hg : W.grownBy W1 (some r3)) : PS w0 W1 g cs G cg n gl B1 r1 A1 c1 B2 r2 A2 c2 xs p1 p2 :=
  ⟨below_gr h.bel (Nat.le_refl _) hg (fun i e => by cases e; exact hr), (hg.block g (blk_lt h.box) (fun e => ne_typed h.box h3.blk (by decide) (Option.some.inj e))).trans h.box, R_gr h.row hg (row_ne h.row h3.blk (by decide)), h.len,
    h.a.gr hg hne (row_ne h.a.row h3.blk (by decide)), h.b.gr hg (ne_typed h.b.blk h3.blk (by decide)) (row_ne h.b.row h3.blk (by decide)), h.h1, h.h2, h.g1, h.g2⟩
theorem PS.cells (h : PS w0 W g cs G cg n gl B1 r1 A1 c1 B2 r2 A2 c2 xs p1 p2) (i : Nat) : W.cell? ⟨g, i, none⟩ = cs[i]? := blk_cell h.box i
end
end Go.Proofs.YtlhnajgckdeedaaDoor
