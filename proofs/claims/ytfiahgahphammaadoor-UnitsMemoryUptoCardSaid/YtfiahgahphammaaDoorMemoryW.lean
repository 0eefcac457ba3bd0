/-
The walk of caesuralaw2.UnitsMemory: answers are new memory. Conditions: the text's size; the table reads as listed.
-/
import Derived.Test.YtfiahgahphammaaDoorSameUnits
namespace Go.Proofs.YtfiahgahphammaaDoor
open Go Go.RowKit Go.Proofs.YtfiahgahphammaaDoorW.PrintWords Go.Proofs.YtfiahgahphammaaDoorW.PrintLast Go.Proofs.YtfiahgahphammaaDoorW.PrintMore
/-- A list of units that is read, in its block. -/
theorem C_block {w w' : World} {g o n : Nat} {xs : List (Int × Int × Int)} (h : unitK.C w (some ⟨g, o, none⟩) n xs) (hg : w'.heap[g]? = w.heap[g]?) : unitK.C w' (some ⟨g, o, none⟩) n xs := by
  obtain ⟨h1, h2, h3⟩ := h
  refine ⟨h1, h2, fun hn => ?_⟩
  obtain ⟨ad, e, hc⟩ := h3 hn
  cases e
  refine ⟨_, rfl, fun j p hj => ?_⟩
  obtain ⟨c, hs, hp, hcell⟩ := hc j p hj
  refine ⟨c, hs, hp, fun i u hu => ?_⟩
  have e2 : ∀ m, ((⟨g, o, none⟩ : Addr).add m).block = g := fun m => by unfold Addr.add; split <;> simp_all
  exact (World.cell?_of_block (by rw [e2]; exact hg)).trans (hcell i u hu)
theorem own_of_RU {e : Nat} {w : World} {base : Nat} {ok : Nat → Prop} {v : Value} {xs : List (Int × Int × Int)} (h : unitK.R e w base ok v xs) : ∃ cs, w.ownsRow base e 3 v xs.length cs := by
  obtain ⟨_, inner, h1, _⟩ := h
  exact ⟨inner, h1⟩
/-- A unit stored into a row of one's own. -/
theorem own_set3 {w : World} {base e g cap n : Nat} {cs : List Value} (h : w.ownsRow base e 3 (.slice (some ⟨g, 0, none⟩) n cap) n cs) (j : Nat) (a b c : Value) :
    ∃ ds, (((w.setCell ⟨g, j, none⟩ a).setCell ⟨g, j + 1, none⟩ b).setCell ⟨g, j + 2, none⟩ c).ownsRow base e 3 (.slice (some ⟨g, 0, none⟩) n cap) n ds ∧ w.grownBy (((w.setCell ⟨g, j, none⟩ a).setCell ⟨g, j + 1, none⟩ b).setCell ⟨g, j + 2, none⟩ c) (some g) := by
  obtain ⟨h1, g1⟩ := h.stored j a
  obtain ⟨h2, g2⟩ := h1.stored (j + 1) b
  obtain ⟨h3, g3⟩ := h2.stored (j + 2) c
  exact ⟨_, h3, (g1.trans g2).trans g3⟩
theorem own_cellsAt {w : World} {base e g cap n : Nat} {cs : List Value} (h : w.ownsRow base e 3 (.slice (some ⟨g, 0, none⟩) n cap) n cs) (j : Nat) (hj : j < n * 3) : (∃ u, w.cell? ⟨g, j, none⟩ = some u) ∧ w.frozen? ⟨g, j, none⟩ = false := by
  rcases h.2 with ⟨h', _⟩ | ⟨g', cap', cur, h', hb, hg, hnc, hcm, hcs, htake⟩
  · simp at h'
  · simp only [Value.slice.injEq, Option.some.injEq, Addr.mk.injEq, and_true, true_and] at h'
    obtain ⟨rfl, rfl⟩ := h'
    have hlt : j < cur.size := by
      have : n * 3 ≤ cap * 3 := Nat.mul_le_mul_right _ hnc
      omega
    exact ⟨⟨cur[j], by simp [World.cell?, hg, hlt]⟩, by simp [World.frozen?, hg]⟩
theorem grow_blk {w w' : World} {r : Option Nat} {k : Nat} {o : Obj} (h : w.grownBy w' r) (hk : w.heap[k]? = some o) (hr : some k ≠ r) : w'.heap[k]? = some o := (h.block k (blk_lt hk) hr).trans hk
theorem grow_same {w w' : World} {r : Option Nat} {k : Nat} (h : w.grownBy w' r) (hk : k < w.heap.size) (hr : some k ≠ r) : w'.heap[k]? = w.heap[k]? := h.block k hk hr
theorem below_grow {w w1 w2 : World} {r : Option Nat} (h : Below w.heap.size w w1) (hg : w1.grownBy w2 r) (hr : ∀ k, r = some k → w.heap.size ≤ k) : Below w.heap.size w w2 :=
  ⟨hg.os.trans h.os, hg.tape.trans h.tape, hg.output.trans h.output, Nat.le_trans h.size hg.size, fun k hk => (hg.block k (Nat.lt_of_lt_of_le hk h.size) (fun e => by have := hr k e.symm; omega)).trans (h.block k hk)⟩
/-- What must stay: the two lists that are told apart, and the table. -/
structure Stay (w : World) (G2 p2 B2 G3 n : Nat) (xs : List (Int × Int × Int)) (A : World) : Prop where
  c2 : unitK.C A (some ⟨G2, 0, none⟩) n xs
  o2 : ∃ cs, A.ownsRow B2 39 3 (.slice (some ⟨G2, 0, none⟩) n p2) n cs
  c3 : unitK.C A (some ⟨G3, 0, none⟩) n xs
  b : Below w.heap.size w A
  f : FormsAt A
  l2 : G2 < A.heap.size
  l3 : G3 < A.heap.size
theorem Stay.grow {w A C : World} {G2 p2 B2 G3 n : Nat} {xs : List (Int × Int × Int)} {r : Option Nat} (h : Stay w G2 p2 B2 G3 n xs A) (hg : A.grownBy C r) (h2 : r ≠ some G2) (h3 : r ≠ some G3) (hw : ∀ k, r = some k → w.heap.size ≤ k) (hf : 11 < w.heap.size) : Stay w G2 p2 B2 G3 n xs C where
  c2 := C_block h.c2 (hg.block _ h.l2 (fun e => h2 e.symm))
  o2 := by
    obtain ⟨cs, hc⟩ := h.o2
    refine ⟨cs, own_move hc (fun k hk => ?_)⟩
    obtain rfl : G2 = k := by simpa [Value.ownBlock] using hk
    exact hg.block _ h.l2 (fun e => h2 e.symm)
  c3 := C_block h.c3 (hg.block _ h.l3 (fun e => h3 e.symm))
  b := below_grow h.b hg hw
  f := by
    obtain ⟨t, ht⟩ := h.f
    exact ⟨t, grow_blk hg ht (fun e => by have := hw _ e.symm; omega)⟩
  l2 := Nat.lt_of_lt_of_le h.l2 hg.size
  l3 := Nat.lt_of_lt_of_le h.l3 hg.size
theorem grow_below {A C : World} (hb : Below A.heap.size A C) : A.grownBy C none := ⟨hb.os, hb.tape, hb.output, hb.size, fun k hk _ => hb.block k hk⟩
/-- A longer and longer row of one's own, not the two lists. -/
structure Longer (w : World) (G2 G3 m : Nat) (v : Value) (A : World) : Prop where
  o : ∃ cs, A.ownsRow w.heap.size 39 3 v m cs
  n2 : v.ownBlock ≠ some G2
  n3 : v.ownBlock ≠ some G3
section
variable {P : Program} {ops : Array Oper} {rest : List Oper} {o : Oper} {a : Act} {Q : Exit → Act → World → Prop}
theorem app_longer (t : Nat) (ht : P.underlying t = some (.slice 39)) (hinfo : (P.info? 39).map (fun i => (i.zero, i.size, i.bytes)) = some (some (.agg #[.int .i64 0, .int .i64 0, .int .i64 0]), 3, 24))
    (s x : Operand) {w W : World} (G2 p2 B2 G3 n m : Nat) (xs : List (Int × Int × Int)) (v : Value) (p q r : Int) (hf : 11 < w.heap.size)
    (ho : o.op = .call { callee := .builtin .append, args := #[s, x], argTypes := #[t, t] }) (hgd : o.guard = none) (hs : a.eval s = v) (hx : a.eval x = .slice (some ⟨W.heap.size, 0, none⟩) 1 1)
    (HO : Sh (Longer w G2 G3 m v W)) (HS : Sh (Stay w G2 p2 B2 G3 n xs W)) (hl : (m + 1) * 24 ≤ 140737488355328)
    (h : ∀ v1 w1, Sh (Longer w G2 G3 (m + 1) v1 w1) → Sh (Stay w G2 p2 B2 G3 n xs w1) → W.grownBy w1 v.ownBlock → wpList P ops Q rest (a.put o.dst v1) w1) :
    wpList P ops Q (o :: rest) a (W.alloc (.cells #[.int .i64 p, .int .i64 q, .int .i64 r] 39)) := by
  obtain ⟨cs, hcs⟩ := HO.out.o
  refine print_append_cells (w0 := w) w.heap.size hgd s x t 39 (.agg #[.int .i64 0, .int .i64 0, .int .i64 0]) 3 24 ho ht hinfo rfl (by decide) (by decide) v m cs [.int .i64 p, .int .i64 q, .int .i64 r] hs hx rfl (by simp [Value.oneCell']) hcs HS.out.b HS.out.b.size hl ?_
  intro v1 w1 hown hb hg hat
  refine h v1 w1 ⟨⟨_, hown⟩, ?_, ?_⟩ ⟨HS.out.grow hg HO.out.n2 HO.out.n3 (fun k hk => ?_) hf⟩ hg
  · rcases hat with e | ⟨b, e, hle⟩
    · rw [e]; exact HO.out.n2
    · rw [e]; intro e2; injection e2 with e2; have := HS.out.l2; omega
  · rcases hat with e | ⟨b, e, hle⟩
    · rw [e]; exact HO.out.n3
    · rw [e]; intro e2; injection e2 with e2; have := HS.out.l3; omega
  · obtain ⟨_, _, _, h3, _⟩ := own_cells hcs hk
    exact h3
end
end Go.Proofs.YtfiahgahphammaaDoor
