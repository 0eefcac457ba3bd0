/-
codec.Writer's strings.Builder inside another struct: what a Writer is in memory, what its calls keep; copyCheck, WriteByte, WriteString, String. Conditions: the length is within Go's bound.
-/
import Derived.Test.YtlhnajgckdeedaaDoorAp
import Derived.Lib.FrozenHead
import Derived.Lib.FrozenHead2
import Derived.Lib.OthersKept
import Derived.Lib.UnsafeStr
import Derived.Laws.Externs
import Derived.RegionTactic
import Derived.ChangeAlike
namespace Go.Proofs.YtlhnajgckdeedaaDoor
open Go Go.RowKit Go.Proofs.YtlhnajgckdeedaaDoorW.PrintWords Go.Proofs.YtlhnajgckdeedaaDoorW.PrintLast Go.Proofs.YtlhnajgckdeedaaDoorW.PrintMore
abbrev WrT : TypeId := 85
abbrev WrB : TypeId := 5
theorem wr_size : (Tryd.prog.info? 83).map (·.size) = some 2 := by kernel_rfl
theorem wr_lies : liesAt Tryd.prog (Tryd.prog).depth WrT (2 / (Tryd.prog).cellsOf WrT) 0 83 1 = true := by kernel_rfl
theorem wr_cells : (Tryd.prog).cellsOf WrB = 1 := by kernel_rfl
theorem wr_ne : WrT ≠ WrB := by decide
/-- What is kept below B, but for block b. -/
structure Fx (B b : Nat) (w w' : World) : Prop where
  os : w'.os = w.os
  tape : w'.tape = w.tape
  output : w'.output = w.output
  size : w.heap.size ≤ w'.heap.size
  block : ∀ k, k < B → k ≠ b → w'.heap[k]? = w.heap[k]?
theorem Fx.refl (B b : Nat) (w : World) : Fx B b w w := ⟨rfl, rfl, rfl, Nat.le_refl _, fun _ _ _ => rfl⟩
theorem Fx.trans {B b : Nat} {w w1 w2 : World} (h : Fx B b w w1) (k : Fx B b w1 w2) : Fx B b w w2 :=
  ⟨k.os.trans h.os, k.tape.trans h.tape, k.output.trans h.output, Nat.le_trans h.size k.size, fun i h1 h2 => (k.block i h1 h2).trans (h.block i h1 h2)⟩
theorem Fx.of_below {B b : Nat} {w w1 : World} (h : Below B w w1) : Fx B b w w1 := ⟨h.os, h.tape, h.output, h.size, fun i h1 _ => h.block i h1⟩
theorem Fx.below {B b : Nat} {w w1 : World} (h : Fx B b w w1) (hB : B ≤ b) : Below B w w1 := ⟨h.os, h.tape, h.output, h.size, fun i h1 => h.block i h1 (by omega)⟩
theorem Fx.alloc {B b : Nat} {w w1 : World} (h : Fx B b w w1) (hB : B ≤ w1.heap.size) (o : Obj) : Fx B b w (w1.alloc o) := h.trans (Fx.of_below ((Below.refl _ _).alloc hB o))
theorem Fx.drewN {B b : Nat} {w w1 : World} (h : Fx B b w w1) (n : Nat) : Fx B b w (w1.drewN n) := ⟨h.os, h.tape, h.output, h.size, h.block⟩
theorem Fx.drew {B b : Nat} {w w1 : World} (h : Fx B b w w1) : Fx B b w w1.drew := ⟨h.os, h.tape, h.output, h.size, h.block⟩
theorem Fx.grown {B b : Nat} {w w1 w2 : World} (h : Fx B b w w1) (hB : B ≤ w1.heap.size) {row : Option Nat} (hg : w1.grownBy w2 row) (hr : ∀ k, row = some k → B ≤ k) : Fx B b w w2 :=
  h.trans ⟨hg.os, hg.tape, hg.output, hg.size, fun k hk _ => hg.block k (by omega) (fun e => by have := hr k e.symm; omega)⟩
theorem Fx.set {B b : Nat} {w w1 : World} (h : Fx B b w w1) {p : Addr} (hp : p.block = b) (v : Value) : Fx B b w (w1.setCell p v) :=
  h.trans ⟨rfl, rfl, rfl, by simp [World.setCell], fun k _ hk => Below.heap_setCell _ _ _ _ (fun e => hk (by rw [e, hp]))⟩
/-- A Writer in memory: its block, its row of bytes (from block B on; its head may be frozen). -/
structure Wr (w : World) (B b : Nat) (v : Value) (l : List UInt8) : Prop where
  blk : ∃ p, (p = .pointer none ∨ p = .pointer (some ⟨b, 0, none⟩)) ∧ w.heap[b]? = some (.cells #[p, v] WrT (0, 0))
  own : w.ownsRowF B WrB 1 v l.length (Lib.byteCells l)
  nil : l = [] → v = .slice none 0 0
theorem Wr.lt {w : World} {B b : Nat} {v : Value} {l : List UInt8} (h : Wr w B b v l) : b < w.heap.size := by
  obtain ⟨p, _, hb⟩ := h.blk
  exact (Array.getElem?_eq_some_iff.1 hb).1
theorem Wr.ne {w : World} {B b : Nat} {v : Value} {l : List UInt8} (h : Wr w B b v l) : v.ownBlock ≠ some b := by
  obtain ⟨p, _, hb⟩ := h.blk
  exact Lib.ownBlock_neF h.own hb wr_ne
theorem Wr.kept {w w1 : World} {B b : Nat} {v : Value} {l : List UInt8} (h : Wr w B b v l) (hb : w1.heap[b]? = w.heap[b]?) (hr : ∀ k, v.ownBlock = some k → w1.heap[k]? = w.heap[k]?) : Wr w1 B b v l := by
  obtain ⟨p, hp, hk⟩ := h.blk
  refine ⟨⟨p, hp, hb.trans hk⟩, ⟨h.own.1, ?_⟩, h.nil⟩
  rcases h.own.2 with hn | ⟨g, cap, cur, fz, hv, hbg, hg, rest⟩
  · exact .inl hn
  · exact .inr ⟨g, cap, cur, fz, hv, hbg, (hr g (by rw [hv]; rfl)).trans hg, rest⟩
theorem Wr.below {w w1 : World} {B b : Nat} {v : Value} {l : List UInt8} (h : Wr w B b v l) (hb : Below w.heap.size w w1) : Wr w1 B b v l :=
  h.kept (hb.block b h.lt) (fun k hk => hb.block k (h.own.lt k hk).2)
/-- What leaves all below B2 but block b2 leaves a Writer whose row lies there. -/
theorem Wr.other {w w1 : World} {B b B2 b2 : Nat} {v : Value} {l : List UInt8} (h : Wr w B b v l) (hf : Fx B2 b2 w w1) (h1 : w.heap.size ≤ B2) (h2 : b ≠ b2) (h3 : v.ownBlock ≠ some b2) : Wr w1 B b v l :=
  h.kept (hf.block b (by have := h.lt; omega) h2) (fun k hk => hf.block k (by have := (h.own.lt k hk).2; omega) (fun e => h3 (by rw [hk, e])))
theorem Wr.rebase {w : World} {B B2 b : Nat} {v : Value} {l : List UInt8} (h : Wr w B b v l) (hB : B2 ≤ B) : Wr w B2 b v l := by
  refine ⟨h.blk, ⟨h.own.1, ?_⟩, h.nil⟩
  rcases h.own.2 with hn | ⟨g, cap, cur, fz, hv, hbg, rest⟩
  · exact .inl hn
  · exact .inr ⟨g, cap, cur, fz, hv, Nat.le_trans hB hbg, rest⟩
/-- A new one. -/
theorem Wr.new (w : World) (B : Nat) : Wr (w.alloc (.cells #[.pointer none, .slice none 0 0] WrT)) B w.heap.size (.slice none 0 0) [] :=
  ⟨⟨_, .inl rfl, blk_new _ _⟩, World.ownsRowF_nil _ _ _ _, fun _ => rfl⟩
set_option maxRecDepth 100000 in
theorem copyCheck_used (b : Nat) (w : World) (h0 : w.cell? ⟨b, 0, none⟩ = some (.pointer (some ⟨b, 0, none⟩))) :
    Calls Tryd.prog 45 #[.pointer (some ⟨b, 0, none⟩)] w fun e w' => e = .returned (.tuple #[]) ∧ w' = w := by
  obtain ⟨j, hj, _⟩ := Option.map_eq_some_iff.1 wr_size
  go_enter Tryd.func45, Tryd.ntmps45
  go_wp2
  rw [Lib.run_neq_ptr_same w _ Tryd.underlying81 hj]
  go_wp2
  go_end0
  exact ⟨rfl, rfl⟩
set_option maxRecDepth 100000 in
theorem copyCheck_fresh (b : Nat) (w : World) (h0 : w.cell? ⟨b, 0, none⟩ = some (.pointer none)) (hsh : w.shape? b = some (WrT, 2)) (hfz : w.frozen? ⟨b, 0, none⟩ = false) :
    Calls Tryd.prog 45 #[.pointer (some ⟨b, 0, none⟩)] w fun e w' => e = .returned (.tuple #[]) ∧ w' = w.setCell ⟨b, 0, none⟩ (.pointer (some ⟨b, 0, none⟩)) := by
  obtain ⟨j, hj, hjs⟩ := Option.map_eq_some_iff.1 wr_size
  go_enter Tryd.func45, Tryd.ntmps45
  go_wp2
  rw [Lib.run_to_unsafe w ⟨b, 0, none⟩ Tryd.underlying81 Tryd.underlying102 hj (by rw [hjs]; decide) hsh (Nat.zero_lt_succ 1)]
  simp only [Result.andThen]
  rw [Oper.upon_value]
  go_wp2
  rw [run_callFunc_extern (f := 50) Tryd.func50 (by kernel_rfl) (by kernel_rfl) (by kernel_rfl) (e := Extern.AbiNoEscape.same) (by kernel_rfl)]
  rw [Lib.run_noEscape]
  simp only [Result.andThen]
  rw [Oper.upon_value]
  go_wp2
  rw [Lib.run_from_unsafe w ⟨b, 0, none⟩ Tryd.underlying102 Tryd.underlying81 hj hsh wr_lies]
  simp only [Result.andThen]
  rw [Oper.upon_value]
  go_wp2
  go_end0
  exact ⟨rfl, rfl⟩
theorem copyCheck_any (B b : Nat) (v : Value) (l : List UInt8) (w : World) (h : Wr w B b v l) :
    Calls Tryd.prog 45 #[.pointer (some ⟨b, 0, none⟩)] w fun e w' => e = .returned (.tuple #[]) ∧ w'.heap[b]? = some (.cells #[.pointer (some ⟨b, 0, none⟩), v] WrT (0, 0)) ∧ w'.ownsRowF B WrB 1 v l.length (Lib.byteCells l) ∧ Fx B b w w' ∧ w'.heap.size = w.heap.size := by
  have hne := h.ne
  obtain ⟨p, hp, hb⟩ := h.blk
  rcases hp with rfl | rfl
  · refine (copyCheck_fresh b w (by simp [World.cell?, hb]) (by simp [World.shape?, hb]) (by simp [World.frozen?, hb])).mono ?_
    rintro e w' ⟨rfl, rfl⟩
    refine ⟨rfl, by simp [World.setCell, Array.getElem?_modify, hb], ?_, (Fx.refl B b w).set (p := ⟨b, 0, none⟩) rfl _, by simp [World.setCell]⟩
    exact h.own.kept (row := some b) ⟨rfl, rfl, rfl, by simp [World.setCell], fun k _ hk => Below.heap_setCell _ _ _ _ (fun e => hk (by simp [e]))⟩ (Or.inr hne)
  · refine (copyCheck_used b w (by simp [World.cell?, hb])).mono ?_
    rintro e w' ⟨rfl, rfl⟩
    exact ⟨rfl, hb, h.own, Fx.refl _ _ _, rfl⟩
end Go.Proofs.YtlhnajgckdeedaaDoor
