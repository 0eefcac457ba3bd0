/-
Words that the walks share: append of one element to a row of the call's own; a list cut. Conditions: each lemma's own.
-/
import Derived.Test.YthjdjgppghplgaaDoorGl
import Derived.Test.YthjdjgppghplgaaDoorProg
import Derived.Test.YthjdjgppghplgaaDoorWWords
import Derived.Test.YthjdjgppghplgaaDoorWLast
import Derived.Test.YthjdjgppghplgaaDoorWMore
import Derived.Laws.BitsLemmas
import Derived.KernelRfl
namespace Go.Proofs.YthjdjgppghplgaaDoor
open Go Go.RowKit Go.Proofs.YthjdjgppghplgaaDoorW.PrintWords Go.Proofs.YthjdjgppghplgaaDoorW.PrintLast Go.Proofs.YthjdjgppghplgaaDoorW.PrintMore
theorem info_u8 : (Tryd.prog.info? 5).map (fun i => (i.zero, i.size, i.bytes)) = some (some (.int .u8 0), 1, 1) := by kernel_rfl
theorem info_i64 : (Tryd.prog.info? 3).map (fun i => (i.zero, i.size, i.bytes)) = some (some (.int .i64 0), 1, 8) := by kernel_rfl
section
variable {P : Program} {ops : Array Oper} {rest : List Oper} {o : Oper} {a : Act} {Q : Exit → Act → World → Prop}
/-- append of one whole number to a row of the call's own. -/
theorem app_intB (t e : Nat) (k : IntKind) (bytes : Nat) (ht : P.underlying t = some (.slice e)) (hinfo : (P.info? e).map (fun i => (i.zero, i.size, i.bytes)) = some (some (.int k 0), 1, bytes)) (hb0 : 0 < bytes)
    (s x : Operand) {base : Nat} {w0 W : World} (v : Value) (xs : List Int) (b : Int)
    (ho : o.op = .call { callee := .builtin .append, args := #[s, x], argTypes := #[t, t] }) (hgd : o.guard = none) (hs : a.eval s = v) (hx : a.eval x = .slice (some ⟨W.heap.size, 0, none⟩) 1 1)
    (HO : Sh (Kd.R (Kd.int k) e W base (fun _ => True) v xs)) (HB : Sh (Below base w0 W)) (hbase : base ≤ W.heap.size) (hl : (xs.length + 1) * bytes ≤ 140737488355328)
    (h : ∀ v1 w1, Sh (Kd.R (Kd.int k) e w1 base (fun _ => True) v1 (xs ++ [b])) → Sh (Below base w0 w1) → wpList P ops Q rest (a.put o.dst v1) w1) :
    wpList P ops Q (o :: rest) a (W.alloc (.cells #[.int k b] e)) :=
  Kd.R_append (Kd.int k) (w0 := w0) base hgd s x t e (.int k 0) bytes ho ht hinfo rfl (by show 0 < 1; omega) hb0 v xs b [.int k b] (fun _ => True) (fun _ => False) hs hx rfl (fun _ hk => hk.elim) (fun _ _ => trivial) HO.out HB.out hbase hl
    (fun v1 w1 ho hb _ _ => h v1 w1 ⟨ho⟩ ⟨hb⟩)
theorem app_int (t e : Nat) (k : IntKind) (bytes : Nat) (ht : P.underlying t = some (.slice e)) (hinfo : (P.info? e).map (fun i => (i.zero, i.size, i.bytes)) = some (some (.int k 0), 1, bytes)) (hb0 : 0 < bytes)
    (s x : Operand) {w0 W : World} (v : Value) (xs : List Int) (b : Int)
    (ho : o.op = .call { callee := .builtin .append, args := #[s, x], argTypes := #[t, t] }) (hgd : o.guard = none) (hs : a.eval s = v) (hx : a.eval x = .slice (some ⟨W.heap.size, 0, none⟩) 1 1)
    (HO : Sh (Kd.R (Kd.int k) e W w0.heap.size (fun _ => True) v xs)) (HB : Sh (Below w0.heap.size w0 W)) (hl : (xs.length + 1) * bytes ≤ 140737488355328)
    (h : ∀ v1 w1, Sh (Kd.R (Kd.int k) e w1 w0.heap.size (fun _ => True) v1 (xs ++ [b])) → Sh (Below w0.heap.size w0 w1) → wpList P ops Q rest (a.put o.dst v1) w1) :
    wpList P ops Q (o :: rest) a (W.alloc (.cells #[.int k b] e)) :=
  app_intB t e k bytes ht hinfo hb0 s x v xs b ho hgd hs hx HO HB HB.out.size hl h
/-- append of a whole row that is read, to a row of the call's own. -/
theorem app_intsB (t e : Nat) (k : IntKind) (bytes : Nat) (ht : P.underlying t = some (.slice e)) (hinfo : (P.info? e).map (fun i => (i.zero, i.size, i.bytes)) = some (some (.int k 0), 1, bytes)) (hb0 : 0 < bytes)
    (s x : Operand) {base : Nat} {w0 W : World} (v : Value) (xs ys : List Int) (A : Option Addr) (m c : Nat)
    (ho : o.op = .call { callee := .builtin .append, args := #[s, x], argTypes := #[t, t] }) (hgd : o.guard = none) (hs : a.eval s = v) (hx : a.eval x = .slice A m c)
    (HO : Sh (Kd.R (Kd.int k) e W base (fun _ => True) v xs)) (HR : (Kd.int k).C W A m ys) (HB : Sh (Below base w0 W)) (hbase : base ≤ W.heap.size) (hl : (xs.length + m) * bytes ≤ 140737488355328)
    (h : ∀ v1 w1, Sh (Kd.R (Kd.int k) e w1 base (fun _ => True) v1 (xs ++ ys)) → Sh (Below base w0 w1) → wpList P ops Q rest (a.put o.dst v1) w1) :
    wpList P ops Q (o :: rest) a W :=
  print_append_row base hgd s x t e k bytes ho ht hinfo hb0 v xs ys A m c hs hx (Kd.own_of_R (h1 := fun _ => rfl) HO.out) (readsInt_of.2 (Kd.reads_of_C (h1 := fun _ => rfl) HR)) HB.out hbase hl
    (fun v1 w1 ho hb _ _ => h v1 w1 ⟨Kd.R_of_own (h1 := fun _ => rfl) ho (fun _ _ => trivial)⟩ ⟨hb⟩)
/-- append of a text's bytes. -/
theorem app_strB (t u e : Nat) (ht : P.underlying t = some (.slice e)) (hu : P.underlying u = some .string) (hinfo : (P.info? e).map (fun i => (i.zero, i.size, i.bytes)) = some (some (.int .u8 0), 1, 1))
    (s x : Operand) {base : Nat} {w0 W : World} (v : Value) (xs : List Int) (y : ByteArray)
    (ho : o.op = .call { callee := .builtin .append, args := #[s, x], argTypes := #[t, u] }) (hgd : o.guard = none) (hs : a.eval s = v) (hx : a.eval x = .string y)
    (HO : Sh (Kd.R (Kd.int .u8) e W base (fun _ => True) v xs)) (HB : Sh (Below base w0 W)) (hbase : base ≤ W.heap.size) (hl : xs.length + y.size ≤ 140737488355328)
    (h : ∀ v1 w1, Sh (Kd.R (Kd.int .u8) e w1 base (fun _ => True) v1 (xs ++ bytesOf y)) → Sh (Below base w0 w1) → wpList P ops Q rest (a.put o.dst v1) w1) :
    wpList P ops Q (o :: rest) a W :=
  print_append_str base hgd s x t u e ho ht hu hinfo v xs y hs hx (Kd.own_of_R (h1 := fun _ => rfl) HO.out) HB.out hbase hl
    (fun v1 w1 ho hb _ => h v1 w1 ⟨Kd.R_of_own (h1 := fun _ => rfl) ho (fun _ _ => trivial)⟩ ⟨hb⟩)
end
theorem bytesOf_str {xs : List Int} (h : ∀ x ∈ xs, 0 ≤ x ∧ x < 256) : bytesOf (strOfNums xs) = xs := by
  apply List.ext_getElem
  · rw [bytesOf_length, strOfNums_size]
  · intro i h1 h2
    have := h xs[i] (List.getElem_mem h2)
    simp [bytesOf, strOfNums]
    omega
theorem ShR.alloc {α : Type} {d : Kd α} {e : Nat} {w : World} {base : Nat} {ok : Nat → Prop} {v : Value} {xs : List α} (h : Sh (d.R e w base ok v xs)) (o : Obj) : Sh (d.R e (w.alloc o) base ok v xs) := ⟨Kd.R_alloc h.out o⟩
theorem ShB.alloc {base : Nat} {w0 w : World} (h : Sh (Below base w0 w)) (hb : base ≤ w.heap.size) (o : Obj) : Sh (Below base w0 (w.alloc o)) := ⟨h.out.alloc hb o⟩
theorem take_snoc (l : List Int) (k : Nat) (h : k < l.length) : l.take (k + 1) = l.take k ++ [rd l k] := by
  rw [List.take_succ_eq_append_getElem h]
  simp [rd, List.getD, h]
theorem takeB (s : ByteArray) (k : Nat) (h : k < s.size) : (bytesOf s).take (k + 1) = (bytesOf s).take k ++ [bt s k] := by
  rw [take_snoc _ _ (by rw [bytesOf_length]; exact h), rd_bytesOf]
theorem C_take {α : Type} {d : Kd α} {w : World} {A : Option Addr} {n : Nat} {xs : List α} (h : d.C w A n xs) (m : Nat) (hm : m ≤ n) : d.C w A m (xs.take m) := by
  refine ⟨by rw [List.length_take, h.1]; omega, by have := h.2.1; omega, fun h0 => ?_⟩
  obtain ⟨ad, e, hc⟩ := h.2.2 (by omega)
  refine ⟨ad, e, fun j p hj => hc j p ?_⟩
  have hlt : j < m := by
    have := (List.getElem?_eq_some_iff.1 hj).1
    rw [List.length_take] at this
    omega
  rw [List.getElem?_take_of_lt hlt] at hj
  exact hj
/-- A literal's row, read. -/
theorem lit_C (W : World) (e : Nat) (k : IntKind) (xs : List Int) (hm : xs.length ≤ 9223372036854775807) : (Kd.int k).C (W.alloc (.cells (nums k xs).toArray e)) (some ⟨W.heap.size, 0, none⟩) xs.length xs := by
  obtain ⟨A, c, hv, _, hC⟩ := Kd.R_reads (Kd.R_of_own (h1 := fun _ => rfl) (ok := fun _ => True) (own_lit W W.heap.size e k xs (Nat.le_refl _) hm) (fun _ _ => trivial))
  injection hv with e1 e2 e3
  rw [e1]
  exact hC
theorem C_len {α : Type} {d : Kd α} {w : World} {A : Option Addr} {n : Nat} {xs : List α} (h : d.C w A n xs) : n ≤ 9223372036854775807 := h.2.1
/-- What an index into a row of whole numbers reads. -/
theorem C_at {k : IntKind} {w : World} {A : Option Addr} {n : Nat} {xs : List Int} (h : (Kd.int k).C w A n xs) (i : Nat) (hi : i < n) : ∃ ad, A = some ad ∧ w.cell? (ad.add i) = some (.int k (rd xs i)) := by
  obtain ⟨ad, e, hx⟩ := Kd.at_int h (i : Int) (by omega) (by omega)
  exact ⟨ad, e, by simpa using hx⟩
/-- A row of one's own as what reads it wants it. -/
theorem R_open {α : Type} {d : Kd α} {e : Nat} {w : World} {base : Nat} {ok : Nat → Prop} {v : Value} {xs : List α} (h : d.R e w base ok v xs) (n : Nat) (hn : xs.length = n) : ∃ A c, v = .slice A n c ∧ n ≤ c ∧ d.C w A n xs := by
  subst hn
  exact Kd.R_reads h
theorem quiet_eq {P : Program} {f : FuncId} {args : Array Value} {w : World} {n : Nat} {v : Value}
    (h : Calls P f args (w.drewN n) fun e w' => e = .returned v ∧ w.drewN n = w') : Calls P f args (w.drewN n) fun e w'' => e = .returned v ∧ ∃ m, w'' = w.drewN m :=
  Calls.quiet_of_same (h.mono fun _ _ ⟨a, b⟩ => ⟨a, b.symm⟩)
theorem blk_below {w w1 : World} {g : Nat} {o : Obj} (h : w.heap[g]? = some o) (hb : Below w.heap.size w w1) : w1.heap[g]? = some o := (hb.block g (blk_lt h)).trans h
/-- A row of one's own that has elements: where it lies. -/
theorem R_lies {α : Type} {d : Kd α} {e : Nat} {w : World} {base : Nat} {ok : Nat → Prop} {A : Option Addr} {n c : Nat} {xs : List α} (h : d.R e w base ok (.slice A n c) xs) (hn : xs.length = n) (hp : 0 < n) : ∃ g, A = some ⟨g, 0, none⟩ ∧ base ≤ g ∧ g < w.heap.size := by
  obtain ⟨g, cap, hv, hb, hl, _⟩ := Kd.R_form h (by omega)
  injection hv with e1 e2 e3
  exact ⟨g, e1, hb, hl⟩
theorem R_ix {k : IntKind} {e : Nat} {w : World} {base : Nat} {ok : Nat → Prop} {g n c : Nat} {xs : List Int} (h : (Kd.int k).R e w base ok (.slice (some ⟨g, 0, none⟩) n c) xs) (i : Nat) (hi : i < n) : w.cell? ⟨g, i, none⟩ = some (.int k (rd xs i)) ∧ w.frozen? ⟨g, i, none⟩ = false := by
  have := Kd.R_celln (d := (0 : Int)) (enc := Value.int k) (h1 := fun _ => rfl) h (i : Int) (by omega) (by omega)
  simpa [rd, rdOf] using this
theorem R_st {k : IntKind} {e : Nat} {w : World} {base : Nat} {ok : Nat → Prop} {g n c : Nat} {xs : List Int} (h : (Kd.int k).R e w base ok (.slice (some ⟨g, 0, none⟩) n c) xs) (i : Nat) (x : Int) : (Kd.int k).R e (w.setCell ⟨g, i, none⟩ (.int k x)) base ok (.slice (some ⟨g, 0, none⟩) n c) (xs.set i x) := by
  have := Kd.R_putn (enc := Value.int k) (h1 := fun _ => rfl) h (i : Int) x
  simp only [Int.toNat_natCast] at this
  exact this
theorem C_of_R {α : Type} {d : Kd α} {e : Nat} {w : World} {base : Nat} {ok : Nat → Prop} {A : Option Addr} {n c : Nat} {xs : List α} (h : d.R e w base ok (.slice A n c) xs) (hn : xs.length = n) : d.C w A n xs := by
  obtain ⟨A', c', hv, _, hC⟩ := R_open h n hn
  injection hv with e1 e2 e3
  rw [e1]
  exact hC
theorem take_set (xs : List Int) (k : Nat) (x : Int) (h : k < xs.length) : (xs.set k x).take (k + 1) = xs.take k ++ [x] := by
  rw [List.take_succ_eq_append_getElem (by simpa using h)]
  simp [List.take_set_of_le]
theorem belowN {w w1 : World} (h : Below w.heap.size w w1) (n : Nat) : Below w.heap.size w (w1.drewN n) := ⟨h.os, h.tape, h.output, h.size, h.block⟩
/-- From w to w1 to w2: what was there at w is there. -/
theorem below_of {w w1 w2 : World} (h : Below w.heap.size w w1) (k : Below w1.heap.size w1 w2) : Below w.heap.size w w2 := below_then h h.size k
theorem bt_nat (s : ByteArray) (i : Nat) : ∀ h : i < s.size, ((s[i]'h).toNat : Int) = bt s i := by
  intro h
  have := bt_at s i (by simpa using h)
  simpa using this
end Go.Proofs.YthjdjgppghplgaaDoor
