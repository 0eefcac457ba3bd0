/-
Readings opened, under a bound on the bulk: whole numbers, truth values, texts, lists, structs of two to five fields; what holds of each value; what the bulk bounds.
-/
import Derived.Test.YthjdjgppghplgaaDoorRows
import Derived.Test.YthjdjgppghplgaaDoorOpen
import Derived.Deep.Strs
namespace Go.Proofs.YthjdjgppghplgaaDoor
open Go Go.RowKit Go.Deep Go.ChangeShapes Go.WideShapes Go.Proofs.YthjdjgppghplgaaDoorW.PrintWords
/-- What reads as type t is a value of kind d, of which T holds; B: what the bulk bounds. -/
structure OpensB (P : Program) (t : TypeId) {α : Type} (d : Kd α) (T : α → Prop) (B : α → Nat) : Prop where
  op : ∀ {H : Type} {enc : TypeId × Value → H} {w : World} {base : Nat} {spare : Nat → Bool} {held : Bool} {fuel : Nat} {cs : List Value} {x : DataW H × List MemPlace},
    DataW.trod enc P w base spare held fuel t cs = some x → ∃ a : α, d.K w a cs ∧ T a ∧ B a ≤ Rows.uptoBulk x.1
theorem OpensB.int {P : Program} {t : TypeId} {k : IntKind} (ht : P.underlying t = some (.int k)) : OpensB P t (Kd.int k) (fun a => (Lit.int k a).wf = true) (fun _ => 1) where
  op := fun h => by
    obtain ⟨n, rfl, rfl, hw⟩ := DataW.trod_int ht h
    exact ⟨n, rfl, hw, by simp [Rows.uptoBulk]⟩
theorem OpensB.bool {P : Program} {t : TypeId} (ht : P.underlying t = some .bool) : OpensB P t Kd.bool (fun _ => True) (fun _ => 1) where
  op := fun h => by
    obtain ⟨n, rfl, rfl⟩ := DataW.trod_bool ht h
    exact ⟨n, rfl, trivial, by simp [Rows.uptoBulk]⟩
theorem OpensB.string {P : Program} {t : TypeId} (ht : P.underlying t = some .string) : OpensB P t Kd.string (fun _ => True) (fun a => a.size + 1) where
  op := fun h => by
    obtain ⟨s, rfl, rfl, _⟩ := DataW.trod_string ht h
    exact ⟨s, rfl, trivial, Nat.le_refl _⟩
theorem OpensB.slice {P : Program} {t e : TypeId} {α : Type} {d : Kd α} {T : α → Prop} {B : α → Nat} (ht : P.underlying t = some (.slice e)) (hc : P.cellsOf e = d.sz) (he : OpensB P e d T B) :
    OpensB P t (Kd.slice e d) (fun xs => ∀ a ∈ xs, T a) (fun xs => (xs.map B).sum + 1) where
  op := fun {H enc w base spare held fuel cs x} h => by
    rcases open_slice ht h with ⟨rfl, rfl⟩ | ⟨a, len, cap, m, n, D, Pl, rfl, hb, hl, hm, hmm, rfl, hx⟩
    · exact ⟨[], ⟨none, 0, rfl, Nat.le_refl _, rfl, by simp, fun h => absurd h (by simp)⟩, by simp, by simp [Rows.uptoBulk]⟩
    have hlm : len ≤ m := by rw [hmm]; split <;> omega
    have hml : len ≤ 9223372036854775807 := by unfold maxLen at hm; omega
    obtain ⟨V, hVl, hV⟩ := choose_list (β := α × List Value) (p := fun i v => w.cells? base (a.add (i * P.cellsOf e)) (P.cellsOf e) = some v.2 ∧ d.K w v.1 v.2 ∧ T v.1 ∧ B v.1 ≤ Rows.uptoBulk (D i)) len (fun i hi => by
      obtain ⟨cs', h1, h2⟩ := hx i (by omega)
      obtain ⟨y, hy⟩ := he.op h2
      exact ⟨(y, cs'), h1, hy⟩)
    have hlen : (V.map (·.1)).length = len := by rw [List.length_map, hVl]
    refine ⟨V.map (·.1), ⟨some a, cap, by rw [hlen], by rw [hlen]; exact hl, rfl, by rw [hlen]; exact hml, fun _ => ⟨a, rfl, fun j p hj => ?_⟩⟩, ?_, ?_⟩
    · rw [List.getElem?_map] at hj
      obtain ⟨v, hv, rfl⟩ := Option.map_eq_some_iff.1 hj
      obtain ⟨h1, h2, _, _⟩ := hV j v hv
      obtain ⟨_, h4, h5⟩ := World.cells?_some h1
      refine ⟨v.2, by rw [h4, hc], h2, fun i u hu => ?_⟩
      have hi : i < P.cellsOf e := by rw [← h4]; exact (List.getElem?_eq_some_iff.1 hu).1
      have := h5 i hi
      rw [hu] at this
      rw [← this, ← hc, Addr.add_add]
    · intro y hy
      obtain ⟨v, hv, rfl⟩ := List.mem_map.1 hy
      obtain ⟨i, hi⟩ := List.mem_iff_getElem?.1 hv
      exact (hV i v hi).2.2.1
    · simp only [Rows.uptoBulk]
      have := sum_le_bulk B ((List.range len).map D) (V.map (·.1)) (by simp [hVl]) (fun i a d' ha hd => by
        rw [List.getElem?_map] at ha hd
        obtain ⟨v, hv, rfl⟩ := Option.map_eq_some_iff.1 ha
        have hi' : i < len := by rw [← hVl]; exact (List.getElem?_eq_some_iff.1 hv).1
        rw [List.getElem?_range hi'] at hd
        simp only [Option.map_some, Option.some.injEq] at hd
        subst hd
        exact (hV i v hv).2.2.2)
      omega
/-- Cells in line, cut in two. -/
theorem cut_cells (cs : List Value) (o n m : Nat) : (cs.drop o).take (n + m) = (cs.drop o).take n ++ (cs.drop (o + n)).take m := by
  rw [List.take_add, List.drop_drop]
theorem all_cells (cs : List Value) (n : Nat) (h : cs.length = n) : cs = (cs.drop 0).take n := by rw [List.drop_zero, List.take_of_length_le (by omega)]
section
variable {P : Program} {t : TypeId} {α β γ δ ε : Type} {d0 : Kd α} {d1 : Kd β} {d2 : Kd γ} {d3 : Kd δ} {d4 : Kd ε} {T0 : α → Prop} {T1 : β → Prop} {T2 : γ → Prop} {T3 : δ → Prop} {T4 : ε → Prop} {B0 : α → Nat} {B1 : β → Nat} {B2 : γ → Nat} {B3 : δ → Nat} {B4 : ε → Nat} {f0 f1 f2 f3 f4 : Field}
theorem OpensB.struct2 (ht : P.underlying t = some (.struct #[f0, f1])) (h0 : OpensB P f0.type d0 T0 B0) (h1 : OpensB P f1.type d1 T1 B1)
    (hc0 : P.cellsOf f0.type = d0.sz) (hc1 : P.cellsOf f1.type = d1.sz) (ho0 : f0.offset = 0) (ho1 : f1.offset = d0.sz) (hct : P.cellsOf t = d0.sz + d1.sz) :
    OpensB P t (Kd.pair d0 d1) (fun x => T0 x.1 ∧ T1 x.2) (fun x => B0 x.1 + B1 x.2 + 1) where
  op := fun {H enc w base spare held fuel cs x} h => by
    obtain ⟨y0, y1, n, rfl, hl, g0, g1⟩ := trod_struct2 ht h
    obtain ⟨a0, k0, t0, b0⟩ := h0.op g0
    obtain ⟨a1, k1, t1, b1⟩ := h1.op g1
    refine ⟨(a0, a1), ⟨_, _, ?_, k0, k1⟩, ⟨t0, t1⟩, by simp [Rows.uptoBulk, Rows.uptoBulkAll]; omega⟩
    rw [hc0, hc1, ho0, ho1]
    conv => lhs; rw [all_cells cs _ (hl.trans hct), cut_cells, Nat.zero_add]
theorem OpensB.struct3 (ht : P.underlying t = some (.struct #[f0, f1, f2])) (h0 : OpensB P f0.type d0 T0 B0) (h1 : OpensB P f1.type d1 T1 B1) (h2 : OpensB P f2.type d2 T2 B2)
    (hc0 : P.cellsOf f0.type = d0.sz) (hc1 : P.cellsOf f1.type = d1.sz) (hc2 : P.cellsOf f2.type = d2.sz) (ho0 : f0.offset = 0) (ho1 : f1.offset = d0.sz) (ho2 : f2.offset = d0.sz + d1.sz) (hct : P.cellsOf t = d0.sz + (d1.sz + d2.sz)) :
    OpensB P t (Kd.pair d0 (Kd.pair d1 d2)) (fun x => T0 x.1 ∧ T1 x.2.1 ∧ T2 x.2.2) (fun x => B0 x.1 + (B1 x.2.1 + B2 x.2.2) + 1) where
  op := fun {H enc w base spare held fuel cs x} h => by
    obtain ⟨y0, y1, y2, n, rfl, hl, g0, g1, g2⟩ := trod_struct3 ht h
    obtain ⟨a0, k0, t0, b0⟩ := h0.op g0
    obtain ⟨a1, k1, t1, b1⟩ := h1.op g1
    obtain ⟨a2, k2, t2, b2⟩ := h2.op g2
    refine ⟨(a0, a1, a2), ⟨_, _, ?_, k0, _, _, rfl, k1, k2⟩, ⟨t0, t1, t2⟩, by simp [Rows.uptoBulk, Rows.uptoBulkAll]; omega⟩
    rw [hc0, hc1, hc2, ho0, ho1, ho2]
    conv => lhs; rw [all_cells cs _ (hl.trans hct), cut_cells, Nat.zero_add, cut_cells]
theorem trod_struct5 {H : Type} {enc : TypeId × Value → H} {w : World} {base : Nat} {spare : Nat → Bool} {held : Bool} {fuel : Nat} {cs : List Value} {x : DataW H × List MemPlace} (ht : P.underlying t = some (.struct #[f0, f1, f2, f3, f4])) (h : DataW.trod enc P w base spare held fuel t cs = some x) :
    ∃ y0 y1 y2 y3 y4 n, x.1 = .agg [y0.1, y1.1, y2.1, y3.1, y4.1] ∧ cs.length = P.cellsOf t ∧ DataW.trod enc P w base spare held n f0.type ((cs.drop f0.offset).take (P.cellsOf f0.type)) = some y0 ∧
      DataW.trod enc P w base spare held n f1.type ((cs.drop f1.offset).take (P.cellsOf f1.type)) = some y1 ∧ DataW.trod enc P w base spare held n f2.type ((cs.drop f2.offset).take (P.cellsOf f2.type)) = some y2 ∧
      DataW.trod enc P w base spare held n f3.type ((cs.drop f3.offset).take (P.cellsOf f3.type)) = some y3 ∧ DataW.trod enc P w base spare held n f4.type ((cs.drop f4.offset).take (P.cellsOf f4.type)) = some y4 := by
  obtain ⟨xs, n, _, rfl, hl, hlen, hf⟩ := DataW.trod_struct ht h
  match xs, hlen with
  | [y0, y1, y2, y3, y4], _ => exact ⟨y0, y1, y2, y3, y4, n, by simp, hl, by simpa using hf 0 f0 rfl, by simpa using hf 1 f1 rfl, by simpa using hf 2 f2 rfl, by simpa using hf 3 f3 rfl, by simpa using hf 4 f4 rfl⟩
theorem OpensB.struct5 (ht : P.underlying t = some (.struct #[f0, f1, f2, f3, f4])) (h0 : OpensB P f0.type d0 T0 B0) (h1 : OpensB P f1.type d1 T1 B1) (h2 : OpensB P f2.type d2 T2 B2) (h3 : OpensB P f3.type d3 T3 B3) (h4 : OpensB P f4.type d4 T4 B4)
    (hc0 : P.cellsOf f0.type = d0.sz) (hc1 : P.cellsOf f1.type = d1.sz) (hc2 : P.cellsOf f2.type = d2.sz) (hc3 : P.cellsOf f3.type = d3.sz) (hc4 : P.cellsOf f4.type = d4.sz) (ho0 : f0.offset = 0) (ho1 : f1.offset = d0.sz) (ho2 : f2.offset = d0.sz + d1.sz) (ho3 : f3.offset = d0.sz + d1.sz + d2.sz) (ho4 : f4.offset = d0.sz + d1.sz + d2.sz + d3.sz)
    (hct : P.cellsOf t = d0.sz + (d1.sz + (d2.sz + (d3.sz + d4.sz)))) :
    OpensB P t (Kd.pair d0 (Kd.pair d1 (Kd.pair d2 (Kd.pair d3 d4)))) (fun x => T0 x.1 ∧ T1 x.2.1 ∧ T2 x.2.2.1 ∧ T3 x.2.2.2.1 ∧ T4 x.2.2.2.2) (fun x => B0 x.1 + (B1 x.2.1 + (B2 x.2.2.1 + (B3 x.2.2.2.1 + B4 x.2.2.2.2))) + 1) where
  op := fun {H enc w base spare held fuel cs x} h => by
    obtain ⟨y0, y1, y2, y3, y4, n, hx, hl, g0, g1, g2, g3, g4⟩ := trod_struct5 ht h
    obtain ⟨a0, k0, t0, b0⟩ := h0.op g0
    obtain ⟨a1, k1, t1, b1⟩ := h1.op g1
    obtain ⟨a2, k2, t2, b2⟩ := h2.op g2
    obtain ⟨a3, k3, t3, b3⟩ := h3.op g3
    obtain ⟨a4, k4, t4, b4⟩ := h4.op g4
    refine ⟨(a0, a1, a2, a3, a4), ⟨_, _, ?_, k0, _, _, rfl, k1, _, _, rfl, k2, _, _, rfl, k3, k4⟩, ⟨t0, t1, t2, t3, t4⟩, by rw [hx]; simp [Rows.uptoBulk, Rows.uptoBulkAll]; omega⟩
    rw [hc0, hc1, hc2, hc3, hc4, ho0, ho1, ho2, ho3, ho4]
    conv => lhs; rw [all_cells cs _ (hl.trans hct), cut_cells, Nat.zero_add, cut_cells, cut_cells, cut_cells]
end
/-- A parameter of slice type. -/
theorem open_slice_par {P : Program} {t e : TypeId} {α : Type} {d : Kd α} {T : List α → Prop} {B : List α → Nat} {H : Type} {enc : TypeId × Value → H} {w : World} {r : Reach} {b0 base : Nat} {spare : Nat → Bool} {held : Bool} {v : Value} {dd : DataW H} {p : List MemPlace}
    (ho : OpensB P t (Kd.slice e d) T B) (ht : P.underlying t = some (.slice e)) (hv : Value.okWide P w r b0 t v) (h : DataW.Trod enc P w base spare held t v dd p) :
    ∃ A c l, v = .slice A l.length c ∧ l.length ≤ c ∧ d.C w A l.length l ∧ T l ∧ B l ≤ Rows.uptoBulk dd := by
  obtain ⟨a, len, cap, rfl⟩ := okWide_slice ht hv
  obtain ⟨fuel, hf⟩ := h
  obtain ⟨l, ⟨A, c, e1, hc, hC⟩, h1, h2⟩ := ho.op hf
  have e2 : Value.slice a len cap = .slice A l.length c := by simpa [Value.cells] using e1
  exact ⟨A, c, l, e2, hc, hC, h1, h2⟩
/-- A parameter of struct type. -/
theorem open_struct_par {P : Program} {t : TypeId} {fs : Array Field} {α : Type} {d : Kd α} {T : α → Prop} {B : α → Nat} {H : Type} {enc : TypeId × Value → H} {w : World} {r : Reach} {b0 base : Nat} {spare : Nat → Bool} {held : Bool} {v : Value} {dd : DataW H} {p : List MemPlace}
    (ho : OpensB P t d T B) (ht : P.underlying t = some (.struct fs)) (hv : Value.okWide P w r b0 t v) (h : DataW.Trod enc P w base spare held t v dd p) :
    ∃ (cs : List Value) (a : α), v = .agg cs.toArray ∧ d.K w a cs ∧ T a ∧ B a ≤ Rows.uptoBulk dd := by
  obtain ⟨cs, rfl, hsz⟩ := okWide_struct ht hv
  obtain ⟨fuel, hf⟩ := h
  obtain ⟨a, h1, h2, h3⟩ := ho.op hf
  exact ⟨cs.toList, a, by simp, by simpa [Value.cells] using h1, h2, h3⟩
theorem part_le (a b c N : Nat) (h : a + 1 + (b + 1 + (c + 1)) + 1 ≤ N) : a ≤ N := by omega
theorem part3_le (a b c N : Nat) (h : a + 1 + (b + 1 + (c + 1)) + 1 ≤ N) : c ≤ N := by omega
theorem sum_ge_len {α : Type} (B : α → Nat) (l : List α) (h : ∀ a ∈ l, 1 ≤ B a) : l.length ≤ (l.map B).sum := by
  induction l with
  | nil => simp
  | cons a l ih =>
    have := h a (List.mem_cons_self ..)
    have := ih (fun b hb => h b (List.mem_cons_of_mem _ hb))
    simp
    omega
theorem sum_ge_mem {α : Type} (B : α → Nat) (l : List α) (a : α) (h : a ∈ l) : B a ≤ (l.map B).sum := by
  induction l with
  | nil => cases h
  | cons b l ih =>
    rcases List.mem_cons.1 h with rfl | h
    · simp
    · have := ih h
      simp
      omega
end Go.Proofs.YthjdjgppghplgaaDoor
