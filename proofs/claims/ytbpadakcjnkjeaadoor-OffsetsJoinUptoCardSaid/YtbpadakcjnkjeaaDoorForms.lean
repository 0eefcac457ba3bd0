/-
units.lead over the table of forms. Condition: the table reads as listed.
-/
import Derived.Test.YtbpadakcjnkjeaaDoorAp
import Derived.Test.YtbpadakcjnkjeaaDoorRows
import Derived.OpenShut
import Derived.Laws.Rows
import Derived.Laws.ResultCell
import Derived.Deep.QuietTactic
import Derived.BigQuiet
namespace Go.Proofs.YtbpadakcjnkjeaaDoor
open Go Go.RowKit Go.Proofs.YtbpadakcjnkjeaaDoorW.PrintWords Go.Proofs.YtbpadakcjnkjeaaDoorW.PrintLast Go.Proofs.YtbpadakcjnkjeaaDoorW.PrintMore
set_option maxRecDepth 100000
def formTab : List (List Int) := [[194, 223, 128, 191, 2, 31], [224, 224, 160, 191, 3, 15], [225, 236, 128, 191, 3, 15], [237, 237, 128, 159, 3, 15], [238, 239, 128, 191, 3, 15], [240, 240, 144, 191, 4, 7], [241, 243, 128, 191, 4, 7], [244, 244, 128, 143, 4, 7]]
def formAt (k j : Nat) : Int := (formTab.getD k []).getD j 0
def formRow (k : Nat) : List Value := [.int .u8 (formAt k 0), .int .u8 (formAt k 1), .int .u8 (formAt k 2), .int .u8 (formAt k 3), .int .i64 (formAt k 4), .int .u8 (formAt k 5)]
def formCells : Array Value := ((List.range 8).flatMap formRow).toArray
def formD {H : Type} (k : Nat) : DataW H := .agg [.lit (.int .u8 (formAt k 0)), .lit (.int .u8 (formAt k 1)), .lit (.int .u8 (formAt k 2)), .lit (.int .u8 (formAt k 3)), .lit (.int .i64 (formAt k 4)), .lit (.int .u8 (formAt k 5))]
theorem laid_forms {H : Type} : (Rows.laid_caesura_units_forms : DataW H) = .agg ((List.range 8).map formD) := rfl
section
variable {H : Type} {enc : TypeId × Value → H} {w : World} {base : Nat} {spare : Nat → Bool} {held : Bool} {fuel : Nat}
theorem cells_len : (Tryd.prog.cellsOf 97) = 6 ∧ (Tryd.prog.cellsOf 100) = 48 := by constructor <;> kernel_rfl
theorem lit_cell {t : TypeId} {k : IntKind} {ch : List Value} {i : Nat} {y : DataW H × List MemPlace} {z : Int} (ht : Tryd.prog.underlying t = some (.int k)) (h : DataW.trod enc Tryd.prog w base spare held fuel t ((ch.drop i).take 1) = some y) (hy : y.1 = .lit (.int k z)) : ch[i]? = some (.int k z) := by
  obtain ⟨n, hc, rfl, _⟩ := DataW.trod_int ht h
  simp only [DataW.lit.injEq, Lit.int.injEq, true_and] at hy
  subst hy
  have := congrArg (·[0]?) hc
  simpa [List.getElem?_take, List.getElem?_drop] using this
set_option maxRecDepth 100000 in
theorem form_cells {ch : List Value} {k : Nat} {p : List MemPlace} (h : DataW.trod enc Tryd.prog w base spare held fuel 97 ch = some (formD k, p)) : ch = formRow k := by
  obtain ⟨xs, n, _, hx, hl, hxl, hf⟩ := DataW.trod_struct Tryd.underlying97 h
  rw [cells_len.1] at hl
  simp only [Prod.mk.injEq, formD, DataW.agg.injEq] at hx
  have hx1 := hx.1
  have each : ∀ i, i < 6 → ∃ y, xs[i]? = some y := fun i hi => ⟨xs[i]'(by rw [hxl]; exact hi), List.getElem?_eq_getElem _⟩
  obtain ⟨y0, e0⟩ := each 0 (by omega)
  obtain ⟨y1, e1⟩ := each 1 (by omega)
  obtain ⟨y2, e2⟩ := each 2 (by omega)
  obtain ⟨y3, e3⟩ := each 3 (by omega)
  obtain ⟨y4, e4⟩ := each 4 (by omega)
  obtain ⟨y5, e5⟩ := each 5 (by omega)
  have f0 : DataW.trod enc Tryd.prog w base spare held n 5 ((ch.drop 0).take (Tryd.prog.cellsOf 5)) = xs[0]? := hf 0 _ rfl
  have f1 : DataW.trod enc Tryd.prog w base spare held n 5 ((ch.drop 1).take (Tryd.prog.cellsOf 5)) = xs[1]? := hf 1 _ rfl
  have f2 : DataW.trod enc Tryd.prog w base spare held n 5 ((ch.drop 2).take (Tryd.prog.cellsOf 5)) = xs[2]? := hf 2 _ rfl
  have f3 : DataW.trod enc Tryd.prog w base spare held n 5 ((ch.drop 3).take (Tryd.prog.cellsOf 5)) = xs[3]? := hf 3 _ rfl
  have f4 : DataW.trod enc Tryd.prog w base spare held n 3 ((ch.drop 4).take (Tryd.prog.cellsOf 3)) = xs[4]? := hf 4 _ rfl
  have f5 : DataW.trod enc Tryd.prog w base spare held n 5 ((ch.drop 5).take (Tryd.prog.cellsOf 5)) = xs[5]? := hf 5 _ rfl
  rw [e0] at f0; rw [e1] at f1; rw [e2] at f2; rw [e3] at f3; rw [e4] at f4; rw [e5] at f5
  have z0 : y0.1 = .lit (.int .u8 (formAt k 0)) := by have := congrArg (·[0]?) hx1; simpa [e0] using this.symm
  have z1 : y1.1 = .lit (.int .u8 (formAt k 1)) := by have := congrArg (·[1]?) hx1; simpa [e1] using this.symm
  have z2 : y2.1 = .lit (.int .u8 (formAt k 2)) := by have := congrArg (·[2]?) hx1; simpa [e2] using this.symm
  have z3 : y3.1 = .lit (.int .u8 (formAt k 3)) := by have := congrArg (·[3]?) hx1; simpa [e3] using this.symm
  have z4 : y4.1 = .lit (.int .i64 (formAt k 4)) := by have := congrArg (·[4]?) hx1; simpa [e4] using this.symm
  have z5 : y5.1 = .lit (.int .u8 (formAt k 5)) := by have := congrArg (·[5]?) hx1; simpa [e5] using this.symm
  have c1 : Tryd.prog.cellsOf 5 = 1 := by kernel_rfl
  have c8 : Tryd.prog.cellsOf 3 = 1 := by kernel_rfl
  have g0 := lit_cell Tryd.underlying5 (by rw [c1] at f0; exact f0) z0
  have g1 := lit_cell Tryd.underlying5 (by rw [c1] at f1; exact f1) z1
  have g2 := lit_cell Tryd.underlying5 (by rw [c1] at f2; exact f2) z2
  have g3 := lit_cell Tryd.underlying5 (by rw [c1] at f3; exact f3) z3
  have g4 := lit_cell Tryd.underlying3 (by rw [c8] at f4; exact f4) z4
  have g5 := lit_cell Tryd.underlying5 (by rw [c1] at f5; exact f5) z5
  match ch, hl with
  | [a, b, c, d, e, f], _ =>
    simp only [List.getElem?_cons_zero, List.getElem?_cons_succ, Option.some.injEq] at g0 g1 g2 g3 g4 g5
    rw [g0, g1, g2, g3, g4, g5]
    rfl
theorem formRow_len (k : Nat) : (formRow k).length = 6 := rfl
theorem forms_cells {cs : List Value} {p : List MemPlace} (h : DataW.trod enc Tryd.prog w base spare held fuel 100 cs = some (Rows.laid_caesura_units_forms, p)) : cs = formCells.toList := by
  rw [laid_forms] at h
  obtain ⟨xs, n, _, hx, hl, hxl, hf⟩ := DataW.trod_array Tryd.underlying100 h
  rw [cells_len.2] at hl
  rw [cells_len.1] at hf
  simp only [Prod.mk.injEq, DataW.agg.injEq] at hx
  have hch : ∀ i, i < 8 → (cs.drop (i * 6)).take 6 = formRow i := by
    intro i hi
    have hfi := hf i hi
    have hxi : xs[i]? = some (xs[i]'(by omega)) := List.getElem?_eq_getElem _
    rw [hxi] at hfi
    have h1 : (xs[i]'(by omega)).1 = formD i := by
      have := congrArg (·[i]?) hx.1
      simp only [List.getElem?_map, hxi, List.getElem?_range hi, Option.map_some, Option.some.injEq] at this
      exact this.symm
    have h2 : xs[i]'(by omega) = (formD i, (xs[i]'(by omega)).2) := by rw [← h1]
    rw [h2] at hfi
    exact form_cells hfi
  have key : ∀ m, m ≤ 8 → cs.take (m * 6) = (List.range m).flatMap formRow := by
    intro m
    induction m with
    | zero => intro _; simp
    | succ m ih =>
      intro hm
      rw [List.range_succ, List.flatMap_append, ← ih (by omega), Nat.succ_mul, List.take_add, hch m (by omega)]
      simp
  have h8 := key 8 (by omega)
  rw [List.take_of_length_le (by omega)] at h8
  exact h8
end
/-- The table lies. -/
def FormsAt (w : World) : Prop := ∃ t, w.heap[11]? = some (.cells formCells t (0, 0))
theorem FormsAt.below {w w1 : World} (h : FormsAt w) (hb : Below w.heap.size w w1) : FormsAt w1 := by
  obtain ⟨t, ht⟩ := h
  exact ⟨t, blk_below ht hb⟩
theorem forms_of {l : List (String × DataW Unit)} {W : World} (h : laidMet Tryd.prog l W) (i : Nat) (hi : l[i]? = some ("caesura/units.forms", Rows.laid_caesura_units_forms)) : FormsAt W := by
  obtain ⟨R, e1, e2, e3, _⟩ := Gl.laid_parts h
  have hlt : i < R.length := by rw [e1]; exact (List.getElem?_eq_some_iff.1 hi).1
  have hR : R[i]? = some R[i] := List.getElem?_eq_getElem hlt
  obtain ⟨g, t, cs, fuel, p, h1, h2, h3, h4, h5⟩ := e2 i _ _ hi hR
  have hg : Tryd.prog.globalNamed "caesura/units.forms" = some 11 := by kernel_rfl
  have ht : (Tryd.prog.globals[11]?).map (·.type) = some 100 := by kernel_rfl
  obtain rfl := Option.some.inj (hg.symm.trans h1)
  obtain rfl := Option.some.inj (ht.symm.trans h2)
  have hcs := forms_cells h4
  have hcs' : cs = formCells := Array.toList_inj.1 hcs
  subst hcs'
  have hm : MemPlace.cell 11 0 ∈ R[i] := by
    rw [h5]
    refine List.mem_append_left _ ?_
    exact MemPlace.mem_row.2 ⟨0, show 0 < formCells.size by decide, rfl⟩
  obtain ⟨⟨c, t, hc⟩, _⟩ := e3 i _ _ _ hR hm
  simp only [World.var?, hg, Option.bind_some, hc, Option.some.injEq] at h3
  subst h3
  exact ⟨t, hc⟩
end Go.Proofs.YtbpadakcjnkjeaaDoor
