/-
slices.SortFunc over edges: the row holds the edges in an order that rises; all else is as it was. Conditions: the row is one's own.
-/
import Derived.Shelf.SlSortCmp.InsertionK
import Derived.Test.YthjdjgppghplgaaDoorRgLaw
import Derived.Test.YthjdjgppghplgaaDoorAp
namespace Go.Proofs.YthjdjgppghplgaaDoor
open Go Go.RowKit Go.Lib Go.Sort Go.Shelf Go.Proofs.YthjdjgppghplgaaDoorW.PrintWords Go.Proofs.YthjdjgppghplgaaDoorW.PrintLast Go.Proofs.YthjdjgppghplgaaDoorW.PrintMore
abbrev EdT : TypeId := 65
def eL (x : Ed) : List Value := [.int .i64 x.1, .int .i64 x.2.1, .int .i64 x.2.2]
theorem eL_len (x : Ed) : (eL x).length = 3 := rfl
theorem flat_get : ∀ (l : List Ed) (t : Nat), t < l.length * 3 → (l.flatMap eL)[t]? = some ((eL (l.toArray[t / 3]!))[t % 3]!)
  | [], t, h => by simp at h
  | x :: l, t, h => by
    rw [List.flatMap_cons]
    by_cases h3 : t < 3
    · rw [List.getElem?_append_left (by rw [eL_len]; exact h3), Nat.div_eq_of_lt h3, Nat.mod_eq_of_lt h3]
      have : t = 0 ∨ t = 1 ∨ t = 2 := by omega
      rcases this with rfl | rfl | rfl <;> rfl
    · rw [List.getElem?_append_right (by rw [eL_len]; omega), eL_len, flat_get l (t - 3) (by rw [List.length_cons] at h; omega)]
      have e1 : (t - 3) % 3 = t % 3 := by omega
      have e2 : t / 3 = (t - 3) / 3 + 1 := by omega
      rw [e1, e2]
      have hl : (t - 3) / 3 < l.length := by rw [List.length_cons] at h; omega
      simp [hl]
theorem flat_eq (l : List Ed) : (flatK eL 3 l.toArray).toList = l.flatMap eL := by
  apply List.ext_getElem?
  intro t
  by_cases h : t < l.length * 3
  · rw [flat_get l t h]
    have hs : t < (flatK eL 3 l.toArray).size := by rw [size_flatK]; simpa using h
    rw [Array.getElem?_toList, Array.getElem?_eq_getElem hs]
    have := get_flatK eL 3 l.toArray t (by simpa using h)
    rw [getElem!_pos _ t hs] at this
    rw [this]
  · have hl : (l.flatMap eL).length = l.length * 3 := by
      have : ∀ q : List Ed, (q.flatMap eL).length = q.length * 3 := fun q => by
        induction q with
        | nil => rfl
        | cons a q ih => rw [List.flatMap_cons, List.length_append, ih, eL_len, List.length_cons]; omega
      exact this l
    rw [List.getElem?_eq_none (by rw [Array.length_toList, size_flatK]; simp; omega), List.getElem?_eq_none (by omega)]
/-- A row of edges of one's own, held. -/
theorem own_holds {W : World} {base g n cap : Nat} {es : List Ed} (h : W.ownsRow base EdT 3 (.slice (some ⟨g, 0, none⟩) n cap) n (es.flatMap eL)) (hn : es.length = n) : HoldsK eL 3 W g 0 es.toArray ∧ g < W.heap.size ∧ base ≤ g := by
  obtain ⟨hl, h2 | ⟨g', cap', cur, hv, hb, hg, hc, hm, hs, ht⟩⟩ := h
  · simp at h2
  · injection hv with e1 e2 e3
    injection e1 with e1
    injection e1 with e1 _ _
    subst e1 e3
    have hbl : g < W.heap.size := (Array.getElem?_eq_some_iff.1 hg).1
    refine ⟨fun j hj => ?_, hbl, hb⟩
    rw [size_flatK] at hj
    have hj' : j < es.length * 3 := by simpa using hj
    rw [Nat.zero_add]
    refine ⟨?_, blk_frozen hg j⟩
    rw [blk_cell hg j]
    have e : cur[j]? = (cur.toList.take (n * 3))[j]? := by
      rw [List.getElem?_take_of_lt (by omega), Array.getElem?_toList]
    rw [e, ht, flat_get es j hj', get_flatK _ _ _ _ hj]
    rfl
theorem sorted_own {W : World} {base g n cap m : Nat} {es : List Ed} {d : Array Ed} {os : Array Obj} (h : W.ownsRow base EdT 3 (.slice (some ⟨g, 0, none⟩) n cap) n (es.flatMap eL)) (hd : d.size = n) :
    (sortWorldK eL 3 W g 0 m d os).ownsRow base EdT 3 (.slice (some ⟨g, 0, none⟩) n cap) n (d.toList.flatMap eL) := by
  obtain ⟨hl, h2 | ⟨g', cap', cur, hv, hb, hg, hc, hm, hs, ht⟩⟩ := h
  · simp at h2
  · injection hv with e1 e2 e3
    injection e1 with e1
    injection e1 with e1 _ _
    subst e1 e3
    have hbl : g < W.heap.size := (Array.getElem?_eq_some_iff.1 hg).1
    have hfl : (d.toList.flatMap eL).length = n * 3 := by rw [← flat_eq d.toList, Array.length_toList, size_flatK]; simp [hd]
    have hsz : (flatK eL 3 d).size = n * 3 := by rw [size_flatK, hd]
    refine ⟨hfl, Or.inr ⟨g, cap, putCells id 0 (flatK eL 3 d) cur, rfl, hb, ?_, hc, hm, ?_, ?_⟩⟩
    · show (((Sort.ahead W m).heap.modify g (onCells (putCells id 0 (flatK eL 3 d)))) ++ os)[g]? = _
      rw [Array.getElem?_append_left (by rw [Array.size_modify]; exact hbl), Array.getElem?_modify, if_pos rfl]
      show (W.heap[g]?).map _ = _
      rw [hg]
      rfl
    · unfold putCells; rw [Array.size_mapIdx]; exact hs
    · rw [← flat_eq d.toList]
      apply List.ext_getElem?
      intro t
      by_cases h1 : t < n * 3
      · rw [List.getElem?_take_of_lt h1, Array.getElem?_toList, Array.getElem?_toList]
        have h2 : t < cur.size := by rw [hs]; omega
        unfold putCells
        rw [Array.getElem?_mapIdx, Array.getElem?_eq_getElem h2, Option.map_some, if_pos ⟨Nat.zero_le _, by omega⟩, Nat.sub_zero]
        rw [show (d.toList.toArray) = d from rfl, Array.getElem?_eq_getElem (by omega), getElem!_pos _ t (by omega)]
        rfl
      · rw [List.getElem?_eq_none (by rw [List.length_take]; omega), List.getElem?_eq_none (by rw [Array.length_toList, show (d.toList.toArray) = d from rfl]; omega)]
theorem sorted_below {w W : World} {base g m : Nat} {d : Array Ed} {os : Array Obj} (h : Below base w W) (hb : base ≤ g) (hg : g < W.heap.size) : Below base w (sortWorldK eL 3 W g 0 m d os) := by
  refine ⟨h.os, h.tape, h.output, ?_, fun k hk => ?_⟩
  · show w.heap.size ≤ (((Sort.ahead W m).heap.modify g (onCells (putCells id 0 (flatK eL 3 d)))) ++ os).size
    rw [Array.size_append, Array.size_modify]
    have := h.size
    show w.heap.size ≤ W.heap.size + _
    omega
  · show (((Sort.ahead W m).heap.modify g (onCells (putCells id 0 (flatK eL 3 d)))) ++ os)[k]? = _
    rw [Array.getElem?_append_left (by rw [Array.size_modify]; show k < W.heap.size; omega), Array.getElem?_modify, if_neg (by omega)]
    exact h.block k hk
theorem lt_edge (x y : Ed) : ltOf (fun x y : Ed => Lib.compareInt x.1 y.1) x y = decide (x.1 < y.1) := by
  unfold ltOf Lib.compareInt
  by_cases h1 : x.1 < y.1
  · simp [h1]
  · by_cases h2 : y.1 < x.1 <;> simp [h1, h2]
theorem swo_edge : SWO (ltOf fun x y : Ed => Lib.compareInt x.1 y.1) where
  irrefl x := by rw [lt_edge]; simp
  trans x y z h1 h2 := by rw [lt_edge] at *; simp at *; omega
  ntrans x y z h1 h2 := by rw [lt_edge] at *; simp at *; omega
end Go.Proofs.YthjdjgppghplgaaDoor
