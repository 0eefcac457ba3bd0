/-
slices.SortFunc over edges, by the library's contract. Conditions: the row is one's own.
-/
import Derived.Shelf.SlSortCmp.WholeK
import Derived.Shelf.SlicesG.Cmp
import Derived.Test.YthjdjgppghplgaaDoorRgShelf
import Derived.Test.YthjdjgppghplgaaDoorRgSort
import Derived.WalkKit
namespace Go.Proofs.YthjdjgppghplgaaDoor
open Go Go.RowKit Go.Lib Go.Sort Go.Shelf Go.Proofs.YthjdjgppghplgaaDoorW.PrintWords Go.Proofs.YthjdjgppghplgaaDoorW.PrintLast Go.Proofs.YthjdjgppghplgaaDoorW.PrintMore
set_option maxHeartbeats 1000000 in
theorem closure_edge (x y : Ed) (W : World) : Calls Tryd.prog 55 #[.agg #[.int .i64 x.1, .int .i64 x.2.1, .int .i64 x.2.2], .agg #[.int .i64 y.1, .int .i64 y.2.1, .int .i64 y.2.2]] W fun e w' => e = .returned (.int .i64 (Lib.compareInt x.1 y.1)) ∧ ∃ q os', w' = grow (W.drewN q) os' := by
  have hcon := fun W' => AnyG.cmp_Compare_int Tryd.cmpInt x.1 y.1 W'
  change ∀ W', Calls Tryd.prog 56 _ _ _ at hcon
  generalize Lib.compareInt x.1 y.1 = r at hcon ⊢
  go_enter Tryd.func55, Tryd.ntmps55
  go_wp2_with (go_at_call 56; refine (hcon _).mono ?_; rintro e w' ⟨rfl, rfl⟩)
  go_ret
  exact ⟨rfl, 0, _, by rw [alloc_eq_grow, alloc_eq_grow, grow_grow]; rfl⟩
set_option maxHeartbeats 4000000 in
set_option maxRecDepth 100000 in
theorem len_none (w : World) : Calls Tryd.prog 59 #[.int .u64 0] w fun e w' => (∃ l : Int, e = .returned (.int .i64 l)) ∧ w = w' := by
  go_enter Tryd.func59, Tryd.ntmps59
  go_wp2
  go_ret
  exact ⟨⟨_, rfl⟩, rfl⟩
set_option maxHeartbeats 4000000 in
set_option maxRecDepth 100000 in
theorem ins_none (w : World) : Calls Tryd.prog 61 #[.slice none 0 0, .int .i64 0, .int .i64 0, .func (.func 55) #[] #[]] w fun e w' => e = .returned (.tuple #[]) ∧ w = w' := by
  go_enter Tryd.func61, Tryd.ntmps61
  go_wp2
  refine wp_loop_rounds 1 ?_
  rw [rounds_succ]
  go_wp2
  go_end0
  exact ⟨rfl, rfl⟩
set_option maxHeartbeats 4000000 in
set_option maxRecDepth 100000 in
theorem pdq_none (l : Int) (w : World) : Calls Tryd.prog 58 #[.slice none 0 0, .int .i64 0, .int .i64 0, .int .i64 l, .func (.func 55) #[] #[]] w fun e w' => e = .returned (.tuple #[]) ∧ w = w' := by
  go_enter Tryd.func58, Tryd.ntmps58
  go_wp2
  refine wp_loop_rounds 1 ?_
  rw [rounds_succ]
  go_wp2_with fail
  refine (ins_none w).mono ?_
  rintro e w' ⟨rfl, rfl⟩
  go_wp2
  (try simp only [Exit.inBlock, Exit.then]); refine bodyPost_ret (results_none rfl _ _ _) rfl ?_
  exact ⟨rfl, rfl⟩
set_option maxHeartbeats 4000000 in
set_option maxRecDepth 100000 in
theorem sort_none (w : World) : Calls Tryd.prog 54 #[.slice none 0 0, .func (.func 55) #[] #[]] w fun e w' => e = .returned (.tuple #[]) ∧ w = w' := by
  go_enter Tryd.func54, Tryd.ntmps54
  go_wp2_with fail
  refine (len_none w).mono ?_
  rintro e w' ⟨⟨l, rfl⟩, rfl⟩
  go_wp2_with fail
  refine (pdq_none l w).mono ?_
  rintro e w' ⟨rfl, rfl⟩
  go_wp2
  go_end0
  exact ⟨rfl, rfl⟩
/-- slices.SortFunc of edges in a row of one's own. -/
theorem sort_any (v : Value) (es : List Ed) (base : Nat) (w0 W : World) (HO : W.ownsRow base EdT 3 v es.length (es.flatMap eL)) (HB : Below base w0 W) (hl : es.length ≤ 8388608) :
    Calls Tryd.prog 54 #[v, .func (.func 55) #[] #[]] W fun e w' => e = .returned (.tuple #[]) ∧ ∃ fs : List Ed, fs.Perm es ∧ (∀ i j, (hij : i < j) → (hj : j < fs.length) → (fs[i]'(by omega)).1 ≤ fs[j].1) ∧ w'.ownsRow base EdT 3 v fs.length (fs.flatMap eL) ∧ Below base w0 w' := by
  rcases id HO.2 with ⟨rfl, h0⟩ | ⟨g, cap, cur, rfl, hr⟩
  · obtain rfl : es = [] := List.length_eq_zero_iff.1 h0
    refine (sort_none W).mono ?_
    rintro e w' ⟨rfl, rfl⟩
    exact ⟨rfl, [], List.Perm.refl _, fun i j _ hj => absurd hj (by simp), HO, HB⟩
  · have eg : ∀ args w, (callFunc 55 args).run Tryd.prog w = .ok (.enter 55 args) w := enters_of Tryd.func55 (by kernel_rfl) rfl
    obtain ⟨hH, hblk, hbase⟩ := own_holds HO rfl
    have hcon := AnyQ.slices_SortFunc Tryd.sortEd 3 Tryd.isAgg65 Tryd.sizeOf65 eL (fun _ => rfl) (fun x v hv => by simp [eL] at hv; rcases hv with rfl | rfl | rfl <;> rfl) (fun x y => Lib.compareInt x.1 y.1) swo_edge 55 #[] g 0 cap es.toArray W eg (fun _ _ _ _ x y => closure_edge x y _) hH hblk (by simp; omega)
    change Calls Tryd.prog 54 _ _ _ at hcon
    refine hcon.mono ?_
    rintro e w' ⟨rfl, d, n, os, hp, hs, rfl⟩
    have hsz : d.size = es.length := by have := hp.1; simpa using this
    refine ⟨rfl, d.toList, ?_, ?_, ?_, sorted_below HB hbase hblk⟩
    · have := hp.2.2
      have e : List.take es.length d.toList = d.toList := List.take_of_length_le (by rw [Array.length_toList, hsz]; exact Nat.le_refl _)
      simpa [hsz, e] using this
    · intro i j hij hj
      rw [Array.length_toList] at hj
      have := hs i j (Nat.zero_le _) hij (by simpa [hsz] using hj)
      rw [lt_edge, decide_eq_false_iff_not, getElem!_pos _ j hj, getElem!_pos _ i (by omega)] at this
      rw [Array.getElem_toList, Array.getElem_toList]
      omega
    · have := sorted_own (m := n) (os := os) HO hsz
      have e : d.toList.length = es.length := by rw [Array.length_toList, hsz]
      rw [e]
      exact this
end Go.Proofs.YthjdjgppghplgaaDoor
