/-
units.all and its closure: all units from a place on, in order. Conditions: the table reads as listed; the text's size.
-/
import Derived.Test.YtbpadakcjnkjeaaDoorUnit
import Derived.Test.YtbpadakcjnkjeaaDoorRange
namespace Go.Proofs.YtbpadakcjnkjeaaDoor
open Go Go.RowKit Go.Shelf Go.Proofs.YtbpadakcjnkjeaaDoorW.PrintWords Go.Proofs.YtbpadakcjnkjeaaDoorW.PrintLast Go.Proofs.YtbpadakcjnkjeaaDoorW.PrintMore
set_option maxRecDepth 100000
attribute [local go_sem] Oper.semAt_some
/-- The units from a place on: point, start, end. -/
def unitsFrom (s : ByteArray) : Nat → Nat → List (Int × Int × Int)
  | 0, _ => []
  | f + 1, i => if i < s.size then (unitPt s i, (i : Int), (i : Int) + (unitLen s i : Int)) :: unitsFrom s f (i + unitLen s i) else []
def uEncs (x : Int × Int × Int) : Array Value := #[.agg #[.int .i64 x.1, .int .i64 x.2.1, .int .i64 x.2.2]]
/-- The iterator's moves: new memory; its own place. -/
def MvAt (Ba : Nat) (A C : World) : Prop := Below A.heap.size A C ∨ ∃ v, C = A.setCell ⟨Ba, 0, none⟩ v
set_option maxRecDepth 100000 in
theorem all_any (s : ByteArray) (i : Int) (w : World) :
    Calls Tryd.prog 34 #[.string s, .int .i64 i] w fun e w' => e = .returned (.func (.func 46) #[] #[.pointer (some ⟨w.heap.size + 1, 0, none⟩), .pointer (some ⟨w.heap.size, 0, none⟩)]) ∧ w' = (w.alloc (.cells #[.string s] 9)).alloc (.cells #[.int .i64 i] 3) := by
  go_enter Tryd.func34, Tryd.ntmps34
  go_wp2
  go_ret
  exact ⟨rfl, rfl⟩
set_option maxRecDepth 100000 in
set_option maxHeartbeats 4000000 in
theorem all1_any (n : Nat) (hn : 1 ≤ n) (s : ByteArray) (Ba Bs X : Nat) (w : World) (hs : s.size ≤ 140737488355327) (hBa : Ba < w.heap.size) (hBs : Bs < w.heap.size) (hX1 : Ba ≠ X) (hX2 : Bs ≠ X) (hX3 : 11 ≠ X) (hX4 : X < w.heap.size) (hne : Ba ≠ Bs) (hne2 : 11 ≠ Ba)
    (ha : w.heap[Ba]? = some (.cells #[.int .i64 0] 3 (0, 0))) (hb : w.heap[Bs]? = some (.cells #[.string s] 9 (0, 0))) (hf : FormsAt w) :
    GivesAll n Tryd.prog 46 #[.pointer (some ⟨Ba, 0, none⟩), .pointer (some ⟨Bs, 0, none⟩)] uEncs (MvAt Ba) X (unitsFrom s s.size 0) w := by
  intro l J W hW hJ hY hO h0
  have HJm := Sh.mk hJ
  have HYm := Sh.mk hY
  have HOm := Sh.mk hO
  clear hJ hY hO
  have HF := Sh.mk (hf.below hW)
  have HA := Sh.mk (blk_below ha hW)
  have HS := Sh.mk (blk_below hb hW)
  have hfg : 11 < w.heap.size := by obtain ⟨t, ht⟩ := hf; exact blk_lt ht
  clear ha hb hf
  refine callsIn_of_wp Tryd.func46 rfl trivial ?_ rfl
  simp only [Tryd.ntmps46, List.size_toArray, List.length_cons, List.length_nil, Nat.reduceAdd, Nat.reduceSub, Array.replicate_succ, Array.replicate_zero, List.push_toArray, List.append_toArray, List.nil_append, List.cons_append]
  gi_wp2
  gi_loopw [4] (fun _ wr => ∃ (pre : List (Int × Int × Int)) (f i : Nat), Sh (unitsFrom s s.size 0 = pre ++ unitsFrom s f i) ∧ s.size ≤ i + f ∧ i ≤ 140737488355331 ∧ w.heap.size ≤ wr.heap.size ∧ Sh (J pre wr) ∧ Sh (wr.heap[Ba]? = some (.cells #[.int .i64 i] 3 (0, 0))) ∧ Sh (wr.heap[Bs]? = some (.cells #[.string s] 9 (0, 0))) ∧ Sh (FormsAt wr))
    (fun _ wr => s.size - (match wr.cell? ⟨Ba, 0, none⟩ with | some (.int _ z) => z.toNat | _ => 0))
  case atStart =>
    exact ⟨[], s.size, 0, ⟨rfl⟩, by omega, by omega, hW.size, ⟨h0⟩, HA, HS, HF⟩
  case round =>
    obtain ⟨pre, f, i, hx, hfi, hib, hwr, HJ, HA, HS, HF⟩ := hrel
    have xa := blk_cell HA.out 0
    have xaf := blk_frozen HA.out 0
    have xs := blk_cell HS.out 0
    simp only [List.getElem?_toArray, List.getElem?_cons_zero] at xa xs
    have HXA := Sh.mk xa
    by_cases hlt : i < s.size
    · obtain ⟨f', rfl⟩ : ∃ f', f = f' + 1 := ⟨f - 1, by omega⟩
      have hstep : unitsFrom s (f' + 1) i = (unitPt s i, (i : Int), (i : Int) + (unitLen s i : Int)) :: unitsFrom s f' (i + unitLen s i) := by rw [unitsFrom, if_pos hlt]
      have HX := Sh.mk (hx.out.trans (by rw [hstep]))
      have hul := unitLen_pos s i
      clear hstep hx
      gi_wp2_with (refine ⟨trivial, ?_⟩; gi_at_call 47; refine (callsIn_wide.2 (unit_any s i wr HF.out hlt hs)).mono ?_; rintro e w1 ⟨rfl, hb1⟩; have HJ1 := Sh.mk (HJm.out _ _ _ HJ.out (Or.inl hb1)); have HA1 := Sh.mk (blk_below HA.out hb1); have HS1 := Sh.mk (blk_below HS.out hb1); have HF1 := Sh.mk (HF.out.below hb1); have hw1 := hb1.size; obtain ⟨W2, hW2⟩ : ∃ W2, W2 = w1.alloc (.cells #[.int .i64 (unitPt s i), .int .i64 i, .int .i64 (i + unitLen s i)] 50) := ⟨_, rfl⟩; have hb2 : Below w1.heap.size w1 W2 := (by rw [hW2]; exact (Below.refl _ _).alloc (Nat.le_refl _) _); have HJ2 := HJm.out _ _ _ HJ1.out (Or.inl hb2); obtain ⟨fn, tmps, assign, body, hy, hR⟩ := HYm.out pre _ _ W2 HX.out HJ2; have HR := Sh.mk hR; rw [hW2] at hy; dsimp only [uEncs] at hy; have HW2 := Sh.mk hW2; have HB2 := Sh.mk hb2; have HB1 := Sh.mk hb1; clear hW2 hb2 hb1 hR HJ2)
      rw [← HW2.out]
      refine HR.out.mono ?_
      rintro e C ⟨rfl, hJ3, hk3⟩
      obtain ⟨gu, hgu⟩ : ∃ gu, gu = w1.heap.size := ⟨_, rfl⟩
      have hU2 : W2.heap[gu]? = some (.cells #[.int .i64 (unitPt s i), .int .i64 i, .int .i64 (i + unitLen s i)] 50 (0, 0)) := by rw [HW2.out, hgu]; exact blk_new _ _
      have hown : ∀ v k, W2.cell? ⟨X, 0, none⟩ = some v → v.ownBlock = some k → w.heap.size ≤ k ∧ k < gu := by
        intro v k hv hk
        have hXc : W2.cell? ⟨X, 0, none⟩ = w1.cell? ⟨X, 0, none⟩ := HB2.out.cell (show X < w1.heap.size by omega)
        rw [hXc] at hv
        have := HOm.out pre w1 HJ1.out v k hv hk
        omega
      have HU := Sh.mk (hk3 gu _ hU2 rfl (by omega) (fun v hv he => by have := hown v gu hv he; omega))
      have HAC := Sh.mk (hk3 Ba _ (blk_below HA1.out HB2.out) rfl hX1 (fun v hv he => by have := hown v Ba hv he; omega))
      have HSC := Sh.mk (hk3 Bs _ (blk_below HS1.out HB2.out) rfl hX2 (fun v hv he => by have := hown v Bs hv he; omega))
      have HFC : Sh (FormsAt C) := by
        obtain ⟨t, ht⟩ := HF1.out.below HB2.out
        exact ⟨t, hk3 _ _ ht rfl hX3 (fun v hv he => by have := hown v _ hv he; omega)⟩
      have hCs : gu < C.heap.size := blk_lt HU.out
      rw [← hgu]
      have HGU := Sh.mk hgu
      have hgw : w.heap.size ≤ gu := by omega
      have HJ3 := Sh.mk hJ3
      clear hgu hown hU2 hk3 hJ3 HJ1 HA1 HS1 HF1 HB1 HB2 HW2 HR hy HJ HA HS HF xa xaf xs
      have u2 := blk_cell HU.out 2
      have xa := blk_cell HAC.out 0
      have xaf := blk_frozen HAC.out 0
      simp only [List.getElem?_toArray, List.getElem?_cons_zero, List.getElem?_cons_succ] at u2 xa
      gi_wp2
      go_roundw
      case rel => exact ⟨pre ++ [(unitPt s i, (i : Int), (i : Int) + (unitLen s i : Int))], f', i + unitLen s i, ⟨by rw [HX.out, List.append_assoc]; rfl⟩, by omega, by omega, by rw [World.size_setCell]; omega, ⟨HJm.out _ _ _ HJ3.out (Or.inr ⟨_, rfl⟩)⟩, ⟨by rw [Int.natCast_add]; exact blk_set HAC.out 0 _⟩, ⟨blk_far HSC.out (p := ⟨Ba, 0, none⟩) (by show Bs ≠ Ba; omega) _⟩, ⟨by obtain ⟨t, ht⟩ := HFC.out; exact ⟨t, blk_far ht (p := ⟨Ba, 0, none⟩) hne2 _⟩⟩⟩
      case measure =>
        have e1 : (C.setCell ⟨Ba, 0, none⟩ (.int .i64 ((i : Int) + (unitLen s i : Int)))).cell? ⟨Ba, 0, none⟩ = some (.int .i64 ((i : Int) + (unitLen s i : Int))) := World.cell?_setCell_same' _ _ _ (by rw [xa]; rfl)
        rw [e1, HXA.out]
        simp only []
        omega
    · have hnil : unitsFrom s f i = [] := by
        cases f with
        | zero => rfl
        | succ f => rw [unitsFrom, if_neg hlt]
      have HX := Sh.mk (hx.out.trans (by rw [hnil, List.append_nil]))
      clear hx hnil
      gi_wp2
      go_end0
      exact ⟨⟨_, rfl⟩, by rw [HX.out]; exact HJ.out⟩
end Go.Proofs.YtbpadakcjnkjeaaDoor
