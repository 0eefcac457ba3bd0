/-
The document's Split, SameUnits, and the law UnitsSplits, walked. Conditions: the text's size; the table reads as listed.
-/
import Derived.Test.YtbpadakcjnkjeaaDoorSplit
namespace Go.Proofs.YtbpadakcjnkjeaaDoor
open Go Go.RowKit Go.Proofs.YtbpadakcjnkjeaaDoorW.PrintWords Go.Proofs.YtbpadakcjnkjeaaDoorW.PrintLast Go.Proofs.YtbpadakcjnkjeaaDoorW.PrintMore Go.Proofs.YtbpadakcjnkjeaaDoor.POffsetsPlay
set_option maxRecDepth 100000
theorem optPair_unit (s : ByteArray) (i : Nat) : optPair (unitO s i) = (match unitO s i with | some (p, _) => p | none => 0, match unitO s i with | some (_, n) => (n : Int) | none => 0) := by
  cases unitO s i <;> rfl
/-- Good, with its unit. -/
theorem refGood_any (s : ByteArray) (i : Nat) (w : World) (hi : i < s.size) (hs : s.size ≤ 140737488355327) :
    Calls Tryd.prog 43 #[.string s, .int .i64 i] w fun e w' => e = .returned (.tuple #[.int .i64 (optPair (unitO s i)).1, .int .i64 (optPair (unitO s i)).2]) ∧ Below w.heap.size w w' :=
  caesuraref2_Good.calls 10 s i _ _ w (by rw [show (10 : Nat) = 0 + 10 from rfl, good_f 0 s i hs (by omega), good_unit s i hi])
theorem units_M (w : World) (base : Nat) (ok : Nat → Prop) (x : Int × Int × Int) : unitK.M w base ok x [.int .i64 x.1, .int .i64 x.2.1, .int .i64 x.2.2] :=
  ⟨[.int .i64 x.1], [.int .i64 x.2.1, .int .i64 x.2.2], rfl, rfl, [.int .i64 x.2.1], [.int .i64 x.2.2], rfl, rfl, rfl⟩
section
variable {P : Program} {ops : Array Oper} {rest : List Oper} {o : Oper} {a : Act} {Q : Exit → Act → World → Prop}
/-- append of one unit to a row of the call's own. -/
theorem app_unit (t e : Nat) (ht : P.underlying t = some (.slice e)) (hinfo : (P.info? e).map (fun i => (i.zero, i.size, i.bytes)) = some (some (.agg #[.int .i64 0, .int .i64 0, .int .i64 0]), 3, 24))
    (s x : Operand) {base : Nat} {w0 W : World} (v : Value) (xs : List (Int × Int × Int)) (p q r : Int)
    (ho : o.op = .call { callee := .builtin .append, args := #[s, x], argTypes := #[t, t] }) (hgd : o.guard = none) (hs : a.eval s = v) (hx : a.eval x = .slice (some ⟨W.heap.size, 0, none⟩) 1 1)
    (HO : Sh (Kd.R unitK e W base (fun _ => True) v xs)) (HB : Sh (Below base w0 W)) (hbase : base ≤ W.heap.size) (hl : (xs.length + 1) * 24 ≤ 140737488355328)
    (h : ∀ v1 w1, Sh (Kd.R unitK e w1 base (fun _ => True) v1 (xs ++ [(p, q, r)])) → Sh (Below base w0 w1) → wpList P ops Q rest (a.put o.dst v1) w1) :
    wpList P ops Q (o :: rest) a (W.alloc (.cells #[.int .i64 p, .int .i64 q, .int .i64 r] e)) :=
  Kd.R_append unitK (w0 := w0) base hgd s x t e (.agg #[.int .i64 0, .int .i64 0, .int .i64 0]) 24 ho ht hinfo rfl (by decide) (by decide) v xs (p, q, r) [.int .i64 p, .int .i64 q, .int .i64 r] (fun _ => True) (fun _ => False) hs hx (units_M _ _ _ (p, q, r)) (fun _ hk => hk.elim) (fun _ _ => trivial) HO.out HB.out hbase hl
    (fun v1 w1 ho hb _ _ => h v1 w1 ⟨ho⟩ ⟨hb⟩)
end
set_option maxRecDepth 100000 in
set_option maxHeartbeats 4000000 in
theorem refSplit_any (s : ByteArray) (w : World) (hs : s.size ≤ 5000000000000) :
    Calls Tryd.prog 26 #[.string s] w fun e w' => ∃ v, e = .returned v ∧ Kd.R unitK 50 w' w.heap.size (fun _ => True) v (unitsFrom s s.size 0) ∧ Below w.heap.size w w' := by
  go_enter Tryd.func26, Tryd.ntmps26
  go_wp2
  go_loopw [3, 4] (fun v vi wr => ∃ (pre : List (Int × Int × Int)) (f i : Nat), vi = .int .i64 i ∧ Sh (unitsFrom s s.size 0 = pre ++ unitsFrom s f i) ∧ s.size ≤ i + f ∧ i ≤ s.size + 4 ∧ pre.length ≤ i ∧ Sh (Kd.R unitK 50 wr w.heap.size (fun _ => True) v pre) ∧ Sh (Below w.heap.size w wr)) (fun _ vi _ => s.size - (intOf vi).toNat)
  case atStart => exact ⟨[], s.size, 0, rfl, ⟨rfl⟩, by omega, by omega, by simp, ⟨Kd.R_nil _ _ _ _ _⟩, ⟨Below.refl _ _⟩⟩
  case round =>
    obtain ⟨pre, f, i, rfl, hx, hfi, hib, hpl, HO, HB⟩ := hrel
    by_cases hlt : i < s.size
    · obtain ⟨f', rfl⟩ : ∃ f', f = f' + 1 := ⟨f - 1, by omega⟩
      have hstep : unitsFrom s (f' + 1) i = (unitPt s i, (i : Int), (i : Int) + (unitLen s i : Int)) :: unitsFrom s f' (i + unitLen s i) := by rw [unitsFrom, if_pos hlt]
      have HX := Sh.mk (hx.out.trans (by rw [hstep]))
      have hul := unitLen_pos s i
      clear hstep hx
      go_wp2_with fail
      refine (refGood_any s i wr hlt (by omega)).mono ?_
      rintro e w1 ⟨rfl, hb1⟩
      have HO1 := Sh.mk (Kd.R_below HO.out hb1)
      have HB1 := Sh.mk (below_of HB.out hb1)
      clear hb1 HO HB
      cases hu : unitO s i with
      | none =>
        have HU := Sh.mk (show unitPt s i = -1 ∧ unitLen s i = 1 by unfold unitPt unitLen; rw [hu]; exact ⟨rfl, rfl⟩)
        clear hu
        simp only [optPair]
        go_wp2_with (first | ((with_reducible refine gate_builtin (b := .append) (xs := #[.tmp 19, .tmp 26]) rfl ?_); refine app_unit 47 50 Tryd.underlying47 info_unit (w0 := w) (.tmp 19) (.tmp 26) _ _ _ _ _ rfl rfl rfl rfl HO1 HB1 HB1.out.size (by omega) ?_; clear HO1 HB1; intro v1 w2 HO HB))
        go_roundw
        case rel => exact ⟨pre ++ [(unitPt s i, (i : Int), (i : Int) + (unitLen s i : Int))], f', i + unitLen s i, by rw [HU.out.2]; rfl, ⟨by rw [HX.out, List.append_assoc]; rfl⟩, by omega, by omega, by simp; omega, ⟨by rw [HU.out.1, HU.out.2]; exact HO.out⟩, HB⟩
        case measure => simp [intOf]; omega
      | some x =>
        obtain ⟨p, n⟩ := x
        have HU := Sh.mk (show unitPt s i = p ∧ unitLen s i = n by unfold unitPt unitLen; rw [hu]; exact ⟨rfl, rfl⟩)
        have hn1 : 1 ≤ n ∧ n ≤ 4 := by rw [← HU.out.2]; exact hul
        have l0 : ((n : Int) == 0) = false := by simp; omega
        have l0' : (n == 0) = false := by simp; omega
        clear hu
        simp only [optPair]
        go_wp2_with (first | ((with_reducible refine gate_builtin (b := .append) (xs := #[.tmp 19, .tmp 26]) rfl ?_); refine app_unit 47 50 Tryd.underlying47 info_unit (w0 := w) (.tmp 19) (.tmp 26) _ _ _ _ _ rfl rfl rfl rfl HO1 HB1 HB1.out.size (by omega) ?_; clear HO1 HB1; intro v1 w2 HO HB))
        go_roundw
        case rel => exact ⟨pre ++ [(unitPt s i, (i : Int), (i : Int) + (unitLen s i : Int))], f', i + unitLen s i, by rw [HU.out.2, Int.natCast_add], ⟨by rw [HX.out, List.append_assoc]; rfl⟩, by omega, by omega, by simp; omega, ⟨by rw [HU.out.1, HU.out.2]; exact HO.out⟩, HB⟩
        case measure => simp [intOf]; omega
    · have hnil : unitsFrom s f i = [] := by
        cases f with
        | zero => rfl
        | succ f => rw [unitsFrom, if_neg hlt]
      have HX := Sh.mk (hx.out.trans (by rw [hnil, List.append_nil]))
      clear hx hnil
      go_wp2
      go_ret
      exact ⟨_, rfl, by rw [HX.out]; exact HO.out, HB.out⟩
end Go.Proofs.YtbpadakcjnkjeaaDoor
