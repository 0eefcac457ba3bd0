/-
Several texts as one: OffFind, OffFind2, OffFind3, OffFind4, OffCalls.
-/
import Derived.Test.YtbpadakcjnkjeaaDoorOffN
import Derived.Test.YtbpadakcjnkjeaaDoorSen
/- offsets.find over the places: the key's first place, or none. Conditions: what is looked for rises. -/
namespace Go.Proofs.YtbpadakcjnkjeaaDoor
open Go Go.RowKit Go.Proofs.YtbpadakcjnkjeaaDoorW.PrintWords Go.Proofs.YtbpadakcjnkjeaaDoorW.PrintLast Go.Proofs.YtbpadakcjnkjeaaDoorW.PrintMore
set_option maxRecDepth 100000
set_option linter.unusedSimpArgs false
section
variable {P : Program} {ops : Array Oper} {Q : Exit → Act → World → Prop}
/-- A call of a function value. -/
theorem goesV_ {oi : Oper} {N : Option Tmp} {a : Act} {w : World} {K : Act → World → Prop} {f : FuncId} {fn : Func} {c : Operand} {args0 : Array Operand} {ts : Array TypeId} (hf : P.funcs[f]? = some fn) (hname : (fn.name == "runtime.NumGoroutine") = false) (hb : fn.body.isSome = true) (args : Array Value)
    (hw : Region.wanted oi (yielded ops a.tmps) = true) (hN : oi.dst = N) (hop : oi.op = .call { callee := .value c, args := args0, argTypes := ts }) (hc : a.eval c = .func (.func f) #[] #[]) (hargs : args0.map a.eval = args)
    (h : Calls P f args w fun e w' => ∃ v, e = .returned v ∧ K (a.put N v) w') : if Region.wanted oi (yielded ops a.tmps) = true then Oper.wp P oi a w K Q else K (a.put N undef) w := by
  refine call_ f args hw hN ?_ h
  have he := enters_ hf hname hb args w
  unfold execOp
  simp [hop, resolve, hc, Deferred.ofValue, invoke, hargs, he]
end
theorem cellD {w : World} {a : Addr} {v : Value} (h : w.cell? a = some v) : w.drew.cell? a = some v := h
theorem cellB {w w1 : World} {a : Addr} {v : Value} (hb : Below w.heap.size w w1) (h : w.cell? a = some v) : w1.cell? a = some v := (hb.cell (World.block_lt_of_cell? w _ h)).trans h
def rdP (ps : List Pl) (k : Nat) : Pl := ps.getD k (0, 0, 0, 0)
/-- What an index into a row of places reads. -/
theorem C_pl {w : World} {A : Option Addr} {n : Nat} {xs : List Pl} (h : plK.C w A n xs) (i : Nat) (hi : i < n) : ∃ ad, A = some ad ∧ w.cell? (ad.add (i * 4)) = some (.int .i64 (rdP xs i).1) ∧ w.cell? ⟨(ad.add (i * 4)).block, (ad.add (i * 4)).off + 1, none⟩ = some (.int .i64 (rdP xs i).2.1) ∧
    w.cell? ⟨(ad.add (i * 4)).block, (ad.add (i * 4)).off + 2, none⟩ = some (.int .i64 (rdP xs i).2.2.1) ∧ w.cell? ⟨(ad.add (i * 4)).block, (ad.add (i * 4)).off + 3, none⟩ = some (.int .i64 (rdP xs i).2.2.2) := by
  obtain ⟨h1, h2, h3⟩ := h
  obtain ⟨ad, e, hc⟩ := h3 (by omega)
  have hl : i < xs.length := by omega
  obtain ⟨c, hs, hp, hcell⟩ := hc i _ (List.getElem?_eq_getElem hl)
  obtain ⟨c0, c1, rfl, hc0, c2, c3, rfl, hc2, c4, c5, rfl, hc4, hc5⟩ := hp
  have e0 : rdP xs i = xs[i] := by simp [rdP, List.getD, hl]
  rw [e0]
  have k0 : c0 = [.int .i64 xs[i].1] := hc0
  have k2 : c2 = [.int .i64 xs[i].2.1] := hc2
  have k4 : c4 = [.int .i64 xs[i].2.2.1] := hc4
  have k5 : c5 = [.int .i64 xs[i].2.2.2] := hc5
  subst k0 k2 k4 k5
  exact ⟨ad, e, hcell 0 _ rfl, by rw [← add_field _ _ 1 (by omega)]; exact hcell 1 _ rfl, by rw [← add_field _ _ 2 (by omega)]; exact hcell 2 _ rfl, by rw [← add_field _ _ 3 (by omega)]; exact hcell 3 _ rfl⟩
theorem rdP_plL (us : List Un) (n k : Nat) (h : k < n) : rdP (plL us n) k = plA us k := by
  unfold rdP
  rw [List.getD_eq_getElem?_getD, plL_get us n k h, Option.getD_some]
theorem below_up' {w w1 w2 : World} (h : Below w.heap.size w w1) (k : Below w1.heap.size w1 w2) : Below w.heap.size w w2 := below_of h k
set_option maxHeartbeats 4000000 in
set_option maxRecDepth 100000 in
theorem closB_any (x0 i n c : Nat) (A : Option Addr) (ps : List Pl) (want : Int) (w : World) (hi : i < n)
    (h2 : w.cell? ⟨x0, 0, none⟩ = some (.slice A n c)) (h1 : w.cell? ⟨x0 + 1, 0, none⟩ = some (.func (.func 42) #[] #[])) (h0 : w.cell? ⟨x0 + 2, 0, none⟩ = some (.func (.func 37) #[] #[])) (h3 : w.cell? ⟨x0 + 3, 0, none⟩ = some (.int .i64 want)) (hC : plK.C w A n ps) :
    Calls Tryd.prog 49 (#[.int .i64 i] ++ #[.pointer (some ⟨x0 + 2, 0, none⟩), .pointer (some ⟨x0 + 1, 0, none⟩), .pointer (some ⟨x0, 0, none⟩), .pointer (some ⟨x0 + 3, 0, none⟩)]) w fun e w' => e = .returned (.bool (decide (want ≤ (rdP ps i).1))) ∧ Below w.heap.size w w' := by
  obtain ⟨ad, e1, y0, y1, y2, y3⟩ := C_pl hC i hi
  cases e1
  obtain ⟨⟨pA, pW, pL, pC⟩, hp⟩ : ∃ p : Pl, p = rdP ps i := ⟨_, rfl⟩
  rw [← hp] at y0 y1 y2 y3 ⊢
  simp only [] at y0 y1 y2 y3 ⊢
  have hl := hC.2.1
  clear hp hC
  go_enter Tryd.func49, Tryd.ntmps49
  go_wp2
  refine start_ (n := 11) (S := fun w' => w'.cell? ⟨x0 + 2, 0, none⟩ = some (.func (.func 37) #[] #[]) ∧ w'.cell? ⟨x0 + 1, 0, none⟩ = some (.func (.func 42) #[] #[]) ∧ w'.cell? ⟨x0, 0, none⟩ = some (.slice (some ad) n c) ∧ w'.cell? ⟨x0 + 3, 0, none⟩ = some (.int .i64 want) ∧ w'.cell? (ad.add (i * 4)) = some (.int .i64 pA) ∧ w'.cell? ⟨(ad.add (i * 4)).block, (ad.add (i * 4)).off + 1, none⟩ = some (.int .i64 pW) ∧ w'.cell? ⟨(ad.add (i * 4)).block, (ad.add (i * 4)).off + 2, none⟩ = some (.int .i64 pL) ∧ w'.cell? ⟨(ad.add (i * 4)).block, (ad.add (i * 4)).off + 3, none⟩ = some (.int .i64 pC)) (ds := []) #[false, false, false, false, false, false, false, false, false, false, false] (by kernel_rfl) rfl rfl ⟨cellD h0, cellD h1, cellD h2, cellD h3, cellD y0, cellD y1, cellD y2, cellD y3⟩ (fun hHeld => ?_)
  refine pure_ (i := 3) (N := some 10) (v := ?_) (a' := ?_) #[false, false, false, true, false, false, false, false, false, false, false] rfl rfl (by kernel_rfl) (fun _ _ _ h => h) (Or.inl ⟨by rfl, ?_⟩) ?_ ?_
  rotate_left
  · intro w'
    go_simp
    with_reducible rfl
  rotate_left
  · simp only [Act.put, List.setIfInBounds_toArray, List.set_cons_zero, List.set_cons_succ, i64_w, i32_w]
    rfl
  refine take_ (i := 0) (N := some 7) (v := ?_) (a' := ?_) #[true, false, false, true, false, false, false, false, false, false, false] rfl rfl (by kernel_rfl) (fun _ _ _ h => h) (Or.inl ⟨by rfl, ?_⟩) hHeld ?_ ?_
  rotate_left
  · rintro w' ⟨s0, s1, s2, s3, s4, s5, s6, s7⟩
    go_simp
    with_reducible rfl
  rotate_left
  · simp only [Act.put, List.setIfInBounds_toArray, List.set_cons_zero, List.set_cons_succ, i64_w, i32_w]
    rfl
  refine take_ (i := 1) (N := some 8) (v := ?_) (a' := ?_) #[true, true, false, true, false, false, false, false, false, false, false] rfl rfl (by kernel_rfl) (fun _ _ _ h => h) (Or.inl ⟨by rfl, ?_⟩) hHeld ?_ ?_
  rotate_left
  · rintro w' ⟨s0, s1, s2, s3, s4, s5, s6, s7⟩
    go_simp
    with_reducible rfl
  rotate_left
  · simp only [Act.put, List.setIfInBounds_toArray, List.set_cons_zero, List.set_cons_succ, i64_w, i32_w]
    rfl
  refine take_ (i := 2) (N := some 9) (v := ?_) (a' := ?_) #[true, true, true, true, false, false, false, false, false, false, false] rfl rfl (by kernel_rfl) (fun _ _ _ h => h) (Or.inl ⟨by rfl, ?_⟩) hHeld ?_ ?_
  rotate_left
  · rintro w' ⟨s0, s1, s2, s3, s4, s5, s6, s7⟩
    go_simp
    with_reducible rfl
  rotate_left
  · simp only [Act.put, List.setIfInBounds_toArray, List.set_cons_zero, List.set_cons_succ, i64_w, i32_w]
    rfl
  refine pure_ (i := 4) (N := some 11) (v := ?_) (a' := ?_) #[true, true, true, true, true, false, false, false, false, false, false] rfl rfl (by kernel_rfl) (fun _ _ _ h => h) (Or.inl ⟨by rfl, ?_⟩) ?_ ?_
  rotate_left
  · intro w'
    go_simp
    with_reducible rfl
  rotate_left
  · simp only [Act.put, List.setIfInBounds_toArray, List.set_cons_zero, List.set_cons_succ, i64_w, i32_w]
    rfl
  refine take_ (i := 5) (N := some 12) (v := ?_) (a' := ?_) #[true, true, true, true, true, true, false, false, false, false, false] rfl rfl (by kernel_rfl) (fun _ _ _ h => h) (Or.inl ⟨by rfl, ?_⟩) hHeld ?_ ?_
  rotate_left
  · rintro w' ⟨s0, s1, s2, s3, s4, s5, s6, s7⟩
    go_simp
    with_reducible rfl
  rotate_left
  · simp only [Act.put, List.setIfInBounds_toArray, List.set_cons_zero, List.set_cons_succ, i64_w, i32_w]
    rfl
  refine take_ (i := 7) (N := some 14) (v := ?_) (a' := ?_) #[true, true, true, true, true, true, false, true, false, false, false] rfl rfl (by kernel_rfl) (fun _ _ _ h => h) (Or.inl ⟨by rfl, ?_⟩) hHeld ?_ ?_
  rotate_left
  · rintro w' ⟨s0, s1, s2, s3, s4, s5, s6, s7⟩
    go_simp
    with_reducible rfl
  rotate_left
  · simp only [Act.put, List.setIfInBounds_toArray, List.set_cons_zero, List.set_cons_succ, i64_w, i32_w]
    rfl
  refine one_ (i := 6) (N := some 13) #[true, true, true, true, true, true, true, true, false, false, false] rfl rfl (by kernel_rfl) (by decide) (fun K hK => ?_)
  refine goesV_ Tryd.func42 (by kernel_rfl) rfl #[plV (pA, pW, pL, pC)] (by rfl) rfl rfl (by rfl) (by simp only [List.map_toArray, List.map_cons, List.map_nil]; rfl) ?_
  with_reducible refine (kbytes_any (pA, pW, pL, pC) _).mono ?_
  rintro e w3 ⟨rfl, hb3⟩
  refine ⟨_, rfl, ?_⟩
  refine hK.out _ _ ⟨(cellB hb3 (cellD h0)), (cellB hb3 (cellD h1)), (cellB hb3 (cellD h2)), (cellB hb3 (cellD h3)), (cellB hb3 (cellD y0)), (cellB hb3 (cellD y1)), (cellB hb3 (cellD y2)), (cellB hb3 (cellD y3))⟩ (fun hHeld => ?_)
  clear hK K
  refine norm_ (a' := ?_) ?_ ?_
  rotate_left
  · show Act.put _ (some 13) _ = _
    simp only [Act.put, List.setIfInBounds_toArray, List.set_cons_zero, List.set_cons_succ, i64_w, i32_w]
    rfl
  refine one_ (i := 8) (N := some 15) #[true, true, true, true, true, true, true, true, true, false, false] rfl rfl (by kernel_rfl) (by decide) (fun K hK => ?_)
  refine goesV_ Tryd.func37 (by kernel_rfl) rfl #[.int .i64 pA, .int .i64 want] (by rfl) rfl rfl (by rfl) (by simp only [List.map_toArray, List.map_cons, List.map_nil]; rfl) ?_
  with_reducible refine (cmp_any pA want _).mono ?_
  rintro e w4 ⟨rfl, rfl⟩
  refine ⟨_, rfl, ?_⟩
  refine hK.out _ _ ⟨(cellB hb3 (cellD h0)), (cellB hb3 (cellD h1)), (cellB hb3 (cellD h2)), (cellB hb3 (cellD h3)), (cellB hb3 (cellD y0)), (cellB hb3 (cellD y1)), (cellB hb3 (cellD y2)), (cellB hb3 (cellD y3))⟩ (fun hHeld => ?_)
  clear hK K
  refine norm_ (a' := ?_) ?_ ?_
  rotate_left
  · show Act.put _ (some 15) _ = _
    simp only [Act.put, List.setIfInBounds_toArray, List.set_cons_zero, List.set_cons_succ, i64_w, i32_w]
    rfl
  refine pure_ (i := 9) (N := some 16) (v := ?_) (a' := ?_) #[true, true, true, true, true, true, true, true, true, true, false] rfl rfl (by kernel_rfl) (fun _ _ _ h => h) (Or.inl ⟨by rfl, ?_⟩) ?_ ?_
  rotate_left
  · intro w'
    go_simp
    with_reducible rfl
  rotate_left
  · simp only [Act.put, List.setIfInBounds_toArray, List.set_cons_zero, List.set_cons_succ, i64_w, i32_w]
    rfl
  refine pure_ (i := 10) (N := some 6) (v := ?_) (a' := ?_) #[true, true, true, true, true, true, true, true, true, true, true] rfl rfl (by kernel_rfl) (fun _ _ _ h => h) (Or.inl ⟨by rfl, ?_⟩) ?_ ?_
  rotate_left
  · intro w'
    go_simp
    with_reducible rfl
  rotate_left
  · simp only [Act.put, List.setIfInBounds_toArray, List.set_cons_zero, List.set_cons_succ, i64_w, i32_w]
    rfl
  refine done_ (by kernel_rfl) ?_
  have HG := Sh.mk (cmpI_ge pA want)
  go_wp2
  go_ret
  exact ⟨by rw [← HG.out]; rfl, below_up' (below_drew (Below.refl _ _)) hb3⟩
set_option maxHeartbeats 4000000 in
set_option maxRecDepth 100000 in
theorem closW_any (x0 i n c : Nat) (A : Option Addr) (ps : List Pl) (want : Int) (w : World) (hi : i < n)
    (h2 : w.cell? ⟨x0, 0, none⟩ = some (.slice A n c)) (h1 : w.cell? ⟨x0 + 1, 0, none⟩ = some (.func (.func 36) #[] #[])) (h0 : w.cell? ⟨x0 + 2, 0, none⟩ = some (.func (.func 37) #[] #[])) (h3 : w.cell? ⟨x0 + 3, 0, none⟩ = some (.int .i64 want)) (hC : plK.C w A n ps) :
    Calls Tryd.prog 49 (#[.int .i64 i] ++ #[.pointer (some ⟨x0 + 2, 0, none⟩), .pointer (some ⟨x0 + 1, 0, none⟩), .pointer (some ⟨x0, 0, none⟩), .pointer (some ⟨x0 + 3, 0, none⟩)]) w fun e w' => e = .returned (.bool (decide (want ≤ (rdP ps i).2.1))) ∧ Below w.heap.size w w' := by
  obtain ⟨ad, e1, y0, y1, y2, y3⟩ := C_pl hC i hi
  cases e1
  obtain ⟨⟨pA, pW, pL, pC⟩, hp⟩ : ∃ p : Pl, p = rdP ps i := ⟨_, rfl⟩
  rw [← hp] at y0 y1 y2 y3 ⊢
  simp only [] at y0 y1 y2 y3 ⊢
  have hl := hC.2.1
  clear hp hC
  go_enter Tryd.func49, Tryd.ntmps49
  go_wp2
  refine start_ (n := 11) (S := fun w' => w'.cell? ⟨x0 + 2, 0, none⟩ = some (.func (.func 37) #[] #[]) ∧ w'.cell? ⟨x0 + 1, 0, none⟩ = some (.func (.func 36) #[] #[]) ∧ w'.cell? ⟨x0, 0, none⟩ = some (.slice (some ad) n c) ∧ w'.cell? ⟨x0 + 3, 0, none⟩ = some (.int .i64 want) ∧ w'.cell? (ad.add (i * 4)) = some (.int .i64 pA) ∧ w'.cell? ⟨(ad.add (i * 4)).block, (ad.add (i * 4)).off + 1, none⟩ = some (.int .i64 pW) ∧ w'.cell? ⟨(ad.add (i * 4)).block, (ad.add (i * 4)).off + 2, none⟩ = some (.int .i64 pL) ∧ w'.cell? ⟨(ad.add (i * 4)).block, (ad.add (i * 4)).off + 3, none⟩ = some (.int .i64 pC)) (ds := []) #[false, false, false, false, false, false, false, false, false, false, false] (by kernel_rfl) rfl rfl ⟨cellD h0, cellD h1, cellD h2, cellD h3, cellD y0, cellD y1, cellD y2, cellD y3⟩ (fun hHeld => ?_)
  refine pure_ (i := 3) (N := some 10) (v := ?_) (a' := ?_) #[false, false, false, true, false, false, false, false, false, false, false] rfl rfl (by kernel_rfl) (fun _ _ _ h => h) (Or.inl ⟨by rfl, ?_⟩) ?_ ?_
  rotate_left
  · intro w'
    go_simp
    with_reducible rfl
  rotate_left
  · simp only [Act.put, List.setIfInBounds_toArray, List.set_cons_zero, List.set_cons_succ, i64_w, i32_w]
    rfl
  refine take_ (i := 0) (N := some 7) (v := ?_) (a' := ?_) #[true, false, false, true, false, false, false, false, false, false, false] rfl rfl (by kernel_rfl) (fun _ _ _ h => h) (Or.inl ⟨by rfl, ?_⟩) hHeld ?_ ?_
  rotate_left
  · rintro w' ⟨s0, s1, s2, s3, s4, s5, s6, s7⟩
    go_simp
    with_reducible rfl
  rotate_left
  · simp only [Act.put, List.setIfInBounds_toArray, List.set_cons_zero, List.set_cons_succ, i64_w, i32_w]
    rfl
  refine take_ (i := 1) (N := some 8) (v := ?_) (a' := ?_) #[true, true, false, true, false, false, false, false, false, false, false] rfl rfl (by kernel_rfl) (fun _ _ _ h => h) (Or.inl ⟨by rfl, ?_⟩) hHeld ?_ ?_
  rotate_left
  · rintro w' ⟨s0, s1, s2, s3, s4, s5, s6, s7⟩
    go_simp
    with_reducible rfl
  rotate_left
  · simp only [Act.put, List.setIfInBounds_toArray, List.set_cons_zero, List.set_cons_succ, i64_w, i32_w]
    rfl
  refine take_ (i := 2) (N := some 9) (v := ?_) (a' := ?_) #[true, true, true, true, false, false, false, false, false, false, false] rfl rfl (by kernel_rfl) (fun _ _ _ h => h) (Or.inl ⟨by rfl, ?_⟩) hHeld ?_ ?_
  rotate_left
  · rintro w' ⟨s0, s1, s2, s3, s4, s5, s6, s7⟩
    go_simp
    with_reducible rfl
  rotate_left
  · simp only [Act.put, List.setIfInBounds_toArray, List.set_cons_zero, List.set_cons_succ, i64_w, i32_w]
    rfl
  refine pure_ (i := 4) (N := some 11) (v := ?_) (a' := ?_) #[true, true, true, true, true, false, false, false, false, false, false] rfl rfl (by kernel_rfl) (fun _ _ _ h => h) (Or.inl ⟨by rfl, ?_⟩) ?_ ?_
  rotate_left
  · intro w'
    go_simp
    with_reducible rfl
  rotate_left
  · simp only [Act.put, List.setIfInBounds_toArray, List.set_cons_zero, List.set_cons_succ, i64_w, i32_w]
    rfl
  refine take_ (i := 5) (N := some 12) (v := ?_) (a' := ?_) #[true, true, true, true, true, true, false, false, false, false, false] rfl rfl (by kernel_rfl) (fun _ _ _ h => h) (Or.inl ⟨by rfl, ?_⟩) hHeld ?_ ?_
  rotate_left
  · rintro w' ⟨s0, s1, s2, s3, s4, s5, s6, s7⟩
    go_simp
    with_reducible rfl
  rotate_left
  · simp only [Act.put, List.setIfInBounds_toArray, List.set_cons_zero, List.set_cons_succ, i64_w, i32_w]
    rfl
  refine take_ (i := 7) (N := some 14) (v := ?_) (a' := ?_) #[true, true, true, true, true, true, false, true, false, false, false] rfl rfl (by kernel_rfl) (fun _ _ _ h => h) (Or.inl ⟨by rfl, ?_⟩) hHeld ?_ ?_
  rotate_left
  · rintro w' ⟨s0, s1, s2, s3, s4, s5, s6, s7⟩
    go_simp
    with_reducible rfl
  rotate_left
  · simp only [Act.put, List.setIfInBounds_toArray, List.set_cons_zero, List.set_cons_succ, i64_w, i32_w]
    rfl
  refine one_ (i := 6) (N := some 13) #[true, true, true, true, true, true, true, true, false, false, false] rfl rfl (by kernel_rfl) (by decide) (fun K hK => ?_)
  refine goesV_ Tryd.func36 (by kernel_rfl) rfl #[plV (pA, pW, pL, pC)] (by rfl) rfl rfl (by rfl) (by simp only [List.map_toArray, List.map_cons, List.map_nil]; rfl) ?_
  with_reducible refine (kwidth_any (pA, pW, pL, pC) _).mono ?_
  rintro e w3 ⟨rfl, hb3⟩
  refine ⟨_, rfl, ?_⟩
  refine hK.out _ _ ⟨(cellB hb3 (cellD h0)), (cellB hb3 (cellD h1)), (cellB hb3 (cellD h2)), (cellB hb3 (cellD h3)), (cellB hb3 (cellD y0)), (cellB hb3 (cellD y1)), (cellB hb3 (cellD y2)), (cellB hb3 (cellD y3))⟩ (fun hHeld => ?_)
  clear hK K
  refine norm_ (a' := ?_) ?_ ?_
  rotate_left
  · show Act.put _ (some 13) _ = _
    simp only [Act.put, List.setIfInBounds_toArray, List.set_cons_zero, List.set_cons_succ, i64_w, i32_w]
    rfl
  refine one_ (i := 8) (N := some 15) #[true, true, true, true, true, true, true, true, true, false, false] rfl rfl (by kernel_rfl) (by decide) (fun K hK => ?_)
  refine goesV_ Tryd.func37 (by kernel_rfl) rfl #[.int .i64 pW, .int .i64 want] (by rfl) rfl rfl (by rfl) (by simp only [List.map_toArray, List.map_cons, List.map_nil]; rfl) ?_
  with_reducible refine (cmp_any pW want _).mono ?_
  rintro e w4 ⟨rfl, rfl⟩
  refine ⟨_, rfl, ?_⟩
  refine hK.out _ _ ⟨(cellB hb3 (cellD h0)), (cellB hb3 (cellD h1)), (cellB hb3 (cellD h2)), (cellB hb3 (cellD h3)), (cellB hb3 (cellD y0)), (cellB hb3 (cellD y1)), (cellB hb3 (cellD y2)), (cellB hb3 (cellD y3))⟩ (fun hHeld => ?_)
  clear hK K
  refine norm_ (a' := ?_) ?_ ?_
  rotate_left
  · show Act.put _ (some 15) _ = _
    simp only [Act.put, List.setIfInBounds_toArray, List.set_cons_zero, List.set_cons_succ, i64_w, i32_w]
    rfl
  refine pure_ (i := 9) (N := some 16) (v := ?_) (a' := ?_) #[true, true, true, true, true, true, true, true, true, true, false] rfl rfl (by kernel_rfl) (fun _ _ _ h => h) (Or.inl ⟨by rfl, ?_⟩) ?_ ?_
  rotate_left
  · intro w'
    go_simp
    with_reducible rfl
  rotate_left
  · simp only [Act.put, List.setIfInBounds_toArray, List.set_cons_zero, List.set_cons_succ, i64_w, i32_w]
    rfl
  refine pure_ (i := 10) (N := some 6) (v := ?_) (a' := ?_) #[true, true, true, true, true, true, true, true, true, true, true] rfl rfl (by kernel_rfl) (fun _ _ _ h => h) (Or.inl ⟨by rfl, ?_⟩) ?_ ?_
  rotate_left
  · intro w'
    go_simp
    with_reducible rfl
  rotate_left
  · simp only [Act.put, List.setIfInBounds_toArray, List.set_cons_zero, List.set_cons_succ, i64_w, i32_w]
    rfl
  refine done_ (by kernel_rfl) ?_
  have HG := Sh.mk (cmpI_ge pW want)
  go_wp2
  go_ret
  exact ⟨by rw [← HG.out]; rfl, below_up' (below_drew (Below.refl _ _)) hb3⟩
end Go.Proofs.YtbpadakcjnkjeaaDoor
/- offsets.find of a byte's offset and of one in UTF-16 units. Conditions: the places lie in memory; fewer than 2^62. -/
namespace Go.Proofs.YtbpadakcjnkjeaaDoor
open Go Go.RowKit Go.Proofs.YtbpadakcjnkjeaaDoorW.PrintWords Go.Proofs.YtbpadakcjnkjeaaDoorW.PrintLast Go.Proofs.YtbpadakcjnkjeaaDoorW.PrintMore
set_option maxRecDepth 100000
set_option linter.unusedSimpArgs false
/-- What find answers: the place, or none. -/
def FindPost (r : Option Nat) (e : Ending) : Prop :=
  match r with
  | some j => e = .returned (.tuple #[.int .i64 (j : Int), .bool true])
  | none => ∃ i : Nat, e = .returned (.tuple #[.int .i64 (i : Int), .bool false])
theorem plC_drewN {w : World} {A : Option Addr} {n : Nat} {ps : List Pl} (h : plK.C w A n ps) (m : Nat) : plK.C (w.drewN m) A n ps := Kd.C_drewN h m
set_option maxHeartbeats 4000000 in
set_option maxRecDepth 100000 in
theorem findB_any (A : Option Addr) (n c : Nat) (us : List Un) (want : Int) (w : World) (hn : n = us.length + 1) (hC : plK.C w A n (plL us n)) (hch : Chained us 0) (hb : n < 4611686018427387904) :
    Calls Tryd.prog 35 #[.slice A n c, .func (.func 42) #[] #[], .func (.func 37) #[] #[], .int .i64 want] w fun e w' => FindPost (firstF n (fun k => (plA us k).1 == want)) e ∧ Below w.heap.size w w' := by
  have hmf : ∀ (fn : Fn) (first cap : Array Value) (w : World), (Instr.makeFunc fn first cap).run Tryd.prog w = .ok (.func fn first cap) w := fun _ _ _ _ => rfl
  have hrise := at_rise hch
  have HF := Sh.mk (fun (ge : Nat → Bool) (c : Nat) => search_found (n := n) ge (fun k => (plA us k).1 == want) c)
  obtain ⟨x0, hx0⟩ : ∃ x0, x0 = w.heap.size := ⟨_, rfl⟩
  obtain ⟨W, hW⟩ : ∃ W, W = (((w.alloc (.cells #[.slice A n c] 58)).alloc (.cells #[.func (.func 42) #[] #[]] 78)).alloc (.cells #[.func (.func 37) #[] #[]] 45)).alloc (.cells #[.int .i64 want] 3) := ⟨_, rfl⟩
  have hs1 : (w.alloc (.cells #[.slice A n c] 58)).heap.size = x0 + 1 := by rw [hx0]; simp
  have hs2 : ((w.alloc (.cells #[.slice A n c] 58)).alloc (.cells #[.func (.func 42) #[] #[]] 78)).heap.size = x0 + 2 := by rw [World.size_alloc, hs1]
  have hs3 : (((w.alloc (.cells #[.slice A n c] 58)).alloc (.cells #[.func (.func 42) #[] #[]] 78)).alloc (.cells #[.func (.func 37) #[] #[]] 45)).heap.size = x0 + 3 := by rw [World.size_alloc, hs2]
  have hbW : Below w.heap.size w W := by rw [hW]; exact (((((Below.refl _ w).alloc (Nat.le_refl _) _).alloc (by omega) _).alloc (by omega) _).alloc (by omega) _)
  have b2 : W.heap[x0]? = some (.cells #[.slice A n c] 58 (0, 0)) := by rw [hW, hx0]; exact blk_alloc (blk_alloc (blk_alloc (blk_new w _) _) _) _
  have b1 : W.heap[x0 + 1]? = some (.cells #[.func (.func 42) #[] #[]] 78 (0, 0)) := by rw [hW, ← hs1]; exact blk_alloc (blk_alloc (blk_new _ _) _) _
  have b0 : W.heap[x0 + 2]? = some (.cells #[.func (.func 37) #[] #[]] 45 (0, 0)) := by rw [hW, ← hs2]; exact blk_alloc (blk_new _ _) _
  have b3 : W.heap[x0 + 3]? = some (.cells #[.int .i64 want] 3 (0, 0)) := by rw [hW, ← hs3]; exact blk_new _ _
  have h2 := Sh.mk (show W.cell? ⟨x0, 0, none⟩ = some (.slice A n c) from (blk_cell b2 0).trans rfl)
  have h1 := Sh.mk (show W.cell? ⟨x0 + 1, 0, none⟩ = some (.func (.func 42) #[] #[]) from (blk_cell b1 0).trans rfl)
  have h0 := Sh.mk (show W.cell? ⟨x0 + 2, 0, none⟩ = some (.func (.func 37) #[] #[]) from (blk_cell b0 0).trans rfl)
  have h3 := Sh.mk (show W.cell? ⟨x0 + 3, 0, none⟩ = some (.int .i64 want) from (blk_cell b3 0).trans rfl)
  have HC := Sh.mk (Kd.C_below hC hbW)
  have HB := Sh.mk hbW
  have HW := Sh.mk hW
  have HX := Sh.mk hx0
  have HR := Sh.mk hrise
  have HN := Sh.mk hn
  have hl := hC.2.1
  clear hn hW hx0 hs1 hs2 hs3 hbW b0 b1 b2 b3 hC hrise
  go_enter Tryd.func35, Tryd.ntmps35
  go_wp2_with fail
  rw [← HW.out, ← HX.out]
  refine (search1_any _ n (fun k => decide (want ≤ (rdP (plL us n) k).1)) W hb (fun V i hV hi => closB_any x0 i n c A (plL us n) want V hi (cellB hV h2.out) (cellB hV h1.out) (cellB hV h0.out) (cellB hV h3.out) (Kd.C_below HC.out hV)) ?mono).mono ?_
  case mono =>
    intro a b hab hbn ha
    simp only [decide_eq_true_eq] at ha ⊢
    rw [rdP_plL us n b hbn]
    rw [rdP_plL us n a (by omega)] at ha
    by_cases e : a = b
    · subst e; exact ha
    · have := HR.out a b (by omega) (by have := HN.out; omega)
      omega
  rintro e w1 ⟨⟨i, rfl, hin, hlo, hhi⟩, hb1⟩
  have HB1 := Sh.mk (below_of HB.out hb1)
  have HC1 := Sh.mk (Kd.C_below HC.out hb1)
  have h0 := Sh.mk (cellB hb1 h0.out)
  have h1 := Sh.mk (cellB hb1 h1.out)
  have h2 := Sh.mk (cellB hb1 h2.out)
  have h3 := Sh.mk (cellB hb1 h3.out)
  have HFi := Sh.mk (HF.out (fun k => decide (want ≤ (rdP (plL us n) k).1)) i hin hlo hhi (fun t ht h => by
      simp only [beq_iff_eq] at h
      simp only [decide_eq_true_eq]
      rw [rdP_plL us n t ht, h]
      exact Int.le_refl _) (fun t u htu hun h => by
      simp only [beq_iff_eq] at h
      have := HR.out t u htu (by have := HN.out; omega)
      simp only [decide_eq_false_iff_not]
      rw [rdP_plL us n t (by omega)]
      omega))
  clear hlo hhi hb1 HF
  by_cases hlt : i < n
  · obtain ⟨ad, e1, y0, y1, y2, y3⟩ := C_pl HC1.out i hlt
    cases e1
    obtain ⟨⟨pA, pW, pL, pC⟩, hp⟩ : ∃ p : Pl, p = rdP (plL us n) i := ⟨_, rfl⟩
    rw [← hp] at y0 y1 y2 y3
    rw [rdP_plL us n i hlt] at hp
    have HP := Sh.mk hp
    have hd : decide (i < n) = true := by simpa using hlt
    simp only [] at y0 y1 y2 y3
    clear hp
    go_wp2
    refine start_ (n := 19) (S := fun w' => w'.cell? ⟨x0 + 2, 0, none⟩ = some (.func (.func 37) #[] #[]) ∧ w'.cell? ⟨x0 + 1, 0, none⟩ = some (.func (.func 42) #[] #[]) ∧ w'.cell? ⟨x0, 0, none⟩ = some (.slice (some ad) n c) ∧ w'.cell? ⟨x0 + 3, 0, none⟩ = some (.int .i64 want) ∧ w'.cell? (ad.add (i * 4)) = some (.int .i64 pA) ∧ w'.cell? ⟨(ad.add (i * 4)).block, (ad.add (i * 4)).off + 1, none⟩ = some (.int .i64 pW) ∧ w'.cell? ⟨(ad.add (i * 4)).block, (ad.add (i * 4)).off + 2, none⟩ = some (.int .i64 pL) ∧ w'.cell? ⟨(ad.add (i * 4)).block, (ad.add (i * 4)).off + 3, none⟩ = some (.int .i64 pC)) (ds := []) #[false, false, false, false, false, false, false, false, false, false, false, false, false, false, false, false, false, false, false] (by kernel_rfl) rfl rfl ⟨cellD h0.out, cellD h1.out, cellD h2.out, cellD h3.out, cellD y0, cellD y1, cellD y2, cellD y3⟩ (fun hHeld => ?_)
    refine pure_ (i := 0) (N := some 15) (v := ?_) (a' := ?_) #[true, false, false, false, false, false, false, false, false, false, false, false, false, false, false, false, false, false, false] rfl rfl (by kernel_rfl) (fun _ _ _ h => h) (Or.inl ⟨by rfl, ?_⟩) ?_ ?_
    rotate_left
    · intro w'
      go_simp
      with_reducible rfl
    rotate_left
    · simp only [Act.put, List.setIfInBounds_toArray, List.set_cons_zero, List.set_cons_succ, i64_w, i32_w]
      rfl
    refine pure_ (i := 1) (N := some 16) (v := ?_) (a' := ?_) #[true, true, false, false, false, false, false, false, false, false, false, false, false, false, false, false, false, false, false] rfl rfl (by kernel_rfl) (fun _ _ _ h => h) (Or.inl ⟨by rfl, ?_⟩) ?_ ?_
    rotate_left
    · intro w'
      go_simp
      with_reducible rfl
    rotate_left
    · simp only [Act.put, List.setIfInBounds_toArray, List.set_cons_zero, List.set_cons_succ, i64_w, i32_w]
      rfl
    refine take_ (i := 2) (N := some 17) (v := ?_) (a' := ?_) #[true, true, true, false, false, false, false, false, false, false, false, false, false, false, false, false, false, false, false] rfl rfl (by kernel_rfl) (fun _ _ _ h => h) (Or.inl ⟨by rfl, ?_⟩) hHeld ?_ ?_
    rotate_left
    · rintro w' ⟨s0, s1, s2, s3, s4, s5, s6, s7⟩
      go_simp
      with_reducible rfl
    rotate_left
    · simp only [Act.put, List.setIfInBounds_toArray, List.set_cons_zero, List.set_cons_succ, i64_w, i32_w]
      rfl
    refine pure_ (i := 3) (N := some 18) (v := ?_) (a' := ?_) #[true, true, true, true, false, false, false, false, false, false, false, false, false, false, false, false, false, false, false] rfl rfl (by kernel_rfl) (fun _ _ _ h => h) (Or.inl ⟨by rfl, ?_⟩) ?_ ?_
    rotate_left
    · intro w'
      go_simp
      with_reducible rfl
    rotate_left
    · simp only [Act.put, List.setIfInBounds_toArray, List.set_cons_zero, List.set_cons_succ, i64_w, i32_w]
      rfl
    refine pure_ (i := 4) (N := some 19) (v := ?_) (a' := ?_) #[true, true, true, true, true, false, false, false, false, false, false, false, false, false, false, false, false, false, false] rfl rfl (by kernel_rfl) (fun _ _ _ h => h) (Or.inl ⟨by rfl, ?_⟩) ?_ ?_
    rotate_left
    · intro w'
      go_simp
      with_reducible rfl
    rotate_left
    · simp only [Act.put, List.setIfInBounds_toArray, List.set_cons_zero, List.set_cons_succ, i64_w, i32_w]
      rfl
    refine pure_ (i := 5) (N := some 20) (v := ?_) (a' := ?_) #[true, true, true, true, true, true, false, false, false, false, false, false, false, false, false, false, false, false, false] rfl rfl (by kernel_rfl) (fun _ _ _ h => h) (Or.inl ⟨by rfl, ?_⟩) ?_ ?_
    rotate_left
    · intro w'
      go_simp
      with_reducible rfl
    rotate_left
    · simp only [Act.put, List.setIfInBounds_toArray, List.set_cons_zero, List.set_cons_succ, i64_w, i32_w]
      rfl
    refine pure_ (i := 9) (N := some 24) (v := ?_) (a' := ?_) #[true, true, true, true, true, true, false, false, false, true, false, false, false, false, false, false, false, false, false] rfl rfl (by kernel_rfl) (fun _ _ _ h => h) (Or.inl ⟨by rfl, ?_⟩) ?_ ?_
    rotate_left
    · intro w'
      go_simp
      with_reducible rfl
    rotate_left
    · simp only [Act.put, List.setIfInBounds_toArray, List.set_cons_zero, List.set_cons_succ, i64_w, i32_w]
      rfl
    refine take_ (i := 6) (N := some 21) (v := ?_) (a' := ?_) #[true, true, true, true, true, true, true, false, false, true, false, false, false, false, false, false, false, false, false] rfl rfl (by kernel_rfl) (fun _ _ _ h => h) (Or.inl ⟨by rfl, ?_⟩) hHeld ?_ ?_
    rotate_left
    · rintro w' ⟨s0, s1, s2, s3, s4, s5, s6, s7⟩
      go_simp
      with_reducible rfl
    rotate_left
    · simp only [Act.put, List.setIfInBounds_toArray, List.set_cons_zero, List.set_cons_succ, i64_w, i32_w]
      rfl
    refine take_ (i := 7) (N := some 22) (v := ?_) (a' := ?_) #[true, true, true, true, true, true, true, true, false, true, false, false, false, false, false, false, false, false, false] rfl rfl (by kernel_rfl) (fun _ _ _ h => h) (Or.inl ⟨by rfl, ?_⟩) hHeld ?_ ?_
    rotate_left
    · rintro w' ⟨s0, s1, s2, s3, s4, s5, s6, s7⟩
      go_simp
      with_reducible rfl
    rotate_left
    · simp only [Act.put, List.setIfInBounds_toArray, List.set_cons_zero, List.set_cons_succ, i64_w, i32_w]
      rfl
    refine take_ (i := 8) (N := some 23) (v := ?_) (a' := ?_) #[true, true, true, true, true, true, true, true, true, true, false, false, false, false, false, false, false, false, false] rfl rfl (by kernel_rfl) (fun _ _ _ h => h) (Or.inl ⟨by rfl, ?_⟩) hHeld ?_ ?_
    rotate_left
    · rintro w' ⟨s0, s1, s2, s3, s4, s5, s6, s7⟩
      go_simp
      with_reducible rfl
    rotate_left
    · simp only [Act.put, List.setIfInBounds_toArray, List.set_cons_zero, List.set_cons_succ, i64_w, i32_w]
      rfl
    refine pure_ (i := 10) (N := some 25) (v := ?_) (a' := ?_) #[true, true, true, true, true, true, true, true, true, true, true, false, false, false, false, false, false, false, false] rfl rfl (by kernel_rfl) (fun _ _ _ h => h) (Or.inl ⟨by rfl, ?_⟩) ?_ ?_
    rotate_left
    · intro w'
      go_simp
      with_reducible rfl
    rotate_left
    · simp only [Act.put, List.setIfInBounds_toArray, List.set_cons_zero, List.set_cons_succ, i64_w, i32_w]
      rfl
    refine take_ (i := 11) (N := some 26) (v := ?_) (a' := ?_) #[true, true, true, true, true, true, true, true, true, true, true, true, false, false, false, false, false, false, false] rfl rfl (by kernel_rfl) (fun _ _ _ h => h) (Or.inl ⟨by rfl, ?_⟩) hHeld ?_ ?_
    rotate_left
    · rintro w' ⟨s0, s1, s2, s3, s4, s5, s6, s7⟩
      go_simp
      with_reducible rfl
    rotate_left
    · simp only [Act.put, List.setIfInBounds_toArray, List.set_cons_zero, List.set_cons_succ, i64_w, i32_w]
      rfl
    refine take_ (i := 13) (N := some 28) (v := ?_) (a' := ?_) #[true, true, true, true, true, true, true, true, true, true, true, true, false, true, false, false, false, false, false] rfl rfl (by kernel_rfl) (fun _ _ _ h => h) (Or.inl ⟨by rfl, ?_⟩) hHeld ?_ ?_
    rotate_left
    · rintro w' ⟨s0, s1, s2, s3, s4, s5, s6, s7⟩
      go_simp
      with_reducible rfl
    rotate_left
    · simp only [Act.put, List.setIfInBounds_toArray, List.set_cons_zero, List.set_cons_succ, i64_w, i32_w]
      rfl
    refine one_ (i := 12) (N := some 27) #[true, true, true, true, true, true, true, true, true, true, true, true, true, true, false, false, false, false, false] rfl rfl (by kernel_rfl) (by decide) (fun K hK => ?_)
    refine goesV_ Tryd.func42 (by kernel_rfl) rfl #[plV (pA, pW, pL, pC)] (by rfl) rfl rfl (by rfl) (by simp only [List.map_toArray, List.map_cons, List.map_nil]; rfl) ?_
    with_reducible refine (kbytes_any (pA, pW, pL, pC) _).mono ?_
    rintro e w3 ⟨rfl, hb3⟩
    refine ⟨_, rfl, ?_⟩
    refine hK.out _ _ ⟨(cellB hb3 (cellD h0.out)), (cellB hb3 (cellD h1.out)), (cellB hb3 (cellD h2.out)), (cellB hb3 (cellD h3.out)), (cellB hb3 (cellD y0)), (cellB hb3 (cellD y1)), (cellB hb3 (cellD y2)), (cellB hb3 (cellD y3))⟩ (fun hHeld => ?_)
    clear hK K
    refine norm_ (a' := ?_) ?_ ?_
    rotate_left
    · show Act.put _ (some 27) _ = _
      simp only [Act.put, List.setIfInBounds_toArray, List.set_cons_zero, List.set_cons_succ, i64_w, i32_w]
      rfl
    refine one_ (i := 14) (N := some 29) #[true, true, true, true, true, true, true, true, true, true, true, true, true, true, true, false, false, false, false] rfl rfl (by kernel_rfl) (by decide) (fun K hK => ?_)
    refine goesV_ Tryd.func37 (by kernel_rfl) rfl #[.int .i64 pA, .int .i64 want] (by rfl) rfl rfl (by rfl) (by simp only [List.map_toArray, List.map_cons, List.map_nil]; rfl) ?_
    with_reducible refine (cmp_any pA want _).mono ?_
    rintro e w4 ⟨rfl, rfl⟩
    refine ⟨_, rfl, ?_⟩
    refine hK.out _ _ ⟨(cellB hb3 (cellD h0.out)), (cellB hb3 (cellD h1.out)), (cellB hb3 (cellD h2.out)), (cellB hb3 (cellD h3.out)), (cellB hb3 (cellD y0)), (cellB hb3 (cellD y1)), (cellB hb3 (cellD y2)), (cellB hb3 (cellD y3))⟩ (fun hHeld => ?_)
    clear hK K
    refine norm_ (a' := ?_) ?_ ?_
    rotate_left
    · show Act.put _ (some 29) _ = _
      simp only [Act.put, List.setIfInBounds_toArray, List.set_cons_zero, List.set_cons_succ, i64_w, i32_w]
      rfl
    refine pure_ (i := 15) (N := some 30) (v := ?_) (a' := ?_) #[true, true, true, true, true, true, true, true, true, true, true, true, true, true, true, true, false, false, false] rfl rfl (by kernel_rfl) (fun _ _ _ h => h) (Or.inl ⟨by rfl, ?_⟩) ?_ ?_
    rotate_left
    · intro w'
      go_simp
      with_reducible rfl
    rotate_left
    · simp only [Act.put, List.setIfInBounds_toArray, List.set_cons_zero, List.set_cons_succ, i64_w, i32_w]
      rfl
    refine pure_ (i := 16) (N := some 31) (v := ?_) (a' := ?_) #[true, true, true, true, true, true, true, true, true, true, true, true, true, true, true, true, true, false, false] rfl rfl (by kernel_rfl) (fun _ _ _ h => h) (Or.inl ⟨by rfl, ?_⟩) ?_ ?_
    rotate_left
    · intro w'
      go_simp
      with_reducible rfl
    rotate_left
    · simp only [Act.put, List.setIfInBounds_toArray, List.set_cons_zero, List.set_cons_succ, i64_w, i32_w]
      rfl
    refine pure_ (i := 17) (N := some 8) (v := ?_) (a' := ?_) #[true, true, true, true, true, true, true, true, true, true, true, true, true, true, true, true, true, true, false] rfl rfl (by kernel_rfl) (fun _ _ _ h => h) (Or.inl ⟨by rfl, ?_⟩) ?_ ?_
    rotate_left
    · intro w'
      go_simp
      with_reducible rfl
    rotate_left
    · simp only [Act.put, List.setIfInBounds_toArray, List.set_cons_zero, List.set_cons_succ, i64_w, i32_w]
      rfl
    refine pure_ (i := 18) (N := some 9) (v := ?_) (a' := ?_) #[true, true, true, true, true, true, true, true, true, true, true, true, true, true, true, true, true, true, true] rfl rfl (by kernel_rfl) (fun _ _ _ h => h) (Or.inl ⟨by rfl, ?_⟩) ?_ ?_
    rotate_left
    · intro w'
      go_simp
      with_reducible rfl
    rotate_left
    · simp only [Act.put, List.setIfInBounds_toArray, List.set_cons_zero, List.set_cons_succ, i64_w, i32_w]
      rfl
    refine done_ (by kernel_rfl) ?_
    have HG := Sh.mk (cmpI_eq pA want)
    go_wp2
    go_ret2
    refine ⟨?_, below_of HB1.out (below_up' (below_drew (Below.refl _ _)) hb3)⟩
    cases hr : firstF n (fun k => (plA us k).1 == want) with
    | some j =>
      have e1 := HFi.out.1 j hr
      have e2 := (HFi.out.2.2 j hr).2
      subst e1
      rw [← HP.out] at e2
      simp only [] at e2
      show _ = _
      rw [HG.out, e2]
      rfl
    | none =>
      have e2 := HFi.out.2.1 hr hlt
      rw [← HP.out] at e2
      simp only [] at e2
      exact ⟨i, by rw [HG.out, e2]; rfl⟩
  · have hd : decide (i < n) = false := by simpa using hlt
    have x2 := h2.out
    go_wp2
    go_quiet (fail)
    go_wp2
    go_ret2
    refine ⟨?_, below_of HB1.out (pw_below_drewN (Below.refl _ _) _)⟩
    cases hr : firstF n (fun k => (plA us k).1 == want) with
    | some j =>
      have e1 := HFi.out.1 j hr
      have e2 := (HFi.out.2.2 j hr).1
      omega
    | none => exact ⟨i, rfl⟩
set_option maxHeartbeats 4000000 in
set_option maxRecDepth 100000 in
theorem findW_any (A : Option Addr) (n c : Nat) (us : List Un) (want : Int) (w : World) (hn : n = us.length + 1) (hC : plK.C w A n (plL us n)) (hb : n < 4611686018427387904) :
    Calls Tryd.prog 35 #[.slice A n c, .func (.func 36) #[] #[], .func (.func 37) #[] #[], .int .i64 want] w fun e w' => FindPost (firstF n (fun k => (plA us k).2.1 == want)) e ∧ Below w.heap.size w w' := by
  have hmf : ∀ (fn : Fn) (first cap : Array Value) (w : World), (Instr.makeFunc fn first cap).run Tryd.prog w = .ok (.func fn first cap) w := fun _ _ _ _ => rfl
  have hrise := wide_rise us
  have HF := Sh.mk (fun (ge : Nat → Bool) (c : Nat) => search_found (n := n) ge (fun k => (plA us k).2.1 == want) c)
  obtain ⟨x0, hx0⟩ : ∃ x0, x0 = w.heap.size := ⟨_, rfl⟩
  obtain ⟨W, hW⟩ : ∃ W, W = (((w.alloc (.cells #[.slice A n c] 58)).alloc (.cells #[.func (.func 36) #[] #[]] 78)).alloc (.cells #[.func (.func 37) #[] #[]] 45)).alloc (.cells #[.int .i64 want] 3) := ⟨_, rfl⟩
  have hs1 : (w.alloc (.cells #[.slice A n c] 58)).heap.size = x0 + 1 := by rw [hx0]; simp
  have hs2 : ((w.alloc (.cells #[.slice A n c] 58)).alloc (.cells #[.func (.func 36) #[] #[]] 78)).heap.size = x0 + 2 := by rw [World.size_alloc, hs1]
  have hs3 : (((w.alloc (.cells #[.slice A n c] 58)).alloc (.cells #[.func (.func 36) #[] #[]] 78)).alloc (.cells #[.func (.func 37) #[] #[]] 45)).heap.size = x0 + 3 := by rw [World.size_alloc, hs2]
  have hbW : Below w.heap.size w W := by rw [hW]; exact (((((Below.refl _ w).alloc (Nat.le_refl _) _).alloc (by omega) _).alloc (by omega) _).alloc (by omega) _)
  have b2 : W.heap[x0]? = some (.cells #[.slice A n c] 58 (0, 0)) := by rw [hW, hx0]; exact blk_alloc (blk_alloc (blk_alloc (blk_new w _) _) _) _
  have b1 : W.heap[x0 + 1]? = some (.cells #[.func (.func 36) #[] #[]] 78 (0, 0)) := by rw [hW, ← hs1]; exact blk_alloc (blk_alloc (blk_new _ _) _) _
  have b0 : W.heap[x0 + 2]? = some (.cells #[.func (.func 37) #[] #[]] 45 (0, 0)) := by rw [hW, ← hs2]; exact blk_alloc (blk_new _ _) _
  have b3 : W.heap[x0 + 3]? = some (.cells #[.int .i64 want] 3 (0, 0)) := by rw [hW, ← hs3]; exact blk_new _ _
  have h2 := Sh.mk (show W.cell? ⟨x0, 0, none⟩ = some (.slice A n c) from (blk_cell b2 0).trans rfl)
  have h1 := Sh.mk (show W.cell? ⟨x0 + 1, 0, none⟩ = some (.func (.func 36) #[] #[]) from (blk_cell b1 0).trans rfl)
  have h0 := Sh.mk (show W.cell? ⟨x0 + 2, 0, none⟩ = some (.func (.func 37) #[] #[]) from (blk_cell b0 0).trans rfl)
  have h3 := Sh.mk (show W.cell? ⟨x0 + 3, 0, none⟩ = some (.int .i64 want) from (blk_cell b3 0).trans rfl)
  have HC := Sh.mk (Kd.C_below hC hbW)
  have HB := Sh.mk hbW
  have HW := Sh.mk hW
  have HX := Sh.mk hx0
  have HR := Sh.mk hrise
  have HN := Sh.mk hn
  have hl := hC.2.1
  clear hn hW hx0 hs1 hs2 hs3 hbW b0 b1 b2 b3 hC hrise
  go_enter Tryd.func35, Tryd.ntmps35
  go_wp2_with fail
  rw [← HW.out, ← HX.out]
  refine (search1_any _ n (fun k => decide (want ≤ (rdP (plL us n) k).2.1)) W hb (fun V i hV hi => closW_any x0 i n c A (plL us n) want V hi (cellB hV h2.out) (cellB hV h1.out) (cellB hV h0.out) (cellB hV h3.out) (Kd.C_below HC.out hV)) ?mono).mono ?_
  case mono =>
    intro a b hab hbn ha
    simp only [decide_eq_true_eq] at ha ⊢
    rw [rdP_plL us n b hbn]
    rw [rdP_plL us n a (by omega)] at ha
    by_cases e : a = b
    · subst e; exact ha
    · have := HR.out a b (by omega) (by have := HN.out; omega)
      omega
  rintro e w1 ⟨⟨i, rfl, hin, hlo, hhi⟩, hb1⟩
  have HB1 := Sh.mk (below_of HB.out hb1)
  have HC1 := Sh.mk (Kd.C_below HC.out hb1)
  have h0 := Sh.mk (cellB hb1 h0.out)
  have h1 := Sh.mk (cellB hb1 h1.out)
  have h2 := Sh.mk (cellB hb1 h2.out)
  have h3 := Sh.mk (cellB hb1 h3.out)
  have HFi := Sh.mk (HF.out (fun k => decide (want ≤ (rdP (plL us n) k).2.1)) i hin hlo hhi (fun t ht h => by
      simp only [beq_iff_eq] at h
      simp only [decide_eq_true_eq]
      rw [rdP_plL us n t ht, h]
      exact Int.le_refl _) (fun t u htu hun h => by
      simp only [beq_iff_eq] at h
      have := HR.out t u htu (by have := HN.out; omega)
      simp only [decide_eq_false_iff_not]
      rw [rdP_plL us n t (by omega)]
      omega))
  clear hlo hhi hb1 HF
  by_cases hlt : i < n
  · obtain ⟨ad, e1, y0, y1, y2, y3⟩ := C_pl HC1.out i hlt
    cases e1
    obtain ⟨⟨pA, pW, pL, pC⟩, hp⟩ : ∃ p : Pl, p = rdP (plL us n) i := ⟨_, rfl⟩
    rw [← hp] at y0 y1 y2 y3
    rw [rdP_plL us n i hlt] at hp
    have HP := Sh.mk hp
    have hd : decide (i < n) = true := by simpa using hlt
    simp only [] at y0 y1 y2 y3
    clear hp
    go_wp2
    refine start_ (n := 19) (S := fun w' => w'.cell? ⟨x0 + 2, 0, none⟩ = some (.func (.func 37) #[] #[]) ∧ w'.cell? ⟨x0 + 1, 0, none⟩ = some (.func (.func 36) #[] #[]) ∧ w'.cell? ⟨x0, 0, none⟩ = some (.slice (some ad) n c) ∧ w'.cell? ⟨x0 + 3, 0, none⟩ = some (.int .i64 want) ∧ w'.cell? (ad.add (i * 4)) = some (.int .i64 pA) ∧ w'.cell? ⟨(ad.add (i * 4)).block, (ad.add (i * 4)).off + 1, none⟩ = some (.int .i64 pW) ∧ w'.cell? ⟨(ad.add (i * 4)).block, (ad.add (i * 4)).off + 2, none⟩ = some (.int .i64 pL) ∧ w'.cell? ⟨(ad.add (i * 4)).block, (ad.add (i * 4)).off + 3, none⟩ = some (.int .i64 pC)) (ds := []) #[false, false, false, false, false, false, false, false, false, false, false, false, false, false, false, false, false, false, false] (by kernel_rfl) rfl rfl ⟨cellD h0.out, cellD h1.out, cellD h2.out, cellD h3.out, cellD y0, cellD y1, cellD y2, cellD y3⟩ (fun hHeld => ?_)
    refine pure_ (i := 0) (N := some 15) (v := ?_) (a' := ?_) #[true, false, false, false, false, false, false, false, false, false, false, false, false, false, false, false, false, false, false] rfl rfl (by kernel_rfl) (fun _ _ _ h => h) (Or.inl ⟨by rfl, ?_⟩) ?_ ?_
    rotate_left
    · intro w'
      go_simp
      with_reducible rfl
    rotate_left
    · simp only [Act.put, List.setIfInBounds_toArray, List.set_cons_zero, List.set_cons_succ, i64_w, i32_w]
      rfl
    refine pure_ (i := 1) (N := some 16) (v := ?_) (a' := ?_) #[true, true, false, false, false, false, false, false, false, false, false, false, false, false, false, false, false, false, false] rfl rfl (by kernel_rfl) (fun _ _ _ h => h) (Or.inl ⟨by rfl, ?_⟩) ?_ ?_
    rotate_left
    · intro w'
      go_simp
      with_reducible rfl
    rotate_left
    · simp only [Act.put, List.setIfInBounds_toArray, List.set_cons_zero, List.set_cons_succ, i64_w, i32_w]
      rfl
    refine take_ (i := 2) (N := some 17) (v := ?_) (a' := ?_) #[true, true, true, false, false, false, false, false, false, false, false, false, false, false, false, false, false, false, false] rfl rfl (by kernel_rfl) (fun _ _ _ h => h) (Or.inl ⟨by rfl, ?_⟩) hHeld ?_ ?_
    rotate_left
    · rintro w' ⟨s0, s1, s2, s3, s4, s5, s6, s7⟩
      go_simp
      with_reducible rfl
    rotate_left
    · simp only [Act.put, List.setIfInBounds_toArray, List.set_cons_zero, List.set_cons_succ, i64_w, i32_w]
      rfl
    refine pure_ (i := 3) (N := some 18) (v := ?_) (a' := ?_) #[true, true, true, true, false, false, false, false, false, false, false, false, false, false, false, false, false, false, false] rfl rfl (by kernel_rfl) (fun _ _ _ h => h) (Or.inl ⟨by rfl, ?_⟩) ?_ ?_
    rotate_left
    · intro w'
      go_simp
      with_reducible rfl
    rotate_left
    · simp only [Act.put, List.setIfInBounds_toArray, List.set_cons_zero, List.set_cons_succ, i64_w, i32_w]
      rfl
    refine pure_ (i := 4) (N := some 19) (v := ?_) (a' := ?_) #[true, true, true, true, true, false, false, false, false, false, false, false, false, false, false, false, false, false, false] rfl rfl (by kernel_rfl) (fun _ _ _ h => h) (Or.inl ⟨by rfl, ?_⟩) ?_ ?_
    rotate_left
    · intro w'
      go_simp
      with_reducible rfl
    rotate_left
    · simp only [Act.put, List.setIfInBounds_toArray, List.set_cons_zero, List.set_cons_succ, i64_w, i32_w]
      rfl
    refine pure_ (i := 5) (N := some 20) (v := ?_) (a' := ?_) #[true, true, true, true, true, true, false, false, false, false, false, false, false, false, false, false, false, false, false] rfl rfl (by kernel_rfl) (fun _ _ _ h => h) (Or.inl ⟨by rfl, ?_⟩) ?_ ?_
    rotate_left
    · intro w'
      go_simp
      with_reducible rfl
    rotate_left
    · simp only [Act.put, List.setIfInBounds_toArray, List.set_cons_zero, List.set_cons_succ, i64_w, i32_w]
      rfl
    refine pure_ (i := 9) (N := some 24) (v := ?_) (a' := ?_) #[true, true, true, true, true, true, false, false, false, true, false, false, false, false, false, false, false, false, false] rfl rfl (by kernel_rfl) (fun _ _ _ h => h) (Or.inl ⟨by rfl, ?_⟩) ?_ ?_
    rotate_left
    · intro w'
      go_simp
      with_reducible rfl
    rotate_left
    · simp only [Act.put, List.setIfInBounds_toArray, List.set_cons_zero, List.set_cons_succ, i64_w, i32_w]
      rfl
    refine take_ (i := 6) (N := some 21) (v := ?_) (a' := ?_) #[true, true, true, true, true, true, true, false, false, true, false, false, false, false, false, false, false, false, false] rfl rfl (by kernel_rfl) (fun _ _ _ h => h) (Or.inl ⟨by rfl, ?_⟩) hHeld ?_ ?_
    rotate_left
    · rintro w' ⟨s0, s1, s2, s3, s4, s5, s6, s7⟩
      go_simp
      with_reducible rfl
    rotate_left
    · simp only [Act.put, List.setIfInBounds_toArray, List.set_cons_zero, List.set_cons_succ, i64_w, i32_w]
      rfl
    refine take_ (i := 7) (N := some 22) (v := ?_) (a' := ?_) #[true, true, true, true, true, true, true, true, false, true, false, false, false, false, false, false, false, false, false] rfl rfl (by kernel_rfl) (fun _ _ _ h => h) (Or.inl ⟨by rfl, ?_⟩) hHeld ?_ ?_
    rotate_left
    · rintro w' ⟨s0, s1, s2, s3, s4, s5, s6, s7⟩
      go_simp
      with_reducible rfl
    rotate_left
    · simp only [Act.put, List.setIfInBounds_toArray, List.set_cons_zero, List.set_cons_succ, i64_w, i32_w]
      rfl
    refine take_ (i := 8) (N := some 23) (v := ?_) (a' := ?_) #[true, true, true, true, true, true, true, true, true, true, false, false, false, false, false, false, false, false, false] rfl rfl (by kernel_rfl) (fun _ _ _ h => h) (Or.inl ⟨by rfl, ?_⟩) hHeld ?_ ?_
    rotate_left
    · rintro w' ⟨s0, s1, s2, s3, s4, s5, s6, s7⟩
      go_simp
      with_reducible rfl
    rotate_left
    · simp only [Act.put, List.setIfInBounds_toArray, List.set_cons_zero, List.set_cons_succ, i64_w, i32_w]
      rfl
    refine pure_ (i := 10) (N := some 25) (v := ?_) (a' := ?_) #[true, true, true, true, true, true, true, true, true, true, true, false, false, false, false, false, false, false, false] rfl rfl (by kernel_rfl) (fun _ _ _ h => h) (Or.inl ⟨by rfl, ?_⟩) ?_ ?_
    rotate_left
    · intro w'
      go_simp
      with_reducible rfl
    rotate_left
    · simp only [Act.put, List.setIfInBounds_toArray, List.set_cons_zero, List.set_cons_succ, i64_w, i32_w]
      rfl
    refine take_ (i := 11) (N := some 26) (v := ?_) (a' := ?_) #[true, true, true, true, true, true, true, true, true, true, true, true, false, false, false, false, false, false, false] rfl rfl (by kernel_rfl) (fun _ _ _ h => h) (Or.inl ⟨by rfl, ?_⟩) hHeld ?_ ?_
    rotate_left
    · rintro w' ⟨s0, s1, s2, s3, s4, s5, s6, s7⟩
      go_simp
      with_reducible rfl
    rotate_left
    · simp only [Act.put, List.setIfInBounds_toArray, List.set_cons_zero, List.set_cons_succ, i64_w, i32_w]
      rfl
    refine take_ (i := 13) (N := some 28) (v := ?_) (a' := ?_) #[true, true, true, true, true, true, true, true, true, true, true, true, false, true, false, false, false, false, false] rfl rfl (by kernel_rfl) (fun _ _ _ h => h) (Or.inl ⟨by rfl, ?_⟩) hHeld ?_ ?_
    rotate_left
    · rintro w' ⟨s0, s1, s2, s3, s4, s5, s6, s7⟩
      go_simp
      with_reducible rfl
    rotate_left
    · simp only [Act.put, List.setIfInBounds_toArray, List.set_cons_zero, List.set_cons_succ, i64_w, i32_w]
      rfl
    refine one_ (i := 12) (N := some 27) #[true, true, true, true, true, true, true, true, true, true, true, true, true, true, false, false, false, false, false] rfl rfl (by kernel_rfl) (by decide) (fun K hK => ?_)
    refine goesV_ Tryd.func36 (by kernel_rfl) rfl #[plV (pA, pW, pL, pC)] (by rfl) rfl rfl (by rfl) (by simp only [List.map_toArray, List.map_cons, List.map_nil]; rfl) ?_
    with_reducible refine (kwidth_any (pA, pW, pL, pC) _).mono ?_
    rintro e w3 ⟨rfl, hb3⟩
    refine ⟨_, rfl, ?_⟩
    refine hK.out _ _ ⟨(cellB hb3 (cellD h0.out)), (cellB hb3 (cellD h1.out)), (cellB hb3 (cellD h2.out)), (cellB hb3 (cellD h3.out)), (cellB hb3 (cellD y0)), (cellB hb3 (cellD y1)), (cellB hb3 (cellD y2)), (cellB hb3 (cellD y3))⟩ (fun hHeld => ?_)
    clear hK K
    refine norm_ (a' := ?_) ?_ ?_
    rotate_left
    · show Act.put _ (some 27) _ = _
      simp only [Act.put, List.setIfInBounds_toArray, List.set_cons_zero, List.set_cons_succ, i64_w, i32_w]
      rfl
    refine one_ (i := 14) (N := some 29) #[true, true, true, true, true, true, true, true, true, true, true, true, true, true, true, false, false, false, false] rfl rfl (by kernel_rfl) (by decide) (fun K hK => ?_)
    refine goesV_ Tryd.func37 (by kernel_rfl) rfl #[.int .i64 pW, .int .i64 want] (by rfl) rfl rfl (by rfl) (by simp only [List.map_toArray, List.map_cons, List.map_nil]; rfl) ?_
    with_reducible refine (cmp_any pW want _).mono ?_
    rintro e w4 ⟨rfl, rfl⟩
    refine ⟨_, rfl, ?_⟩
    refine hK.out _ _ ⟨(cellB hb3 (cellD h0.out)), (cellB hb3 (cellD h1.out)), (cellB hb3 (cellD h2.out)), (cellB hb3 (cellD h3.out)), (cellB hb3 (cellD y0)), (cellB hb3 (cellD y1)), (cellB hb3 (cellD y2)), (cellB hb3 (cellD y3))⟩ (fun hHeld => ?_)
    clear hK K
    refine norm_ (a' := ?_) ?_ ?_
    rotate_left
    · show Act.put _ (some 29) _ = _
      simp only [Act.put, List.setIfInBounds_toArray, List.set_cons_zero, List.set_cons_succ, i64_w, i32_w]
      rfl
    refine pure_ (i := 15) (N := some 30) (v := ?_) (a' := ?_) #[true, true, true, true, true, true, true, true, true, true, true, true, true, true, true, true, false, false, false] rfl rfl (by kernel_rfl) (fun _ _ _ h => h) (Or.inl ⟨by rfl, ?_⟩) ?_ ?_
    rotate_left
    · intro w'
      go_simp
      with_reducible rfl
    rotate_left
    · simp only [Act.put, List.setIfInBounds_toArray, List.set_cons_zero, List.set_cons_succ, i64_w, i32_w]
      rfl
    refine pure_ (i := 16) (N := some 31) (v := ?_) (a' := ?_) #[true, true, true, true, true, true, true, true, true, true, true, true, true, true, true, true, true, false, false] rfl rfl (by kernel_rfl) (fun _ _ _ h => h) (Or.inl ⟨by rfl, ?_⟩) ?_ ?_
    rotate_left
    · intro w'
      go_simp
      with_reducible rfl
    rotate_left
    · simp only [Act.put, List.setIfInBounds_toArray, List.set_cons_zero, List.set_cons_succ, i64_w, i32_w]
      rfl
    refine pure_ (i := 17) (N := some 8) (v := ?_) (a' := ?_) #[true, true, true, true, true, true, true, true, true, true, true, true, true, true, true, true, true, true, false] rfl rfl (by kernel_rfl) (fun _ _ _ h => h) (Or.inl ⟨by rfl, ?_⟩) ?_ ?_
    rotate_left
    · intro w'
      go_simp
      with_reducible rfl
    rotate_left
    · simp only [Act.put, List.setIfInBounds_toArray, List.set_cons_zero, List.set_cons_succ, i64_w, i32_w]
      rfl
    refine pure_ (i := 18) (N := some 9) (v := ?_) (a' := ?_) #[true, true, true, true, true, true, true, true, true, true, true, true, true, true, true, true, true, true, true] rfl rfl (by kernel_rfl) (fun _ _ _ h => h) (Or.inl ⟨by rfl, ?_⟩) ?_ ?_
    rotate_left
    · intro w'
      go_simp
      with_reducible rfl
    rotate_left
    · simp only [Act.put, List.setIfInBounds_toArray, List.set_cons_zero, List.set_cons_succ, i64_w, i32_w]
      rfl
    refine done_ (by kernel_rfl) ?_
    have HG := Sh.mk (cmpI_eq pW want)
    go_wp2
    go_ret2
    refine ⟨?_, below_of HB1.out (below_up' (below_drew (Below.refl _ _)) hb3)⟩
    cases hr : firstF n (fun k => (plA us k).2.1 == want) with
    | some j =>
      have e1 := HFi.out.1 j hr
      have e2 := (HFi.out.2.2 j hr).2
      subst e1
      rw [← HP.out] at e2
      simp only [] at e2
      show _ = _
      rw [HG.out, e2]
      rfl
    | none =>
      have e2 := HFi.out.2.1 hr hlt
      rw [← HP.out] at e2
      simp only [] at e2
      exact ⟨i, by rw [HG.out, e2]; rfl⟩
  · have hd : decide (i < n) = false := by simpa using hlt
    have x2 := h2.out
    go_wp2
    go_quiet (fail)
    go_wp2
    go_ret2
    refine ⟨?_, below_of HB1.out (pw_below_drewN (Below.refl _ _) _)⟩
    cases hr : firstF n (fun k => (plA us k).2.1 == want) with
    | some j =>
      have e1 := HFi.out.1 j hr
      have e2 := (HFi.out.2.2 j hr).1
      omega
    | none => exact ⟨i, rfl⟩
end Go.Proofs.YtbpadakcjnkjeaaDoor
/- offsets.At's closures: a place's line and column, and how two are compared. No condition. -/
namespace Go.Proofs.YtbpadakcjnkjeaaDoor
open Go Go.RowKit Go.Proofs.YtbpadakcjnkjeaaDoorW.PrintWords Go.Proofs.YtbpadakcjnkjeaaDoorW.PrintLast Go.Proofs.YtbpadakcjnkjeaaDoorW.PrintMore
set_option maxRecDepth 100000
set_option linter.unusedSimpArgs false
def orI (x y : Int) : Int := if x = 0 then y else x
def lexI (a b : Int × Int) : Int := orI (cmpI a.1 b.1) (cmpI a.2 b.2)
theorem cmpI_cases (a b : Int) : (a < b ∧ cmpI a b = -1) ∨ (a = b ∧ cmpI a b = 0) ∨ (b < a ∧ cmpI a b = 1) := by
  unfold cmpI
  by_cases h1 : a < b
  · exact .inl ⟨h1, if_pos h1⟩
  · by_cases h2 : b < a
    · exact .inr (.inr ⟨h2, by rw [if_neg h1, if_pos h2]⟩)
    · exact .inr (.inl ⟨by omega, by rw [if_neg h1, if_neg h2]⟩)
theorem lexI_ge (a b : Int × Int) : (0 ≤ lexI a b) ↔ ¬ lexLt a b := by
  unfold lexI orI lexLt
  rcases cmpI_cases a.1 b.1 with ⟨h, e⟩ | ⟨h, e⟩ | ⟨h, e⟩ <;> rw [e]
  · rw [if_neg (by omega)]; constructor <;> omega
  · rw [if_pos rfl]
    rcases cmpI_cases a.2 b.2 with ⟨h', e'⟩ | ⟨h', e'⟩ | ⟨h', e'⟩ <;> rw [e'] <;> constructor <;> omega
  · rw [if_neg (by omega)]; constructor <;> omega
theorem lexI_eq (a b : Int × Int) : (lexI a b = 0) ↔ (a.1 = b.1 ∧ a.2 = b.2) := by
  unfold lexI orI
  rcases cmpI_cases a.1 b.1 with ⟨h, e⟩ | ⟨h, e⟩ | ⟨h, e⟩ <;> rw [e]
  · rw [if_neg (by omega)]; constructor <;> omega
  · rw [if_pos rfl]
    rcases cmpI_cases a.2 b.2 with ⟨h', e'⟩ | ⟨h', e'⟩ | ⟨h', e'⟩ <;> rw [e'] <;> constructor <;> omega
  · rw [if_neg (by omega)]; constructor <;> omega
set_option maxHeartbeats 2000000 in
set_option maxRecDepth 100000 in
theorem or_any (A : Option Addr) (c : Nat) (x y : Int) (w : World) (hC : (Kd.int .i64).C w A 2 [x, y]) :
    Calls Tryd.prog 40 #[.slice A 2 c] w fun e w' => e = .returned (.int .i64 (orI x y)) ∧ Below w.heap.size w w' := by
  obtain ⟨ad, e1, y0⟩ := C_at hC 0 (by omega)
  cases e1
  obtain ⟨ad2, e2, y1⟩ := C_at hC 1 (by omega)
  cases e2
  have r0 : rd [x, y] ((0 : Nat) : Int) = x := rfl
  have r1 : rd [x, y] ((1 : Nat) : Int) = y := rfl
  rw [r0] at y0
  rw [r1] at y1
  have z0 : w.cell? ad = some (.int .i64 x) := by simpa [Addr.add] using y0
  have z1 : w.cell? ⟨ad.block, ad.off + 1, none⟩ = some (.int .i64 y) := by simpa [Addr.add] using y1
  clear hC r0 r1 y0 y1
  by_cases hx : x = 0
  · have hx1 : (x != 0) = false := by simpa using hx
    by_cases hy : y = 0
    · have hy1 : (y != 0) = false := by simpa using hy
      have HV := Sh.mk (show orI x y = 0 by rw [orI, if_pos hx, hy])
      clear hx hy
      go_enter Tryd.func40, Tryd.ntmps40
      go_wp2
      go_loop [8, 5] (fun i _ => ∃ k : Nat, k ≤ 2 ∧ i = .int .i64 k) (fun i _ => 2 - (intOf i).toNat)
      case atStart => exact ⟨0, by omega, rfl⟩
      case round =>
        obtain ⟨k, hk, rfl⟩ := hrel
        by_cases h0 : k = 0
        · subst h0
          go_wp2
          go_round
          case rel => exact ⟨1, by omega, rfl⟩
          case measure => simp [intOf]
        · by_cases h1 : k = 1
          · subst h1
            go_wp2
            go_round
            case rel => exact ⟨2, by omega, rfl⟩
            case measure => simp [intOf]
          · obtain rfl : k = 2 := by omega
            go_wp2
            go_ret
            exact ⟨by rw [HV.out]; rfl, Below.refl _ _⟩
    · have hy1 : (y != 0) = true := by simpa using hy
      have HV := Sh.mk (show orI x y = y by rw [orI, if_pos hx])
      clear hx hy
      go_enter Tryd.func40, Tryd.ntmps40
      go_wp2
      go_loop [8, 5] (fun i _ => ∃ k : Nat, k ≤ 1 ∧ i = .int .i64 k) (fun i _ => 2 - (intOf i).toNat)
      case atStart => exact ⟨0, by omega, rfl⟩
      case round =>
        obtain ⟨k, hk, rfl⟩ := hrel
        by_cases h0 : k = 0
        · subst h0
          go_wp2
          go_round
          case rel => exact ⟨1, by omega, rfl⟩
          case measure => simp [intOf]
        · obtain rfl : k = 1 := by omega
          go_wp2
          go_ret
          exact ⟨by rw [HV.out]; rfl, Below.refl _ _⟩
  · have hx1 : (x != 0) = true := by simpa using hx
    have HV := Sh.mk (show orI x y = x by rw [orI, if_neg hx])
    clear hx
    go_enter Tryd.func40, Tryd.ntmps40
    go_wp2
    go_loop [8, 5] (fun i _ => i = .int .i64 0) (fun i _ => 2 - (intOf i).toNat)
    case atStart => rfl
    case round =>
      obtain rfl := hrel
      go_wp2
      go_ret
      exact ⟨by rw [HV.out]; rfl, Below.refl _ _⟩
theorem one2 (a b : Int) : (#[.int .i64 a, .int .i64 b] : Array Value).all (·.oneCell') = true := by simp [Value.oneCell']
set_option maxRecDepth 100000 in
theorem spot_any (p : Pl) (w : World) : Calls Tryd.prog 38 #[plV p] w fun e w' => e = .returned (.agg #[.int .i64 p.2.2.1, .int .i64 p.2.2.2]) ∧ Below w.heap.size w w' := by
  have HR := Sh.mk (show ((w.alloc (.cells #[.int .i64 p.1, .int .i64 p.2.1, .int .i64 p.2.2.1, .int .i64 p.2.2.2] PlT)).alloc (.cells #[.int .i64 0, .int .i64 0] 80)).heap[w.heap.size + 1]? = some (.cells #[.int .i64 0, .int .i64 0] 80 (0, 0)) by
    have := blk_new (w.alloc (.cells #[.int .i64 p.1, .int .i64 p.2.1, .int .i64 p.2.2.1, .int .i64 p.2.2.2] PlT)) (.cells #[.int .i64 0, .int .i64 0] 80)
    rw [World.size_alloc] at this
    exact this)
  go_enter Tryd.func38, Tryd.ntmps38
  go_wp2_with (first | (refine wpList_store_row rfl 80 (.tmp 2) (.tmp 7) rfl (w.heap.size + 1) #[.int .i64 p.2.2.1, .int .i64 p.2.2.2] rfl rfl 80 #[.int .i64 0, .int .i64 0] HR.out (by kernel_rfl) rfl (one2 _ _) ?_))
  have hR := setRow_heap _ (w.heap.size + 1) _ #[.int .i64 p.2.2.1, .int .i64 p.2.2.2] _ _ HR.out
  (try simp only [Exit.inBlock, Exit.then])
  refine bodyPost_ret (results_cell_row rfl _ _ (w.heap.size + 1) 80 _ (0, 0) _ rfl hR Tryd.underlying80 rfl (by kernel_rfl)) rfl ?_
  exact ⟨rfl, below_setRow (((Below.refl _ w).alloc (Nat.le_refl _) _).alloc (by simp) _) (by omega) _⟩
set_option maxHeartbeats 4000000 in
set_option maxRecDepth 100000 in
theorem order_any (a0 a1 b0 b1 : Int) (w : World) : Calls Tryd.prog 39 #[.agg #[.int .i64 a0, .int .i64 a1], .agg #[.int .i64 b0, .int .i64 b1]] w fun e w' => e = .returned (.int .i64 (lexI (a0, a1) (b0, b1))) ∧ Below w.heap.size w w' := by
  obtain ⟨x0, hx0⟩ : ∃ x0, x0 = w.heap.size := ⟨_, rfl⟩
  obtain ⟨W, hW⟩ : ∃ W, W = (w.alloc (.cells #[.int .i64 a0, .int .i64 a1] 80)).alloc (.cells #[.int .i64 b0, .int .i64 b1] 80) := ⟨_, rfl⟩
  have hs1 : (w.alloc (.cells #[.int .i64 a0, .int .i64 a1] 80)).heap.size = x0 + 1 := by rw [hx0]; simp
  have hbW : Below w.heap.size w W := by rw [hW]; exact ((Below.refl _ w).alloc (Nat.le_refl _) _).alloc (by omega) _
  have b0h : W.heap[x0]? = some (.cells #[.int .i64 a0, .int .i64 a1] 80 (0, 0)) := by rw [hW, hx0]; exact blk_alloc (blk_new w _) _
  have b1h : W.heap[x0 + 1]? = some (.cells #[.int .i64 b0, .int .i64 b1] 80 (0, 0)) := by rw [hW, ← hs1]; exact blk_new _ _
  have h0 := Sh.mk (show W.cell? ⟨x0, 0, none⟩ = some (.int .i64 a0) from (blk_cell b0h 0).trans rfl)
  have h1 := Sh.mk (show W.cell? ⟨x0, 1, none⟩ = some (.int .i64 a1) from (blk_cell b0h 1).trans rfl)
  have h2 := Sh.mk (show W.cell? ⟨x0 + 1, 0, none⟩ = some (.int .i64 b0) from (blk_cell b1h 0).trans rfl)
  have h3 := Sh.mk (show W.cell? ⟨x0 + 1, 1, none⟩ = some (.int .i64 b1) from (blk_cell b1h 1).trans rfl)
  have HB := Sh.mk hbW
  have HW := Sh.mk hW
  have HX := Sh.mk hx0
  clear hx0 hW hs1 hbW b0h b1h
  go_enter Tryd.func39, Tryd.ntmps39
  go_wp2_with fail
  rw [← HW.out, ← HX.out]
  refine start_ (n := 13) (S := fun w' => w'.cell? ⟨x0, 0, none⟩ = some (.int .i64 a0) ∧ w'.cell? ⟨x0, 1, none⟩ = some (.int .i64 a1) ∧ w'.cell? ⟨x0 + 1, 0, none⟩ = some (.int .i64 b0) ∧ w'.cell? ⟨x0 + 1, 1, none⟩ = some (.int .i64 b1)) (ds := []) #[false, false, false, false, false, false, false, false, false, false, false, false, false] (by kernel_rfl) rfl rfl ⟨cellD h0.out, cellD h1.out, cellD h2.out, cellD h3.out⟩ (fun hHeld => ?_)
  refine pure_ (i := 0) (N := some 5) (v := ?_) (a' := ?_) #[true, false, false, false, false, false, false, false, false, false, false, false, false] rfl rfl (by kernel_rfl) (fun _ _ _ h => h) (Or.inl ⟨by rfl, ?_⟩) ?_ ?_
  rotate_left
  · intro w'
    go_simp
    with_reducible rfl
  rotate_left
  · simp only [Act.put, List.setIfInBounds_toArray, List.set_cons_zero, List.set_cons_succ, i64_w, i32_w]
    rfl
  refine pure_ (i := 2) (N := some 7) (v := ?_) (a' := ?_) #[true, false, true, false, false, false, false, false, false, false, false, false, false] rfl rfl (by kernel_rfl) (fun _ _ _ h => h) (Or.inl ⟨by rfl, ?_⟩) ?_ ?_
  rotate_left
  · intro w'
    go_simp
    with_reducible rfl
  rotate_left
  · simp only [Act.put, List.setIfInBounds_toArray, List.set_cons_zero, List.set_cons_succ, i64_w, i32_w]
    rfl
  refine pure_ (i := 5) (N := some 10) (v := ?_) (a' := ?_) #[true, false, true, false, false, true, false, false, false, false, false, false, false] rfl rfl (by kernel_rfl) (fun _ _ _ h => h) (Or.inl ⟨by rfl, ?_⟩) ?_ ?_
  rotate_left
  · intro w'
    go_simp
    with_reducible rfl
  rotate_left
  · simp only [Act.put, List.setIfInBounds_toArray, List.set_cons_zero, List.set_cons_succ, i64_w, i32_w]
    rfl
  refine pure_ (i := 7) (N := some 12) (v := ?_) (a' := ?_) #[true, false, true, false, false, true, false, true, false, false, false, false, false] rfl rfl (by kernel_rfl) (fun _ _ _ h => h) (Or.inl ⟨by rfl, ?_⟩) ?_ ?_
  rotate_left
  · intro w'
    go_simp
    with_reducible rfl
  rotate_left
  · simp only [Act.put, List.setIfInBounds_toArray, List.set_cons_zero, List.set_cons_succ, i64_w, i32_w]
    rfl
  refine take_ (i := 1) (N := some 6) (v := ?_) (a' := ?_) #[true, true, true, false, false, true, false, true, false, false, false, false, false] rfl rfl (by kernel_rfl) (fun _ _ _ h => h) (Or.inl ⟨by rfl, ?_⟩) hHeld ?_ ?_
  rotate_left
  · rintro w' ⟨s0, s1, s2, s3⟩
    go_simp
    with_reducible rfl
  rotate_left
  · simp only [Act.put, List.setIfInBounds_toArray, List.set_cons_zero, List.set_cons_succ, i64_w, i32_w]
    rfl
  refine take_ (i := 3) (N := some 8) (v := ?_) (a' := ?_) #[true, true, true, true, false, true, false, true, false, false, false, false, false] rfl rfl (by kernel_rfl) (fun _ _ _ h => h) (Or.inl ⟨by rfl, ?_⟩) hHeld ?_ ?_
  rotate_left
  · rintro w' ⟨s0, s1, s2, s3⟩
    go_simp
    with_reducible rfl
  rotate_left
  · simp only [Act.put, List.setIfInBounds_toArray, List.set_cons_zero, List.set_cons_succ, i64_w, i32_w]
    rfl
  refine take_ (i := 6) (N := some 11) (v := ?_) (a' := ?_) #[true, true, true, true, false, true, true, true, false, false, false, false, false] rfl rfl (by kernel_rfl) (fun _ _ _ h => h) (Or.inl ⟨by rfl, ?_⟩) hHeld ?_ ?_
  rotate_left
  · rintro w' ⟨s0, s1, s2, s3⟩
    go_simp
    with_reducible rfl
  rotate_left
  · simp only [Act.put, List.setIfInBounds_toArray, List.set_cons_zero, List.set_cons_succ, i64_w, i32_w]
    rfl
  refine take_ (i := 8) (N := some 13) (v := ?_) (a' := ?_) #[true, true, true, true, false, true, true, true, true, false, false, false, false] rfl rfl (by kernel_rfl) (fun _ _ _ h => h) (Or.inl ⟨by rfl, ?_⟩) hHeld ?_ ?_
  rotate_left
  · rintro w' ⟨s0, s1, s2, s3⟩
    go_simp
    with_reducible rfl
  rotate_left
  · simp only [Act.put, List.setIfInBounds_toArray, List.set_cons_zero, List.set_cons_succ, i64_w, i32_w]
    rfl
  refine one_ (i := 4) (N := some 9) #[true, true, true, true, true, true, true, true, true, false, false, false, false] rfl rfl (by kernel_rfl) (by decide) (fun K hK => ?_)
  refine goes_ Tryd.func37 (by kernel_rfl) rfl #[.int .i64 a0, .int .i64 b0] (by rfl) rfl rfl (by simp only [List.map_toArray, List.map_cons, List.map_nil]; rfl) ?_
  with_reducible refine (cmp_any a0 b0 _).mono ?_
  rintro e w4 ⟨rfl, rfl⟩
  refine ⟨_, rfl, ?_⟩
  refine hK.out _ _ ⟨cellD h0.out, cellD h1.out, cellD h2.out, cellD h3.out⟩ (fun hHeld => ?_)
  clear hK K
  refine norm_ (a' := ?_) ?_ ?_
  rotate_left
  · show Act.put _ (some 9) _ = _
    simp only [Act.put, List.setIfInBounds_toArray, List.set_cons_zero, List.set_cons_succ, i64_w, i32_w]
    rfl
  refine one_ (i := 9) (N := some 14) #[true, true, true, true, true, true, true, true, true, true, false, false, false] rfl rfl (by kernel_rfl) (by decide) (fun K hK => ?_)
  refine goes_ Tryd.func37 (by kernel_rfl) rfl #[.int .i64 a1, .int .i64 b1] (by rfl) rfl rfl (by simp only [List.map_toArray, List.map_cons, List.map_nil]; rfl) ?_
  with_reducible refine (cmp_any a1 b1 _).mono ?_
  rintro e w4 ⟨rfl, rfl⟩
  refine ⟨_, rfl, ?_⟩
  refine hK.out _ _ ⟨cellD h0.out, cellD h1.out, cellD h2.out, cellD h3.out⟩ (fun hHeld => ?_)
  clear hK K
  refine norm_ (a' := ?_) ?_ ?_
  rotate_left
  · show Act.put _ (some 14) _ = _
    simp only [Act.put, List.setIfInBounds_toArray, List.set_cons_zero, List.set_cons_succ, i64_w, i32_w]
    rfl
  refine one_ (i := 10) (N := some 15) #[true, true, true, true, true, true, true, true, true, true, true, false, false] rfl rfl (by kernel_rfl) (by decide) (fun K hK => ?_)
  refine value_ (w1 := ?_) (v := ?_) (by rfl) rfl ?_ ?_
  rotate_left 2
  · go_simp
    constructor
    · rfl
    · rfl
  refine hK.out _ _ ⟨(cellB (below_alloc (Below.refl _ _) _) (cellD h0.out)), (cellB (below_alloc (Below.refl _ _) _) (cellD h1.out)), (cellB (below_alloc (Below.refl _ _) _) (cellD h2.out)), (cellB (below_alloc (Below.refl _ _) _) (cellD h3.out))⟩ (fun hHeld => ?_)
  clear hK K
  refine norm_ (a' := ?_) ?_ ?_
  rotate_left
  · show Act.put _ (some 15) _ = _
    simp only [Act.put, List.setIfInBounds_toArray, List.set_cons_zero, List.set_cons_succ, i64_w, i32_w]
    rfl
  refine one_ (i := 11) (N := some 16) #[true, true, true, true, true, true, true, true, true, true, true, true, false] rfl rfl (by kernel_rfl) (by decide) (fun K hK => ?_)
  refine goes_ Tryd.func40 (by kernel_rfl) rfl #[.slice (some ⟨W.drew.heap.size, 0, none⟩) 2 2] (by rfl) rfl rfl (by simp only [List.map_toArray, List.map_cons, List.map_nil]; rfl) ?_
  with_reducible refine (or_any _ 2 (cmpI a0 b0) (cmpI a1 b1) _ (lit_C W.drew 3 .i64 [cmpI a0 b0, cmpI a1 b1] (by simp))).mono ?_
  rintro e w6 ⟨rfl, hb6⟩
  refine ⟨_, rfl, ?_⟩
  refine hK.out _ _ ⟨(cellB (below_of (below_of (below_alloc (Below.refl _ _) _) (below_drew (Below.refl _ _))) hb6) h0.out), (cellB (below_of (below_of (below_alloc (Below.refl _ _) _) (below_drew (Below.refl _ _))) hb6) h1.out), (cellB (below_of (below_of (below_alloc (Below.refl _ _) _) (below_drew (Below.refl _ _))) hb6) h2.out), (cellB (below_of (below_of (below_alloc (Below.refl _ _) _) (below_drew (Below.refl _ _))) hb6) h3.out)⟩ (fun hHeld => ?_)
  clear hK K
  refine norm_ (a' := ?_) ?_ ?_
  rotate_left
  · show Act.put _ (some 16) _ = _
    simp only [Act.put, List.setIfInBounds_toArray, List.set_cons_zero, List.set_cons_succ, i64_w, i32_w]
    rfl
  refine pure_ (i := 12) (N := some 4) (v := ?_) (a' := ?_) #[true, true, true, true, true, true, true, true, true, true, true, true, true] rfl rfl (by kernel_rfl) (fun _ _ _ h => h) (Or.inl ⟨by rfl, ?_⟩) ?_ ?_
  rotate_left
  · intro w'
    go_simp
    with_reducible rfl
  rotate_left
  · simp only [Act.put, List.setIfInBounds_toArray, List.set_cons_zero, List.set_cons_succ, i64_w, i32_w]
    rfl
  refine done_ (by kernel_rfl) ?_
  go_wp2
  go_ret
  exact ⟨rfl, below_of HB.out (below_of (below_of (below_alloc (Below.refl _ _) _) (below_drew (Below.refl _ _))) hb6)⟩
end Go.Proofs.YtbpadakcjnkjeaaDoor
/- offsets.find of a line and a column. Conditions: the places lie in memory; fewer than 2^62. -/
namespace Go.Proofs.YtbpadakcjnkjeaaDoor
open Go Go.RowKit Go.Proofs.YtbpadakcjnkjeaaDoorW.PrintWords Go.Proofs.YtbpadakcjnkjeaaDoorW.PrintLast Go.Proofs.YtbpadakcjnkjeaaDoorW.PrintMore
set_option maxRecDepth 100000
set_option linter.unusedSimpArgs false
instance lexDec (a b : Int × Int) : Decidable (lexLt a b) := by unfold lexLt; infer_instance
theorem lexB_ge (a b : Int × Int) : decide (0 ≤ lexI a b) = decide (¬ lexLt a b) := decide_eq_decide.2 (lexI_ge a b)
theorem lexB_eq (a b c d : Int) : (lexI (a, b) (c, d) == 0) = (a == c && b == d) := by
  have := lexI_eq (a, b) (c, d)
  simp only at this
  rw [Bool.eq_iff_iff]
  simp only [beq_iff_eq, Bool.and_eq_true]
  exact this
set_option maxHeartbeats 4000000 in
set_option maxRecDepth 100000 in
theorem closL_any (x0 i n c : Nat) (A : Option Addr) (ps : List Pl) (wl wc : Int) (w : World) (hi : i < n)
    (h2 : w.cell? ⟨x0, 0, none⟩ = some (.slice A n c)) (h1 : w.cell? ⟨x0 + 1, 0, none⟩ = some (.func (.func 38) #[] #[])) (h0 : w.cell? ⟨x0 + 2, 0, none⟩ = some (.func (.func 39) #[] #[])) (h3 : w.cell? ⟨x0 + 3, 0, none⟩ = some (.int .i64 wl)) (h4 : w.cell? ⟨x0 + 3, 1, none⟩ = some (.int .i64 wc)) (hC : plK.C w A n ps) :
    Calls Tryd.prog 51 (#[.int .i64 i] ++ #[.pointer (some ⟨x0 + 2, 0, none⟩), .pointer (some ⟨x0 + 1, 0, none⟩), .pointer (some ⟨x0, 0, none⟩), .pointer (some ⟨x0 + 3, 0, none⟩)]) w fun e w' => e = .returned (.bool (decide (¬ lexLt (rdP ps i).2.2 (wl, wc)))) ∧ Below w.heap.size w w' := by
  obtain ⟨ad, e1, y0, y1, y2, y3⟩ := C_pl hC i hi
  cases e1
  obtain ⟨⟨pA, pW, pL, pC⟩, hp⟩ : ∃ p : Pl, p = rdP ps i := ⟨_, rfl⟩
  rw [← hp] at y0 y1 y2 y3 ⊢
  simp only [] at y0 y1 y2 y3 ⊢
  have hl := hC.2.1
  clear hp hC
  go_enter Tryd.func51, Tryd.ntmps51
  go_wp2
  refine start_ (n := 11) (S := fun w' => w'.cell? ⟨x0 + 2, 0, none⟩ = some (.func (.func 39) #[] #[]) ∧ w'.cell? ⟨x0 + 1, 0, none⟩ = some (.func (.func 38) #[] #[]) ∧ w'.cell? ⟨x0, 0, none⟩ = some (.slice (some ad) n c) ∧ w'.cell? ⟨x0 + 3, 0, none⟩ = some (.int .i64 wl) ∧ w'.cell? ⟨x0 + 3, 1, none⟩ = some (.int .i64 wc) ∧ w'.cell? (ad.add (i * 4)) = some (.int .i64 pA) ∧ w'.cell? ⟨(ad.add (i * 4)).block, (ad.add (i * 4)).off + 1, none⟩ = some (.int .i64 pW) ∧ w'.cell? ⟨(ad.add (i * 4)).block, (ad.add (i * 4)).off + 2, none⟩ = some (.int .i64 pL) ∧ w'.cell? ⟨(ad.add (i * 4)).block, (ad.add (i * 4)).off + 3, none⟩ = some (.int .i64 pC)) (ds := []) #[false, false, false, false, false, false, false, false, false, false, false] (by kernel_rfl) rfl rfl ⟨cellD h0, cellD h1, cellD h2, cellD h3, cellD h4, cellD y0, cellD y1, cellD y2, cellD y3⟩ (fun hHeld => ?_)
  refine pure_ (i := 3) (N := some 10) (v := ?_) (a' := ?_) #[false, false, false, true, false, false, false, false, false, false, false] rfl rfl (by kernel_rfl) (fun _ _ _ h => h) (Or.inl ⟨by rfl, ?_⟩) ?_ ?_
  rotate_left
  · intro w'
    go_simp
    with_reducible rfl
  rotate_left
  · simp only [Act.put, List.setIfInBounds_toArray, List.set_cons_zero, List.set_cons_succ, i64_w, i32_w]
    rfl
  refine take_ (i := 0) (N := some 7) (v := ?_) (a' := ?_) #[true, false, false, true, false, false, false, false, false, false, false] rfl rfl (by kernel_rfl) (fun _ _ _ h => h) (Or.inl ⟨by rfl, ?_⟩) hHeld ?_ ?_
  rotate_left
  · rintro w' ⟨s0, s1, s2, s3, s4, s5, s6, s7, s8⟩
    go_simp
    with_reducible rfl
  rotate_left
  · simp only [Act.put, List.setIfInBounds_toArray, List.set_cons_zero, List.set_cons_succ, i64_w, i32_w]
    rfl
  refine take_ (i := 1) (N := some 8) (v := ?_) (a' := ?_) #[true, true, false, true, false, false, false, false, false, false, false] rfl rfl (by kernel_rfl) (fun _ _ _ h => h) (Or.inl ⟨by rfl, ?_⟩) hHeld ?_ ?_
  rotate_left
  · rintro w' ⟨s0, s1, s2, s3, s4, s5, s6, s7, s8⟩
    go_simp
    with_reducible rfl
  rotate_left
  · simp only [Act.put, List.setIfInBounds_toArray, List.set_cons_zero, List.set_cons_succ, i64_w, i32_w]
    rfl
  refine take_ (i := 2) (N := some 9) (v := ?_) (a' := ?_) #[true, true, true, true, false, false, false, false, false, false, false] rfl rfl (by kernel_rfl) (fun _ _ _ h => h) (Or.inl ⟨by rfl, ?_⟩) hHeld ?_ ?_
  rotate_left
  · rintro w' ⟨s0, s1, s2, s3, s4, s5, s6, s7, s8⟩
    go_simp
    with_reducible rfl
  rotate_left
  · simp only [Act.put, List.setIfInBounds_toArray, List.set_cons_zero, List.set_cons_succ, i64_w, i32_w]
    rfl
  refine pure_ (i := 4) (N := some 11) (v := ?_) (a' := ?_) #[true, true, true, true, true, false, false, false, false, false, false] rfl rfl (by kernel_rfl) (fun _ _ _ h => h) (Or.inl ⟨by rfl, ?_⟩) ?_ ?_
  rotate_left
  · intro w'
    go_simp
    with_reducible rfl
  rotate_left
  · simp only [Act.put, List.setIfInBounds_toArray, List.set_cons_zero, List.set_cons_succ, i64_w, i32_w]
    rfl
  refine take_ (i := 5) (N := some 12) (v := ?_) (a' := ?_) #[true, true, true, true, true, true, false, false, false, false, false] rfl rfl (by kernel_rfl) (fun _ _ _ h => h) (Or.inl ⟨by rfl, ?_⟩) hHeld ?_ ?_
  rotate_left
  · rintro w' ⟨s0, s1, s2, s3, s4, s5, s6, s7, s8⟩
    go_simp
    with_reducible rfl
  rotate_left
  · simp only [Act.put, List.setIfInBounds_toArray, List.set_cons_zero, List.set_cons_succ, i64_w, i32_w]
    rfl
  refine take_ (i := 7) (N := some 14) (v := ?_) (a' := ?_) #[true, true, true, true, true, true, false, true, false, false, false] rfl rfl (by kernel_rfl) (fun _ _ _ h => h) (Or.inl ⟨by rfl, ?_⟩) hHeld ?_ ?_
  rotate_left
  · rintro w' ⟨s0, s1, s2, s3, s4, s5, s6, s7, s8⟩
    go_simp
    with_reducible rfl
  rotate_left
  · simp only [Act.put, List.setIfInBounds_toArray, List.set_cons_zero, List.set_cons_succ, i64_w, i32_w]
    rfl
  refine one_ (i := 6) (N := some 13) #[true, true, true, true, true, true, true, true, false, false, false] rfl rfl (by kernel_rfl) (by decide) (fun K hK => ?_)
  refine goesV_ Tryd.func38 (by kernel_rfl) rfl #[plV (pA, pW, pL, pC)] (by rfl) rfl rfl (by rfl) (by simp only [List.map_toArray, List.map_cons, List.map_nil]; rfl) ?_
  with_reducible refine (spot_any (pA, pW, pL, pC) _).mono ?_
  rintro e w3 ⟨rfl, hb3⟩
  refine ⟨_, rfl, ?_⟩
  refine hK.out _ _ ⟨(cellB hb3 (cellD h0)), (cellB hb3 (cellD h1)), (cellB hb3 (cellD h2)), (cellB hb3 (cellD h3)), (cellB hb3 (cellD h4)), (cellB hb3 (cellD y0)), (cellB hb3 (cellD y1)), (cellB hb3 (cellD y2)), (cellB hb3 (cellD y3))⟩ (fun hHeld => ?_)
  clear hK K
  refine norm_ (a' := ?_) ?_ ?_
  rotate_left
  · show Act.put _ (some 13) _ = _
    simp only [Act.put, List.setIfInBounds_toArray, List.set_cons_zero, List.set_cons_succ, i64_w, i32_w]
    rfl
  refine one_ (i := 8) (N := some 15) #[true, true, true, true, true, true, true, true, true, false, false] rfl rfl (by kernel_rfl) (by decide) (fun K hK => ?_)
  refine goesV_ Tryd.func39 (by kernel_rfl) rfl #[.agg #[.int .i64 pL, .int .i64 pC], .agg #[.int .i64 wl, .int .i64 wc]] (by rfl) rfl rfl (by rfl) (by simp only [List.map_toArray, List.map_cons, List.map_nil]; rfl) ?_
  with_reducible refine (order_any pL pC wl wc _).mono ?_
  rintro e w4 ⟨rfl, hb4⟩
  refine ⟨_, rfl, ?_⟩
  refine hK.out _ _ ⟨(cellB (below_of hb3 hb4) (cellD h0)), (cellB (below_of hb3 hb4) (cellD h1)), (cellB (below_of hb3 hb4) (cellD h2)), (cellB (below_of hb3 hb4) (cellD h3)), (cellB (below_of hb3 hb4) (cellD h4)), (cellB (below_of hb3 hb4) (cellD y0)), (cellB (below_of hb3 hb4) (cellD y1)), (cellB (below_of hb3 hb4) (cellD y2)), (cellB (below_of hb3 hb4) (cellD y3))⟩ (fun hHeld => ?_)
  clear hK K
  refine norm_ (a' := ?_) ?_ ?_
  rotate_left
  · show Act.put _ (some 15) _ = _
    simp only [Act.put, List.setIfInBounds_toArray, List.set_cons_zero, List.set_cons_succ, i64_w, i32_w]
    rfl
  refine pure_ (i := 9) (N := some 16) (v := ?_) (a' := ?_) #[true, true, true, true, true, true, true, true, true, true, false] rfl rfl (by kernel_rfl) (fun _ _ _ h => h) (Or.inl ⟨by rfl, ?_⟩) ?_ ?_
  rotate_left
  · intro w'
    go_simp
    with_reducible rfl
  rotate_left
  · simp only [Act.put, List.setIfInBounds_toArray, List.set_cons_zero, List.set_cons_succ, i64_w, i32_w]
    rfl
  refine pure_ (i := 10) (N := some 6) (v := ?_) (a' := ?_) #[true, true, true, true, true, true, true, true, true, true, true] rfl rfl (by kernel_rfl) (fun _ _ _ h => h) (Or.inl ⟨by rfl, ?_⟩) ?_ ?_
  rotate_left
  · intro w'
    go_simp
    with_reducible rfl
  rotate_left
  · simp only [Act.put, List.setIfInBounds_toArray, List.set_cons_zero, List.set_cons_succ, i64_w, i32_w]
    rfl
  refine done_ (by kernel_rfl) ?_
  have HG := Sh.mk (lexB_ge (pL, pC) (wl, wc))
  go_wp2
  go_ret
  exact ⟨by rw [← HG.out]; rfl, below_up' (below_drew (Below.refl _ _)) (below_of hb3 hb4)⟩
set_option maxHeartbeats 4000000 in
set_option maxRecDepth 100000 in
theorem findL_any (A : Option Addr) (n c : Nat) (us : List Un) (wl wc : Int) (w : World) (hn : n = us.length + 1) (hC : plK.C w A n (plL us n)) (hb : n < 4611686018427387904) :
    Calls Tryd.prog 41 #[.slice A n c, .func (.func 38) #[] #[], .func (.func 39) #[] #[],   .agg #[.int .i64 wl, .int .i64 wc]] w fun e w' => FindPost (firstF n (fun k => (plA us k).2.2.1 == wl && (plA us k).2.2.2 == wc)) e ∧ Below w.heap.size w w' := by
  have hmf : ∀ (fn : Fn) (first cap : Array Value) (w : World), (Instr.makeFunc fn first cap).run Tryd.prog w = .ok (.func fn first cap) w := fun _ _ _ _ => rfl
  have hrise := line_rise us
  have HF := Sh.mk (fun (ge : Nat → Bool) (c : Nat) => search_found (n := n) ge (fun k => (plA us k).2.2.1 == wl && (plA us k).2.2.2 == wc) c)
  obtain ⟨x0, hx0⟩ : ∃ x0, x0 = w.heap.size := ⟨_, rfl⟩
  obtain ⟨W, hW⟩ : ∃ W, W = (((w.alloc (.cells #[.slice A n c] 58)).alloc (.cells #[.func (.func 38) #[] #[]] 81)).alloc (.cells #[.func (.func 39) #[] #[]] 83)).alloc (.cells #[.int .i64 wl, .int .i64 wc] 80) := ⟨_, rfl⟩
  have hs1 : (w.alloc (.cells #[.slice A n c] 58)).heap.size = x0 + 1 := by rw [hx0]; simp
  have hs2 : ((w.alloc (.cells #[.slice A n c] 58)).alloc (.cells #[.func (.func 38) #[] #[]] 81)).heap.size = x0 + 2 := by rw [World.size_alloc, hs1]
  have hs3 : (((w.alloc (.cells #[.slice A n c] 58)).alloc (.cells #[.func (.func 38) #[] #[]] 81)).alloc (.cells #[.func (.func 39) #[] #[]] 83)).heap.size = x0 + 3 := by rw [World.size_alloc, hs2]
  have hbW : Below w.heap.size w W := by rw [hW]; exact (((((Below.refl _ w).alloc (Nat.le_refl _) _).alloc (by omega) _).alloc (by omega) _).alloc (by omega) _)
  have b2 : W.heap[x0]? = some (.cells #[.slice A n c] 58 (0, 0)) := by rw [hW, hx0]; exact blk_alloc (blk_alloc (blk_alloc (blk_new w _) _) _) _
  have b1 : W.heap[x0 + 1]? = some (.cells #[.func (.func 38) #[] #[]] 81 (0, 0)) := by rw [hW, ← hs1]; exact blk_alloc (blk_alloc (blk_new _ _) _) _
  have b0 : W.heap[x0 + 2]? = some (.cells #[.func (.func 39) #[] #[]] 83 (0, 0)) := by rw [hW, ← hs2]; exact blk_alloc (blk_new _ _) _
  have b3 : W.heap[x0 + 3]? = some (.cells #[.int .i64 wl, .int .i64 wc] 80 (0, 0)) := by rw [hW, ← hs3]; exact blk_new _ _
  have h2 := Sh.mk (show W.cell? ⟨x0, 0, none⟩ = some (.slice A n c) from (blk_cell b2 0).trans rfl)
  have h1 := Sh.mk (show W.cell? ⟨x0 + 1, 0, none⟩ = some (.func (.func 38) #[] #[]) from (blk_cell b1 0).trans rfl)
  have h0 := Sh.mk (show W.cell? ⟨x0 + 2, 0, none⟩ = some (.func (.func 39) #[] #[]) from (blk_cell b0 0).trans rfl)
  have h3 := Sh.mk (show W.cell? ⟨x0 + 3, 0, none⟩ = some (.int .i64 wl) from (blk_cell b3 0).trans rfl)
  have h4 := Sh.mk (show W.cell? ⟨x0 + 3, 1, none⟩ = some (.int .i64 wc) from (blk_cell b3 1).trans rfl)
  have HC := Sh.mk (Kd.C_below hC hbW)
  have HB := Sh.mk hbW
  have HW := Sh.mk hW
  have HX := Sh.mk hx0
  have HR := Sh.mk hrise
  have HN := Sh.mk hn
  have hl := hC.2.1
  clear hn hW hx0 hs1 hs2 hs3 hbW b0 b1 b2 b3 hC hrise
  go_enter Tryd.func41, Tryd.ntmps41
  go_wp2_with fail
  rw [← HW.out, ← HX.out]
  refine (search2_any _ n (fun k => decide (¬ lexLt (rdP (plL us n) k).2.2 (wl, wc))) W hb (fun V i hV hi => closL_any x0 i n c A (plL us n) wl wc V hi (cellB hV h2.out) (cellB hV h1.out) (cellB hV h0.out) (cellB hV h3.out) (cellB hV h4.out) (Kd.C_below HC.out hV)) ?mono).mono ?_
  case mono =>
    intro a b hab hbn ha
    simp only [decide_eq_true_eq] at ha ⊢
    rw [rdP_plL us n b hbn]
    rw [rdP_plL us n a (by omega)] at ha
    by_cases e : a = b
    · subst e; exact ha
    · have := HR.out a b (by omega) (by have := HN.out; omega)
      exact fun h => ha (lex_trans _ _ _ this h)
  rintro e w1 ⟨⟨i, rfl, hin, hlo, hhi⟩, hb1⟩
  have HB1 := Sh.mk (below_of HB.out hb1)
  have HC1 := Sh.mk (Kd.C_below HC.out hb1)
  have h0 := Sh.mk (cellB hb1 h0.out)
  have h1 := Sh.mk (cellB hb1 h1.out)
  have h2 := Sh.mk (cellB hb1 h2.out)
  have h3 := Sh.mk (cellB hb1 h3.out)
  have h4 := Sh.mk (cellB hb1 h4.out)
  have HFi := Sh.mk (HF.out (fun k => decide (¬ lexLt (rdP (plL us n) k).2.2 (wl, wc))) i hin hlo hhi (fun t ht h => by
      simp only [Bool.and_eq_true, beq_iff_eq] at h
      simp only [decide_eq_true_eq]
      rw [rdP_plL us n t ht]
      unfold lexLt
      rw [h.1, h.2]
      simp only
      omega) (fun t u htu hun h => by
      simp only [Bool.and_eq_true, beq_iff_eq] at h
      have := HR.out t u htu (by have := HN.out; omega)
      simp only [decide_eq_false_iff_not, Decidable.not_not]
      rw [rdP_plL us n t (by omega)]
      unfold lexLt at this ⊢
      rw [h.1, h.2] at this
      exact this))
  clear hlo hhi hb1 HF
  by_cases hlt : i < n
  · obtain ⟨ad, e1, y0, y1, y2, y3⟩ := C_pl HC1.out i hlt
    cases e1
    obtain ⟨⟨pA, pW, pL, pC⟩, hp⟩ : ∃ p : Pl, p = rdP (plL us n) i := ⟨_, rfl⟩
    rw [← hp] at y0 y1 y2 y3
    rw [rdP_plL us n i hlt] at hp
    have HP := Sh.mk hp
    have hd : decide (i < n) = true := by simpa using hlt
    simp only [] at y0 y1 y2 y3
    clear hp
    go_wp2
    refine start_ (n := 19) (S := fun w' => w'.cell? ⟨x0 + 2, 0, none⟩ = some (.func (.func 39) #[] #[]) ∧ w'.cell? ⟨x0 + 1, 0, none⟩ = some (.func (.func 38) #[] #[]) ∧ w'.cell? ⟨x0, 0, none⟩ = some (.slice (some ad) n c) ∧ w'.cell? ⟨x0 + 3, 0, none⟩ = some (.int .i64 wl) ∧ w'.cell? ⟨x0 + 3, 1, none⟩ = some (.int .i64 wc) ∧ w'.cell? (ad.add (i * 4)) = some (.int .i64 pA) ∧ w'.cell? ⟨(ad.add (i * 4)).block, (ad.add (i * 4)).off + 1, none⟩ = some (.int .i64 pW) ∧ w'.cell? ⟨(ad.add (i * 4)).block, (ad.add (i * 4)).off + 2, none⟩ = some (.int .i64 pL) ∧ w'.cell? ⟨(ad.add (i * 4)).block, (ad.add (i * 4)).off + 3, none⟩ = some (.int .i64 pC)) (ds := []) #[false, false, false, false, false, false, false, false, false, false, false, false, false, false, false, false, false, false, false] (by kernel_rfl) rfl rfl ⟨cellD h0.out, cellD h1.out, cellD h2.out, cellD h3.out, cellD h4.out, cellD y0, cellD y1, cellD y2, cellD y3⟩ (fun hHeld => ?_)
    refine pure_ (i := 0) (N := some 15) (v := ?_) (a' := ?_) #[true, false, false, false, false, false, false, false, false, false, false, false, false, false, false, false, false, false, false] rfl rfl (by kernel_rfl) (fun _ _ _ h => h) (Or.inl ⟨by rfl, ?_⟩) ?_ ?_
    rotate_left
    · intro w'
      go_simp
      with_reducible rfl
    rotate_left
    · simp only [Act.put, List.setIfInBounds_toArray, List.set_cons_zero, List.set_cons_succ, i64_w, i32_w]
      rfl
    refine pure_ (i := 1) (N := some 16) (v := ?_) (a' := ?_) #[true, true, false, false, false, false, false, false, false, false, false, false, false, false, false, false, false, false, false] rfl rfl (by kernel_rfl) (fun _ _ _ h => h) (Or.inl ⟨by rfl, ?_⟩) ?_ ?_
    rotate_left
    · intro w'
      go_simp
      with_reducible rfl
    rotate_left
    · simp only [Act.put, List.setIfInBounds_toArray, List.set_cons_zero, List.set_cons_succ, i64_w, i32_w]
      rfl
    refine take_ (i := 2) (N := some 17) (v := ?_) (a' := ?_) #[true, true, true, false, false, false, false, false, false, false, false, false, false, false, false, false, false, false, false] rfl rfl (by kernel_rfl) (fun _ _ _ h => h) (Or.inl ⟨by rfl, ?_⟩) hHeld ?_ ?_
    rotate_left
    · rintro w' ⟨s0, s1, s2, s3, s4, s5, s6, s7, s8⟩
      go_simp
      with_reducible rfl
    rotate_left
    · simp only [Act.put, List.setIfInBounds_toArray, List.set_cons_zero, List.set_cons_succ, i64_w, i32_w]
      rfl
    refine pure_ (i := 3) (N := some 18) (v := ?_) (a' := ?_) #[true, true, true, true, false, false, false, false, false, false, false, false, false, false, false, false, false, false, false] rfl rfl (by kernel_rfl) (fun _ _ _ h => h) (Or.inl ⟨by rfl, ?_⟩) ?_ ?_
    rotate_left
    · intro w'
      go_simp
      with_reducible rfl
    rotate_left
    · simp only [Act.put, List.setIfInBounds_toArray, List.set_cons_zero, List.set_cons_succ, i64_w, i32_w]
      rfl
    refine pure_ (i := 4) (N := some 19) (v := ?_) (a' := ?_) #[true, true, true, true, true, false, false, false, false, false, false, false, false, false, false, false, false, false, false] rfl rfl (by kernel_rfl) (fun _ _ _ h => h) (Or.inl ⟨by rfl, ?_⟩) ?_ ?_
    rotate_left
    · intro w'
      go_simp
      with_reducible rfl
    rotate_left
    · simp only [Act.put, List.setIfInBounds_toArray, List.set_cons_zero, List.set_cons_succ, i64_w, i32_w]
      rfl
    refine pure_ (i := 5) (N := some 20) (v := ?_) (a' := ?_) #[true, true, true, true, true, true, false, false, false, false, false, false, false, false, false, false, false, false, false] rfl rfl (by kernel_rfl) (fun _ _ _ h => h) (Or.inl ⟨by rfl, ?_⟩) ?_ ?_
    rotate_left
    · intro w'
      go_simp
      with_reducible rfl
    rotate_left
    · simp only [Act.put, List.setIfInBounds_toArray, List.set_cons_zero, List.set_cons_succ, i64_w, i32_w]
      rfl
    refine pure_ (i := 9) (N := some 24) (v := ?_) (a' := ?_) #[true, true, true, true, true, true, false, false, false, true, false, false, false, false, false, false, false, false, false] rfl rfl (by kernel_rfl) (fun _ _ _ h => h) (Or.inl ⟨by rfl, ?_⟩) ?_ ?_
    rotate_left
    · intro w'
      go_simp
      with_reducible rfl
    rotate_left
    · simp only [Act.put, List.setIfInBounds_toArray, List.set_cons_zero, List.set_cons_succ, i64_w, i32_w]
      rfl
    refine take_ (i := 6) (N := some 21) (v := ?_) (a' := ?_) #[true, true, true, true, true, true, true, false, false, true, false, false, false, false, false, false, false, false, false] rfl rfl (by kernel_rfl) (fun _ _ _ h => h) (Or.inl ⟨by rfl, ?_⟩) hHeld ?_ ?_
    rotate_left
    · rintro w' ⟨s0, s1, s2, s3, s4, s5, s6, s7, s8⟩
      go_simp
      with_reducible rfl
    rotate_left
    · simp only [Act.put, List.setIfInBounds_toArray, List.set_cons_zero, List.set_cons_succ, i64_w, i32_w]
      rfl
    refine take_ (i := 7) (N := some 22) (v := ?_) (a' := ?_) #[true, true, true, true, true, true, true, true, false, true, false, false, false, false, false, false, false, false, false] rfl rfl (by kernel_rfl) (fun _ _ _ h => h) (Or.inl ⟨by rfl, ?_⟩) hHeld ?_ ?_
    rotate_left
    · rintro w' ⟨s0, s1, s2, s3, s4, s5, s6, s7, s8⟩
      go_simp
      with_reducible rfl
    rotate_left
    · simp only [Act.put, List.setIfInBounds_toArray, List.set_cons_zero, List.set_cons_succ, i64_w, i32_w]
      rfl
    refine take_ (i := 8) (N := some 23) (v := ?_) (a' := ?_) #[true, true, true, true, true, true, true, true, true, true, false, false, false, false, false, false, false, false, false] rfl rfl (by kernel_rfl) (fun _ _ _ h => h) (Or.inl ⟨by rfl, ?_⟩) hHeld ?_ ?_
    rotate_left
    · rintro w' ⟨s0, s1, s2, s3, s4, s5, s6, s7, s8⟩
      go_simp
      with_reducible rfl
    rotate_left
    · simp only [Act.put, List.setIfInBounds_toArray, List.set_cons_zero, List.set_cons_succ, i64_w, i32_w]
      rfl
    refine pure_ (i := 10) (N := some 25) (v := ?_) (a' := ?_) #[true, true, true, true, true, true, true, true, true, true, true, false, false, false, false, false, false, false, false] rfl rfl (by kernel_rfl) (fun _ _ _ h => h) (Or.inl ⟨by rfl, ?_⟩) ?_ ?_
    rotate_left
    · intro w'
      go_simp
      with_reducible rfl
    rotate_left
    · simp only [Act.put, List.setIfInBounds_toArray, List.set_cons_zero, List.set_cons_succ, i64_w, i32_w]
      rfl
    refine take_ (i := 11) (N := some 26) (v := ?_) (a' := ?_) #[true, true, true, true, true, true, true, true, true, true, true, true, false, false, false, false, false, false, false] rfl rfl (by kernel_rfl) (fun _ _ _ h => h) (Or.inl ⟨by rfl, ?_⟩) hHeld ?_ ?_
    rotate_left
    · rintro w' ⟨s0, s1, s2, s3, s4, s5, s6, s7, s8⟩
      go_simp
      with_reducible rfl
    rotate_left
    · simp only [Act.put, List.setIfInBounds_toArray, List.set_cons_zero, List.set_cons_succ, i64_w, i32_w]
      rfl
    refine take_ (i := 13) (N := some 28) (v := ?_) (a' := ?_) #[true, true, true, true, true, true, true, true, true, true, true, true, false, true, false, false, false, false, false] rfl rfl (by kernel_rfl) (fun _ _ _ h => h) (Or.inl ⟨by rfl, ?_⟩) hHeld ?_ ?_
    rotate_left
    · rintro w' ⟨s0, s1, s2, s3, s4, s5, s6, s7, s8⟩
      go_simp
      with_reducible rfl
    rotate_left
    · simp only [Act.put, List.setIfInBounds_toArray, List.set_cons_zero, List.set_cons_succ, i64_w, i32_w]
      rfl
    refine one_ (i := 12) (N := some 27) #[true, true, true, true, true, true, true, true, true, true, true, true, true, true, false, false, false, false, false] rfl rfl (by kernel_rfl) (by decide) (fun K hK => ?_)
    refine goesV_ Tryd.func38 (by kernel_rfl) rfl #[plV (pA, pW, pL, pC)] (by rfl) rfl rfl (by rfl) (by simp only [List.map_toArray, List.map_cons, List.map_nil]; rfl) ?_
    with_reducible refine (spot_any (pA, pW, pL, pC) _).mono ?_
    rintro e w3 ⟨rfl, hb3⟩
    refine ⟨_, rfl, ?_⟩
    refine hK.out _ _ ⟨(cellB hb3 (cellD h0.out)), (cellB hb3 (cellD h1.out)), (cellB hb3 (cellD h2.out)), (cellB hb3 (cellD h3.out)), (cellB hb3 (cellD h4.out)), (cellB hb3 (cellD y0)), (cellB hb3 (cellD y1)), (cellB hb3 (cellD y2)), (cellB hb3 (cellD y3))⟩ (fun hHeld => ?_)
    clear hK K
    refine norm_ (a' := ?_) ?_ ?_
    rotate_left
    · show Act.put _ (some 27) _ = _
      simp only [Act.put, List.setIfInBounds_toArray, List.set_cons_zero, List.set_cons_succ, i64_w, i32_w]
      rfl
    refine one_ (i := 14) (N := some 29) #[true, true, true, true, true, true, true, true, true, true, true, true, true, true, true, false, false, false, false] rfl rfl (by kernel_rfl) (by decide) (fun K hK => ?_)
    refine goesV_ Tryd.func39 (by kernel_rfl) rfl #[.agg #[.int .i64 pL, .int .i64 pC], .agg #[.int .i64 wl, .int .i64 wc]] (by rfl) rfl rfl (by rfl) (by simp only [List.map_toArray, List.map_cons, List.map_nil]; rfl) ?_
    with_reducible refine (order_any pL pC wl wc _).mono ?_
    rintro e w4 ⟨rfl, hb4⟩
    refine ⟨_, rfl, ?_⟩
    refine hK.out _ _ ⟨(cellB (below_of hb3 hb4) (cellD h0.out)), (cellB (below_of hb3 hb4) (cellD h1.out)), (cellB (below_of hb3 hb4) (cellD h2.out)), (cellB (below_of hb3 hb4) (cellD h3.out)), (cellB (below_of hb3 hb4) (cellD h4.out)), (cellB (below_of hb3 hb4) (cellD y0)), (cellB (below_of hb3 hb4) (cellD y1)), (cellB (below_of hb3 hb4) (cellD y2)), (cellB (below_of hb3 hb4) (cellD y3))⟩ (fun hHeld => ?_)
    clear hK K
    refine norm_ (a' := ?_) ?_ ?_
    rotate_left
    · show Act.put _ (some 29) _ = _
      simp only [Act.put, List.setIfInBounds_toArray, List.set_cons_zero, List.set_cons_succ, i64_w, i32_w]
      rfl
    refine pure_ (i := 15) (N := some 30) (v := ?_) (a' := ?_) #[true, true, true, true, true, true, true, true, true, true, true, true, true, true, true, true, false, false, false] rfl rfl (by kernel_rfl) (fun _ _ _ h => h) (Or.inl ⟨by rfl, ?_⟩) ?_ ?_
    rotate_left
    · intro w'
      go_simp
      with_reducible rfl
    rotate_left
    · simp only [Act.put, List.setIfInBounds_toArray, List.set_cons_zero, List.set_cons_succ, i64_w, i32_w]
      rfl
    refine pure_ (i := 16) (N := some 31) (v := ?_) (a' := ?_) #[true, true, true, true, true, true, true, true, true, true, true, true, true, true, true, true, true, false, false] rfl rfl (by kernel_rfl) (fun _ _ _ h => h) (Or.inl ⟨by rfl, ?_⟩) ?_ ?_
    rotate_left
    · intro w'
      go_simp
      with_reducible rfl
    rotate_left
    · simp only [Act.put, List.setIfInBounds_toArray, List.set_cons_zero, List.set_cons_succ, i64_w, i32_w]
      rfl
    refine pure_ (i := 17) (N := some 8) (v := ?_) (a' := ?_) #[true, true, true, true, true, true, true, true, true, true, true, true, true, true, true, true, true, true, false] rfl rfl (by kernel_rfl) (fun _ _ _ h => h) (Or.inl ⟨by rfl, ?_⟩) ?_ ?_
    rotate_left
    · intro w'
      go_simp
      with_reducible rfl
    rotate_left
    · simp only [Act.put, List.setIfInBounds_toArray, List.set_cons_zero, List.set_cons_succ, i64_w, i32_w]
      rfl
    refine pure_ (i := 18) (N := some 9) (v := ?_) (a' := ?_) #[true, true, true, true, true, true, true, true, true, true, true, true, true, true, true, true, true, true, true] rfl rfl (by kernel_rfl) (fun _ _ _ h => h) (Or.inl ⟨by rfl, ?_⟩) ?_ ?_
    rotate_left
    · intro w'
      go_simp
      with_reducible rfl
    rotate_left
    · simp only [Act.put, List.setIfInBounds_toArray, List.set_cons_zero, List.set_cons_succ, i64_w, i32_w]
      rfl
    refine done_ (by kernel_rfl) ?_
    have HG := Sh.mk (lexB_eq pL pC wl wc)
    go_wp2
    go_ret2
    refine ⟨?_, below_of HB1.out (below_up' (below_drew (Below.refl _ _)) (below_of hb3 hb4))⟩
    cases hr : firstF n (fun k => (plA us k).2.2.1 == wl && (plA us k).2.2.2 == wc) with
    | some j =>
      have e1 := HFi.out.1 j hr
      have e2 := (HFi.out.2.2 j hr).2
      subst e1
      rw [← HP.out] at e2
      simp only [] at e2
      show _ = _
      rw [HG.out, e2]
      rfl
    | none =>
      have e2 := HFi.out.2.1 hr hlt
      rw [← HP.out] at e2
      simp only [] at e2
      exact ⟨i, by rw [HG.out, e2]; rfl⟩
  · have hd : decide (i < n) = false := by simpa using hlt
    have x2 := h2.out
    go_wp2
    go_quiet (fail)
    go_wp2
    go_ret2
    refine ⟨?_, below_of HB1.out (pw_below_drewN (Below.refl _ _) _)⟩
    cases hr : firstF n (fun k => (plA us k).2.2.1 == wl && (plA us k).2.2.2 == wc) with
    | some j =>
      have e1 := HFi.out.1 j hr
      have e2 := (HFi.out.2.2 j hr).1
      omega
    | none => exact ⟨i, rfl⟩
end Go.Proofs.YtbpadakcjnkjeaaDoor
/- offsets.Map's calls: Unit, Byte, Wide, Narrow, Line, At. Conditions: the map lies in memory; ErrArg reads as listed. -/
namespace Go.Proofs.YtbpadakcjnkjeaaDoor
open Go Go.RowKit Go.Proofs.YtbpadakcjnkjeaaDoorW.PrintWords Go.Proofs.YtbpadakcjnkjeaaDoorW.PrintLast Go.Proofs.YtbpadakcjnkjeaaDoorW.PrintMore
set_option maxRecDepth 100000
/-- A map of these units in memory. -/
structure MapU (w : World) (b : Nat) (A : Option Addr) (c : Nat) (us : List Un) : Prop where
  blk : w.heap[b]? = some (.cells #[.slice A (us.length + 1) c] MpT (0, 0))
  C : plK.C w A (us.length + 1) (plL us (us.length + 1))
  ch : Chained us 0
  small : us.length ≤ 1000000000
theorem MapU.below {w w1 : World} {b : Nat} {A : Option Addr} {c : Nat} {us : List Un} (h : MapU w b A c us) (hb : Below w.heap.size w w1) : MapU w1 b A c us := ⟨blk_below h.blk hb, Kd.C_below h.C hb, h.ch, h.small⟩
theorem MapU.cell {w : World} {b : Nat} {A : Option Addr} {c : Nat} {us : List Un} (h : MapU w b A c us) : w.cell? ⟨b, 0, none⟩ = some (.slice A (us.length + 1) c) := (blk_cell h.blk 0).trans rfl
abbrev errA (E : Nat → Addr) : Value := .iface 101 (.pointer (some (E 1)))
/-- One number, or ErrArg. -/
def NumPost (E : Nat → Addr) (r : Option Int) (e : Ending) : Prop :=
  match r with
  | some x => e = .returned (.tuple #[.int .i64 x, .nilIface])
  | none => e = .returned (.tuple #[.int .i64 0, errA E])
def keyB (us : List Un) (x : Int) : Option Nat := firstF (us.length + 1) (fun k => (plA us k).1 == x)
def keyW (us : List Un) (x : Int) : Option Nat := firstF (us.length + 1) (fun k => (plA us k).2.1 == x)
def keyL (us : List Un) (l c : Int) : Option Nat := firstF (us.length + 1) (fun k => (plA us k).2.2.1 == l && (plA us k).2.2.2 == c)
section
variable (E : Nat → Addr) (b : Nat) (A : Option Addr) (c : Nat) (us : List Un) (w : World) (hE : GS [1] E w) (h : MapU w b A c us)
include hE h
set_option maxHeartbeats 1000000 in
set_option maxRecDepth 100000 in
theorem place_any (x : Int) : Calls Tryd.prog 25 #[.pointer (some ⟨b, 0, none⟩), .int .i64 x] w fun e w' => NumPost E (Option.map Int.ofNat (keyB us x)) e ∧ Below w.heap.size w w' := by
  have HE := Sh.mk hE
  have HM := Sh.mk h
  have x0 := h.cell
  have hsm := h.small
  have hl := h.C.2.1
  clear hE h
  go_enter Tryd.func25, Tryd.ntmps25
  go_wp2_with fail
  have hfd : Calls Tryd.prog 35 #[.slice A (us.length + 1) c, .func (.func 42) #[] #[], .func (.func 37) #[] #[], .int .i64 x] w fun e w' => FindPost (keyB us x) e ∧ Below w.heap.size w w' := findB_any A (us.length + 1) c us x w rfl HM.out.C HM.out.ch (by omega)
  refine hfd.mono ?_
  clear hfd
  cases hr : keyB us x with
  | some j =>
    rintro e w1 ⟨he, hb⟩
    obtain rfl := he
    have HB := Sh.mk hb
    have HR := Sh.mk hr
    clear hb x0 hr
    go_wp2
    go_ret2
    rw [HR.out]
    exact ⟨rfl, HB.out⟩
  | none =>
    rintro e w1 ⟨⟨i, rfl⟩, hb⟩
    have HB := Sh.mk hb
    have c1 := ((HE.out.below hb).s 1 (by decide)).cell
    simp only [errG] at c1
    have HR := Sh.mk hr
    clear hb x0 hr
    go_wp2
    go_quiet (fail)
    go_wp2
    go_ret2
    rw [HR.out]
    exact ⟨rfl, below_of HB.out (pw_below_drewN (Below.refl _ _) _)⟩
set_option maxRecDepth 100000 in
theorem unit_call (x : Int) : Calls Tryd.prog 12 #[.pointer (some ⟨b, 0, none⟩), .int .i64 x] w fun e w' => NumPost E (Option.map Int.ofNat (keyB us x)) e ∧ Below w.heap.size w w' := by
  have HM := Sh.mk h
  have HE := Sh.mk hE
  clear hE h
  go_enter Tryd.func12, Tryd.ntmps12
  go_wp2_with fail
  refine (place_any E b A c us w HE.out HM.out x).mono ?_
  cases hr : keyB us x with
  | some j =>
    rintro e w1 ⟨he, hb⟩
    obtain rfl := he
    have HB := Sh.mk hb
    have HR := Sh.mk hr
    clear hb hr
    go_wp2
    go_ret2
    rw [HR.out]
    exact ⟨rfl, HB.out⟩
  | none =>
    rintro e w1 ⟨he, hb⟩
    obtain rfl := he
    have HB := Sh.mk hb
    have HR := Sh.mk hr
    clear hb hr
    go_wp2
    go_ret2
    rw [HR.out]
    exact ⟨rfl, HB.out⟩
set_option maxHeartbeats 1000000 in
set_option maxRecDepth 100000 in
theorem wide_call (x : Int) : Calls Tryd.prog 13 #[.pointer (some ⟨b, 0, none⟩), .int .i64 x] w fun e w' => NumPost E ((keyB us x).map (fun j => (plA us j).2.1)) e ∧ Below w.heap.size w w' := by
  have HM := Sh.mk h
  have HE := Sh.mk hE
  have hl := h.C.2.1
  clear hE h
  go_enter Tryd.func13, Tryd.ntmps13
  go_wp2_with fail
  refine (place_any E b A c us w HE.out HM.out x).mono ?_
  cases hr : keyB us x with
  | some j =>
    rintro e w1 ⟨he, hb⟩
    obtain rfl := he
    have hj := (first_some hr).1
    have HM1 := HM.out.below hb
    have x1 := HM1.cell
    obtain ⟨ad, e1, y0, y1, y2, y3⟩ := C_pl HM1.C j hj
    cases e1
    rw [rdP_plL us _ j hj] at y0 y1 y2 y3
    have HB := Sh.mk hb
    have HR := Sh.mk hr
    clear hb hr HM1
    go_wp2
    go_ret2
    rw [HR.out]
    exact ⟨rfl, HB.out⟩
  | none =>
    rintro e w1 ⟨he, hb⟩
    obtain rfl := he
    have HB := Sh.mk hb
    have HR := Sh.mk hr
    clear hb hr
    go_wp2
    go_ret2
    rw [HR.out]
    exact ⟨rfl, HB.out⟩
set_option maxHeartbeats 1000000 in
set_option maxRecDepth 100000 in
theorem narrow_call (x : Int) : Calls Tryd.prog 20 #[.pointer (some ⟨b, 0, none⟩), .int .i64 x] w fun e w' => NumPost E ((keyW us x).map (fun j => (plA us j).1)) e ∧ Below w.heap.size w w' := by
  have HM := Sh.mk h
  have HE := Sh.mk hE
  have x0 := h.cell
  have hsm := h.small
  have hl := h.C.2.1
  clear hE h
  go_enter Tryd.func20, Tryd.ntmps20
  go_wp2_with fail
  have hfd : Calls Tryd.prog 35 #[.slice A (us.length + 1) c, .func (.func 36) #[] #[], .func (.func 37) #[] #[], .int .i64 x] w fun e w' => FindPost (keyW us x) e ∧ Below w.heap.size w w' := findW_any A (us.length + 1) c us x w rfl HM.out.C (by omega)
  refine hfd.mono ?_
  clear hfd
  cases hr : keyW us x with
  | some j =>
    rintro e w1 ⟨he, hb⟩
    obtain rfl := he
    have hj := (first_some hr).1
    have HM1 := HM.out.below hb
    have x1 := HM1.cell
    obtain ⟨ad, e1, y0, y1, y2, y3⟩ := C_pl HM1.C j hj
    cases e1
    rw [rdP_plL us _ j hj] at y0 y1 y2 y3
    have HB := Sh.mk hb
    have HR := Sh.mk hr
    clear hb hr HM1 x0
    go_wp2
    go_ret2
    rw [HR.out]
    exact ⟨rfl, HB.out⟩
  | none =>
    rintro e w1 ⟨⟨i, rfl⟩, hb⟩
    have HB := Sh.mk hb
    have c1 := ((HE.out.below hb).s 1 (by decide)).cell
    simp only [errG] at c1
    have HR := Sh.mk hr
    clear hb x0 hr
    go_wp2
    go_quiet (fail)
    go_wp2
    go_ret2
    rw [HR.out]
    exact ⟨rfl, below_of HB.out (pw_below_drewN (Below.refl _ _) _)⟩
set_option maxHeartbeats 1000000 in
set_option maxRecDepth 100000 in
theorem at_call (l x : Int) : Calls Tryd.prog 21 #[.pointer (some ⟨b, 0, none⟩), .int .i64 l, .int .i64 x] w fun e w' => NumPost E ((keyL us l x).map (fun j => (plA us j).1)) e ∧ Below w.heap.size w w' := by
  have HM := Sh.mk h
  have HE := Sh.mk hE
  have x0 := h.cell
  have hsm := h.small
  have hl := h.C.2.1
  clear hE h
  go_enter Tryd.func21, Tryd.ntmps21
  go_wp2_with fail
  have hfd : Calls Tryd.prog 41 #[.slice A (us.length + 1) c, .func (.func 38) #[] #[], .func (.func 39) #[] #[], .agg #[.int .i64 l, .int .i64 x]] w fun e w' => FindPost (keyL us l x) e ∧ Below w.heap.size w w' := findL_any A (us.length + 1) c us l x w rfl HM.out.C (by omega)
  refine hfd.mono ?_
  clear hfd
  cases hr : keyL us l x with
  | some j =>
    rintro e w1 ⟨he, hb⟩
    obtain rfl := he
    have hj := (first_some hr).1
    have HM1 := HM.out.below hb
    have x1 := HM1.cell
    obtain ⟨ad, e1, y0, y1, y2, y3⟩ := C_pl HM1.C j hj
    cases e1
    rw [rdP_plL us _ j hj] at y0 y1 y2 y3
    have HB := Sh.mk hb
    have HR := Sh.mk hr
    clear hb hr HM1 x0
    go_wp2
    go_ret2
    rw [HR.out]
    exact ⟨rfl, HB.out⟩
  | none =>
    rintro e w1 ⟨⟨i, rfl⟩, hb⟩
    have HB := Sh.mk hb
    have c1 := ((HE.out.below hb).s 1 (by decide)).cell
    simp only [errG] at c1
    have HR := Sh.mk hr
    clear hb x0 hr
    go_wp2
    go_quiet (fail)
    go_wp2
    go_ret2
    rw [HR.out]
    exact ⟨rfl, below_of HB.out (pw_below_drewN (Below.refl _ _) _)⟩
/-- A line and a column, or ErrArg. -/
def LinePost (E : Nat → Addr) (r : Option (Int × Int)) (e : Ending) : Prop :=
  match r with
  | some x => e = .returned (.tuple #[.int .i64 x.1, .int .i64 x.2, .nilIface])
  | none => e = .returned (.tuple #[.int .i64 0, .int .i64 0, errA E])
set_option maxHeartbeats 1000000 in
set_option maxRecDepth 100000 in
theorem line_call (x : Int) : Calls Tryd.prog 11 #[.pointer (some ⟨b, 0, none⟩), .int .i64 x] w fun e w' => LinePost E ((keyB us x).map (fun j => (plA us j).2.2)) e ∧ Below w.heap.size w w' := by
  have HM := Sh.mk h
  have HE := Sh.mk hE
  have hl := h.C.2.1
  clear hE h
  go_enter Tryd.func11, Tryd.ntmps11
  go_wp2_with fail
  refine (place_any E b A c us w HE.out HM.out x).mono ?_
  cases hr : keyB us x with
  | some j =>
    rintro e w1 ⟨he, hb⟩
    obtain rfl := he
    have hj := (first_some hr).1
    have HM1 := HM.out.below hb
    have x1 := HM1.cell
    obtain ⟨ad, e1, y0, y1, y2, y3⟩ := C_pl HM1.C j hj
    cases e1
    rw [rdP_plL us _ j hj] at y0 y1 y2 y3
    have HB := Sh.mk hb
    have HR := Sh.mk hr
    clear hb hr HM1
    go_wp2
    go_quiet (fail)
    go_wp2
    go_ret3
    rw [HR.out]
    exact ⟨rfl, below_of HB.out (pw_below_drewN (Below.refl _ _) _)⟩
  | none =>
    rintro e w1 ⟨he, hb⟩
    obtain rfl := he
    have HB := Sh.mk hb
    have HR := Sh.mk hr
    clear hb hr
    go_wp2
    go_ret3
    rw [HR.out]
    exact ⟨rfl, HB.out⟩
end
set_option maxHeartbeats 1000000 in
set_option maxRecDepth 100000 in
theorem byte_call (E : Nat → Addr) (b : Nat) (A : Option Addr) (c : Nat) (us : List Un) (w : World) (hE : GS [1] E w) (h : MapU w b A c us) (x : Int) (hx : -9223372036854775808 ≤ x ∧ x ≤ 9223372036854775807) :
    Calls Tryd.prog 19 #[.pointer (some ⟨b, 0, none⟩), .int .i64 x] w fun e w' => NumPost E (if 0 ≤ x ∧ x < us.length + 1 then some (plA us x.toNat).1 else none) e ∧ Below w.heap.size w w' := by
  have HM := Sh.mk h
  have c1 := (hE.s 1 (by decide)).cell
  simp only [errG] at c1
  have x0 := h.cell
  have hl := h.C.2.1
  clear hE h
  by_cases h0 : 0 ≤ x ∧ x < us.length + 1
  · rw [if_pos h0]
    obtain ⟨j, rfl⟩ := Int.eq_ofNat_of_zero_le h0.1
    have hj : j < us.length + 1 := by omega
    obtain ⟨ad, e1, y0, y1, y2, y3⟩ := C_pl HM.out.C j hj
    cases e1
    rw [rdP_plL us _ j hj] at y0 y1 y2 y3
    have hd : decide (us.length + 1 ≤ j) = false := by simp; omega
    clear h0 hx
    go_enter Tryd.func19, Tryd.ntmps19
    go_wp2
    go_ret2
    exact ⟨rfl, Below.refl _ _⟩
  · rw [if_neg h0]
    by_cases hn : x < 0
    · have hd : decide (x < 0) = true := by simpa using hn
      clear h0 hn
      go_enter Tryd.func19, Tryd.ntmps19
      go_wp2
      go_quiet (fail)
      go_wp2
      go_ret2
      exact ⟨rfl, pw_below_drewN (Below.refl _ _) _⟩
    · have hd : decide (x < 0) = false := by simpa using hn
      have hd2 : decide ((us.length : Int) + 1 ≤ x) = true := by simp; omega
      clear h0 hn
      go_enter Tryd.func19, Tryd.ntmps19
      go_wp2
      go_quiet (fail)
      go_wp2
      go_ret2
      exact ⟨rfl, pw_below_drewN (Below.refl _ _) _⟩
end Go.Proofs.YtbpadakcjnkjeaaDoor
