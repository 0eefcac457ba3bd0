/-
units.Split, walked: all units of a text, in new memory. Conditions: the table reads as listed; the text's size.
-/
import Derived.Test.YtbpadakcjnkjeaaDoorAllOf
import Derived.Maps.AppendAt
import Derived.Deep.Onto
namespace Go.Proofs.YtbpadakcjnkjeaaDoor
open Go Go.RowKit Go.Shelf Go.Proofs.YtbpadakcjnkjeaaDoorW.PrintWords Go.Proofs.YtbpadakcjnkjeaaDoorW.PrintLast Go.Proofs.YtbpadakcjnkjeaaDoorW.PrintMore
set_option maxRecDepth 100000
attribute [local go_sem] Oper.semAt_some
abbrev unitK : Kd (Int × Int × Int) := Kd.pair (Kd.int .i64) (Kd.pair (Kd.int .i64) (Kd.int .i64))
def uL (x : Int × Int × Int) : List Value := [.int .i64 x.1, .int .i64 x.2.1, .int .i64 x.2.2]
theorem info_unit : (Tryd.prog.info? 50).map (fun i => (i.zero, i.size, i.bytes)) = some (some (.agg #[.int .i64 0, .int .i64 0, .int .i64 0]), 3, 24) := by kernel_rfl
theorem units_reps (w : World) (base : Nat) (ok : Nat → Prop) (xs : List (Int × Int × Int)) : Reps (unitK.M w base ok) 3 xs (xs.flatMap uL) := by
  have h : ∀ ys : List (Int × Int × Int), Reps (unitK.M w base ok) 3 ys (ys.flatMap uL) → ∀ zs : List (Int × Int × Int), Reps (unitK.M w base ok) 3 (ys ++ zs) ((ys ++ zs).flatMap uL) := by
    intro ys hy zs
    induction zs generalizing ys with
    | nil => simpa using hy
    | cons z zs ih =>
      have := ih (ys ++ [z]) (by
        rw [List.flatMap_append]
        exact hy.snoc (p := z) (c := [z].flatMap uL) ⟨[.int .i64 z.1], [.int .i64 z.2.1, .int .i64 z.2.2], by simp [uL], rfl, [.int .i64 z.2.1], [.int .i64 z.2.2], rfl, rfl, rfl⟩ (by simp [uL]))
      simpa using this
  exact h [] (Reps.none _ _) xs
theorem unitsFrom_len (s : ByteArray) : ∀ f i, (unitsFrom s f i).length ≤ f
  | 0, _ => by simp [unitsFrom]
  | f + 1, i => by
    rw [unitsFrom]
    split
    · have := unitsFrom_len s f (i + unitLen s i); simp; omega
    · simp
theorem lenB (a b : Nat) (h : a + b ≤ 9223372036854775807) : a + b ≤ maxLen := h
theorem cells3_new (w : World) (a b c : Value) (t : TypeId) : ∀ j u, [a, b, c][j]? = some u → (w.alloc (.cells #[a, b, c] t)).cell? ((⟨w.heap.size, 0, none⟩ : Addr).add j) = some u := by
  intro j u hj
  have h := blk_cell (blk_new w (.cells #[a, b, c] t)) j
  have e : (⟨w.heap.size, 0, none⟩ : Addr).add j = ⟨w.heap.size, j, none⟩ := by unfold Addr.add; split <;> simp_all
  rw [e, h]
  simpa using hj
theorem own_cells {A : World} {base : Nat} {e : TypeId} {size n : Nat} {v : Value} {xs : List Value} (h : A.ownsRow base e size v n xs) {k : Nat} (hk : v.ownBlock = some k) : ∃ o, A.heap[k]? = some o ∧ o.isCells = true ∧ base ≤ k ∧ k < A.heap.size := by
  rcases h.2 with ⟨rfl, _⟩ | ⟨g, cap, cur, rfl, hb, hg, _⟩
  · simp [Value.ownBlock] at hk
  · obtain rfl : g = k := by simpa [Value.ownBlock] using hk
    exact ⟨_, hg, rfl, hb, (Array.getElem?_eq_some_iff.1 hg).1⟩
/-- What stands between two rounds: the list that has come, in box X. -/
def HasUnits (w : World) (X B : Nat) (pre : List (Int × Int × Int)) (A : World) : Prop :=
  (∃ v, Boxed A X 47 v ∧ A.ownsRow B 50 3 v pre.length (pre.flatMap uL)) ∧ Below w.heap.size w A ∧ B ≤ A.heap.size
theorem HasUnits.move {w A C : World} {X B : Nat} {pre : List (Int × Int × Int)} (h : HasUnits w X B pre A) (hk : ∀ (k : Nat) (o : Obj), A.heap[k]? = some o → o.isCells = true → (k = X ∨ B ≤ k) → C.heap[k]? = some o) (hb : Below w.heap.size w C) (hs : B ≤ C.heap.size) : HasUnits w X B pre C := by
  obtain ⟨⟨v, h1, h2⟩, _, _⟩ := h
  refine ⟨⟨v, hk _ _ h1 rfl (Or.inl rfl), own_move h2 (fun k e => ?_)⟩, hb, hs⟩
  obtain ⟨o, ho, hc, hB, _⟩ := own_cells h2 e
  exact (hk k o ho hc (Or.inr hB)).trans ho.symm
theorem set_other {A : World} {p : Addr} {v : Value} {k : Nat} (h : k ≠ p.block) : (A.setCell p v).heap[k]? = A.heap[k]? := Deep.blk_setCell_other A p v k h
theorem putObj_of {A : World} {l : Nat} {o o' : Obj} {X B : Nat} (hl : A.heap[l]? = some o) (ho : o.isCells = false) : ∀ (k : Nat) (q : Obj), A.heap[k]? = some q → q.isCells = true → (k = X ∨ B ≤ k) → (A.putObj l o').heap[k]? = some q := fun k q h1 h2 _ => putObj_cells o' hl ho k q h1 h2
theorem Below.put {w A : World} {l : Nat} (hb : Below w.heap.size w A) (o' : Obj) (hw : w.heap.size ≤ l) : Below w.heap.size w (A.putObj l o') :=
  hb.trans ⟨rfl, rfl, rfl, by simp [World.putObj], fun k hk => World.putObj_heap_other (by omega)⟩
set_option maxRecDepth 100000 in
set_option maxHeartbeats 8000000 in
theorem split_any (s : ByteArray) (w : World) (hf : FormsAt w) (hs : s.size ≤ 5000000000000) :
    Calls Tryd.prog 18 #[.string s] w fun e w' => ∃ v, e = .returned v ∧ Kd.R unitK 50 w' w.heap.size (fun _ => True) v (unitsFrom s s.size 0) ∧ Below w.heap.size w w' := by
  have HF := Sh.mk hf
  clear hf
  obtain ⟨i0, hi, hz0, hz1, hz2⟩ := info_parts info_unit
  refine (callsIn_wide (n := 4)).1 ?_
  refine callsIn_of_wp_marks Tryd.func18 rfl trivial ?_ rfl
  simp only [Tryd.ntmps18, List.size_toArray, List.length_cons, List.length_nil, Nat.reduceAdd, Nat.reduceSub, Array.replicate_succ, Array.replicate_zero, List.push_toArray, List.append_toArray, List.nil_append, List.cons_append]
  obtain ⟨X, hX⟩ : ∃ X, X = w.heap.size := ⟨_, rfl⟩
  obtain ⟨W3, hW3⟩ : ∃ W3, W3 = ((w.alloc (.cells #[.slice none 0 0] 47)).alloc (.cells #[.string s] 9)).alloc (.cells #[.int .i64 0] 3) := ⟨_, rfl⟩
  have hsz : W3.heap.size = X + 3 := by rw [hW3, hX]; simp
  have hB3 : Below w.heap.size w W3 := by rw [hW3]; exact (((Below.refl _ w).alloc (Nat.le_refl _) _).alloc (by simp) _).alloc (by simp; omega) _
  have bX : Boxed W3 X 47 (.slice none 0 0) := by rw [hW3, hX]; exact ((Boxed.new w 47 (.slice none 0 0)).alloc _).alloc _
  have bS : W3.heap[X + 1]? = some (.cells #[.string s] 9 (0, 0)) := by
    rw [hW3, hX]; have := blk_new (w.alloc (.cells #[.slice none 0 0] 47)) (.cells #[.string s] 9); rw [World.size_alloc] at this; exact blk_alloc this _
  have bA : W3.heap[X + 2]? = some (.cells #[.int .i64 0] 3 (0, 0)) := by
    rw [hW3, hX]; have := blk_new ((w.alloc (.cells #[.slice none 0 0] 47)).alloc (.cells #[.string s] 9)) (.cells #[.int .i64 0] 3); rw [World.size_alloc, World.size_alloc] at this; exact this
  have hF3 := HF.out.below hB3
  have hgf : 11 < w.heap.size := by obtain ⟨t, ht⟩ := HF.out; exact blk_lt ht
  gi_wp2_with (refine ⟨trivial, ?_⟩; gi_at_call 34; refine (callsIn_wide.2 (all_any s 0 _)).mono ?_; rintro e w' ⟨rfl, rfl⟩)
  rw [← hW3, ← hX]
  have hwX : w.heap.size ≤ X := by omega
  have HX := Sh.mk hX
  have HSZ := Sh.mk hsz
  have HB3 := Sh.mk hB3
  have HBX := Sh.mk bX
  have HBS := Sh.mk bS
  have HBA := Sh.mk bA
  have HF3 := Sh.mk hF3
  have hX3 : X < W3.heap.size := by omega
  have hgX : 11 < X := by omega
  clear hX hsz hW3 hB3 bX bS bA hF3
  refine wpIn_rangeFunc_all (n := 4) (w0 := W3) (by omega) (gf := 46) (lb := #[.pointer (some ⟨X + 2, 0, none⟩), .pointer (some ⟨X + 1, 0, none⟩)]) rfl (enters_of Tryd.func46 (by kernel_rfl) rfl)
    (all1_any 3 (by omega) s (X + 2) (X + 1) X W3 (by omega) (by have := HSZ.out; omega) (by have := HSZ.out; omega) (by omega) (by omega) (by omega) (by omega) (by omega) (by omega) HBA.out HBS.out HF3.out) (Below.refl _ _)
    ?mv (fun _ => rfl) (HasUnits w X (X + 3)) ?i1 ?i2 ?i3 ⟨⟨_, HBX.out, World.ownsRow_nil _ _ _ _⟩, HB3.out, by have := HSZ.out; omega⟩ ?ix ?io
    (fun pre x a' A => HasUnits w X (X + 3) pre A ∧ ∃ Bu, X + 3 ≤ Bu ∧ A.heap[Bu]? = some (.cells #[.int .i64 x.1, .int .i64 x.2.1, .int .i64 x.2.2] 50 (0, 0)) ∧ (∀ v k, A.cell? ⟨X, 0, none⟩ = some v → v.ownBlock = some k → k ≠ Bu) ∧
      a' = { tmps := #[.string s, undef, .slice none 0 0, .pointer (some ⟨X, 0, none⟩), .pointer (some ⟨Bu, 0, none⟩), .string s, .func (.func 46) #[] #[.pointer (some ⟨X + 2, 0, none⟩), .pointer (some ⟨X + 1, 0, none⟩)], .agg #[.int .i64 x.1, .int .i64 x.2.1, .int .i64 x.2.2], undef, undef, undef, undef, undef], defers := [] })
    ?ax ?assign ?body ?done
  case mv =>
    rintro A C (hb | ⟨v, rfl⟩)
    · exact ⟨hb.size, fun k o _ hk _ => blk_below hk hb⟩
    · have hs3 := HSZ.out
      exact ⟨by simp, fun k o hk ho hc => by rw [set_other (p := ⟨X + 2, 0, none⟩) (show k ≠ X + 2 by omega)]; exact ho⟩
  case i1 =>
    rintro pre A C h (hb | ⟨v, rfl⟩)
    · exact h.move (fun k o hk _ _ => blk_below hk hb) (below_of h.2.1 hb) (Nat.le_trans h.2.2 hb.size)
    · exact h.move (fun k o hk _ hq => by rw [set_other (p := ⟨X + 2, 0, none⟩) (show k ≠ X + 2 by omega)]; exact hk) (h.2.1.setCell (p := ⟨X + 2, 0, none⟩) (by show w.heap.size ≤ X + 2; omega) _) (by simp; exact h.2.2)
  case i2 =>
    intro pre A o h _
    exact h.move (fun k o' hk _ _ => blk_alloc hk _) (h.2.1.alloc h.2.1.size _) (by simp; have := h.2.2; omega)
  case i3 =>
    intro pre A l o o' h hl ho hc
    have hs3 := HSZ.out
    exact h.move (putObj_of ho hc) (Below.put h.2.1 o' (by omega)) (by simp [World.putObj]; exact h.2.2)
  case ix =>
    rintro pre A ⟨⟨v, h1, _⟩, _, _⟩
    exact ⟨_, h1, rfl⟩
  case io =>
    rintro pre A ⟨⟨v, h1, h2⟩, _, _⟩ v' k hv hk
    rw [Boxed.cell h1] at hv
    cases hv
    obtain ⟨_, _, _, h3, h4⟩ := own_cells h2 hk
    have hs3 := HSZ.out
    exact ⟨by omega, h4⟩
  case ax =>
    rintro pre x a' A l o o' ⟨h, Bu, h1, h2, h3, h4⟩ hl ho hc
    have hs3 := HSZ.out
    have hX := h.1
    obtain ⟨v, hv, _⟩ := hX
    refine ⟨h.move (putObj_of ho hc) (Below.put h.2.1 o' (by omega)) (by simp [World.putObj]; exact h.2.2), Bu, h1, putObj_cells o' ho hc _ _ h2 rfl, fun v' k hv' hk => h3 v' k ?_ hk, h4⟩
    rw [← cells_cell hv rfl (putObj_cells o' ho hc)]
    exact hv'
  case assign =>
    intro l pre x W K h hW hK
    obtain ⟨⟨v, hv, hrow⟩, _, _⟩ := id h
    have HH := Sh.mk h
    have HK := Sh.mk hK
    have hs3 := HSZ.out
    have hWX : X + 3 ≤ W.heap.size := by omega
    clear h hK hW hs3
    dsimp only [uEncs]
    gi_wp2
    refine HK.out _ _ ⟨by simp, fun k o _ hk _ => blk_alloc hk _⟩ (fun k o hk _ => blk_alloc hk _) ⟨HH.out.move (fun k o' hk _ _ => blk_alloc hk _) (HH.out.2.1.alloc HH.out.2.1.size _) (by simp; omega), W.heap.size, hWX, blk_new _ _, ?_, rfl⟩
    intro v' k hv' hk
    rw [Boxed.cell (hv.alloc _)] at hv'
    cases hv'
    obtain ⟨_, _, _, _, h4⟩ := own_cells hrow hk
    omega
  case body =>
    rintro l pre x rest a' W hx ⟨h, Bu, h1, h2, h3, rfl⟩
    obtain ⟨⟨v, hv, hrow⟩, hB, hS⟩ := id h
    have HH := Sh.mk h
    have H2 := Sh.mk h2
    have H3 := Sh.mk h3
    clear h h3
    have hc := hv.cell
    have y0 := blk_cell h2 0
    have y1 := blk_cell h2 1
    have y2 := blk_cell h2 2
    simp only [List.getElem?_toArray, List.getElem?_cons_zero, List.getElem?_cons_succ] at y0 y1 y2
    have hlen : pre.length < s.size := by
      have := unitsFrom_len s s.size 0
      rw [hx] at this
      simp at this
      omega
    gi_wp2_with (gi_at_builtin; refine wpListIn_append_own _ rfl _ _ 47 rfl (X + 3) 50 i0 _ 3 24 Tryd.underlying47 hi hz0 hz1 hz2 rfl (by decide) _ _ _ rfl (hrow.alloc _) ⟨W.heap.size, 0, none⟩ 1 1 [.int .i64 x.1, .int .i64 x.2.1, .int .i64 x.2.2] rfl rfl (cells3_new _ _ _ _ _) (by simp [Value.oneCell']) (lenB _ _ (by omega)) (by omega) (by simp; omega) ?_; intro v' w1 hown' hgrow _; obtain ⟨g', cap', rfl⟩ := ownsRow_succ hown'; obtain ⟨hv1, hv2, hr2, hk2, hb2⟩ := hv.appended (by decide) (hrow.mono (show w.heap.size ≤ X + 3 by omega)) hB.size (by omega) (hown'.mono (show w.heap.size ≤ X + 3 by omega)) hgrow; have hc1 := hv1.cell; have hf1 := hv1.frozen)
    have hr3 := hown'.kept (grownBy_setCell' w1 X (.slice (some ⟨g', 0, none⟩) (pre.length + 1) cap')) (.inr (hv1.not_row (by decide) hown').symm)
    refine ⟨⟨hk2.size, fun k o _ hk hc => hk2.same k o hk hc⟩, fun k o hk hcc hkX hown => ?_, ⟨⟨_, hv2, ?_⟩, hB.trans hb2, ?_⟩⟩
    · rw [set_other (p := ⟨X, 0, none⟩) hkX]
      have hkl : k < (W.alloc (.cells #[.int .i64 x.1, .int .i64 x.2.1, .int .i64 x.2.2] 50)).heap.size := by have := blk_lt hk; rw [World.size_alloc]; omega
      exact (hgrow.block k hkl (fun e => hown v hc e.symm)).trans (blk_alloc hk _)
    · rw [List.length_append, List.flatMap_append]
      simpa [uL] using hr3
    · have := hk2.size; omega
  case done =>
    intro D W hD h hdf
    obtain ⟨⟨v, hv, hrow⟩, hB, hS⟩ := id h
    have hs3 := HSZ.out
    have hDX : X + 3 ≤ D := by omega
    have HDF := Sh.mk hdf
    have HV := Sh.mk hv
    have HROW := Sh.mk hrow
    have HBB := Sh.mk hB
    clear h hdf hD hs3 hrow hB
    have hc := hv.cell
    clear hv
    gi_wp2
    refine ⟨by simp, .inl ⟨_, _, rfl, run_takeDeferred HDF.out, ?_⟩⟩
    refine ⟨_, results_tmp rfl _ _ _, v, rfl, ⟨fun _ _ => trivial, _, ownsRow_putObj (HROW.out.mono (show w.heap.size ≤ X + 3 by omega)) _ HDF.out rfl, units_reps _ _ _ _⟩, Below.put HBB.out _ (by omega)⟩
end Go.Proofs.YtbpadakcjnkjeaaDoor
