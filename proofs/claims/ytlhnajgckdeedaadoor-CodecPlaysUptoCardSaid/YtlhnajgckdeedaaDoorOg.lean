/-
A row of bytes that []byte(s) made or an append grew: what it is, a store, an append; caesuralaw1.fill and full. Conditions: the length is within Go's bound.
-/
import Derived.Test.YtlhnajgckdeedaaDoorKx
import Derived.Test.YtlhnajgckdeedaaDoorCopy
import Derived.Test.YtlhnajgckdeedaaDoorWriter3
namespace Go.Proofs.YtlhnajgckdeedaaDoor
open Go Go.RowKit Go.Proofs.YtlhnajgckdeedaaDoorW.PrintWords Go.Proofs.YtlhnajgckdeedaaDoorW.PrintLast Go.Proofs.YtlhnajgckdeedaaDoorW.PrintMore
/-- A row of bytes with room behind it; none of its cells is frozen. -/
structure Og (w : World) (g cap : Nat) (xs : List Int) : Prop where
  blk : ∃ cur fz, w.heap[g]? = some (.cells cur WrB fz) ∧ (∀ j, j < cur.size → ¬ (fz.1 ≤ j ∧ j < fz.2)) ∧ cur.size = cap ∧ cur.toList.take xs.length = xs.map (Value.int .u8)
  le : xs.length ≤ cap
  max : cap ≤ maxLen
theorem Og.kept {w w1 : World} {g cap : Nat} {xs : List Int} (h : Og w g cap xs) (hb : w1.heap[g]? = w.heap[g]?) : Og w1 g cap xs := by
  obtain ⟨cur, fz, h1, h2⟩ := h.blk
  exact ⟨⟨cur, fz, hb.trans h1, h2⟩, h.le, h.max⟩
theorem Og.lt {w : World} {g cap : Nat} {xs : List Int} (h : Og w g cap xs) : g < w.heap.size := by
  obtain ⟨cur, fz, h1, _⟩ := h.blk
  exact blk_lt h1
theorem Og.below {w w1 : World} {g cap : Nat} {xs : List Int} (h : Og w g cap xs) (hb : Below w.heap.size w w1) : Og w1 g cap xs := h.kept (hb.block g h.lt)
theorem Og.ix {w : World} {g cap : Nat} {xs : List Int} (h : Og w g cap xs) (i : Nat) (hi : i < xs.length) : w.cell? ⟨g, i, none⟩ = some (.int .u8 (rd xs i)) ∧ w.frozen? ⟨g, i, none⟩ = false := by
  obtain ⟨cur, fz, h1, h2, h3, h4⟩ := h.blk
  have hle := h.le
  constructor
  · have hc : i < cur.size := by omega
    have e : (cur.toList.take xs.length)[i]? = (xs.map (Value.int .u8))[i]? := by rw [h4]
    rw [List.getElem?_take_of_lt hi, List.getElem?_map, List.getElem?_eq_getElem hi, Array.getElem?_toList] at e
    rw [Lib.cell_of_heap h1]
    simp only [e, Option.map_some]
    simp [rd, List.getD, hi]
  · obtain ⟨lo, hi'⟩ := fz
    have := h2 i (by omega)
    simp only [World.frozen?, h1]
    simpa using this
theorem Og.C {w : World} {g cap : Nat} {xs : List Int} (h : Og w g cap xs) : (Kd.int .u8).C w (some ⟨g, 0, none⟩) xs.length xs := by
  refine Kd.C_of_reads (h1 := fun _ => rfl) (readsInt_of.1 ⟨rfl, by have := h.le; have := h.max; unfold maxLen at *; omega, fun _ => ⟨_, rfl, fun j hj => ?_⟩⟩)
  rw [add_plain, (h.ix j hj).1]
  simp [rd]
theorem Og.set {w : World} {g cap : Nat} {xs : List Int} (h : Og w g cap xs) (i : Nat) (y : Int) : Og (w.setCell ⟨g, i, none⟩ (.int .u8 y)) g cap (xs.set i y) := by
  obtain ⟨cur, fz, h1, h2, h3, h4⟩ := h.blk
  refine ⟨⟨cur.setIfInBounds i (.int .u8 y), fz, ?_, by simpa using h2, by simpa using h3, ?_⟩, by simpa using h.le, h.max⟩
  · rw [setCell_eq_setRow w g i cur _ fz _ h1]
    exact setRow_heap w g cur _ _ _ h1
  · rw [Array.toList_setIfInBounds, List.length_set, List.take_set, h4, List.map_set]
theorem Og.new (W : World) (l : List UInt8) (hl : l.length ≤ maxLen) : Og (Lib.bytesWorld W WrB ⟨l.toArray⟩) W.heap.size (grownCap W l.length 0 WrB) (bytesOf ⟨l.toArray⟩) := by
  have hz : (⟨l.toArray⟩ : ByteArray).size = l.length := by simp [ByteArray.size]
  have hge := grownCap_ge W l.length 0 WrB
  refine ⟨⟨_, _, Lib.bytesWorld_at_new W WrB ⟨l.toArray⟩, fun j hj => by simp; omega, ?_, ?_⟩, by rw [bytesOf_length, hz]; exact hge, grownCap_le_maxLen _ _ _ _ hl⟩
  · simp [Lib.bytesCells, hz]
    omega
  · rw [bytesOf_length, hz]
    simp [Lib.bytesCells, bytesOf]
theorem hat_of_append {P : Program} {t e : TypeId} {i : TypeInfo} {z : Value} {ty : TypeId} (ht : P.underlying t = some (.slice e)) (hi : P.info? e = some i) (hz : i.zero = some z) (hzs : z.cells.size = 1) (hsize : i.size = 1) (hby : i.bytes = 1) (he : e = WrB)
    {w : World} {g cap : Nat} {xs : List Int} (h : Og w g cap xs) (ad : Addr) (c : Nat) (y : Int) (hx : w.cell? ad = some (.int .u8 y)) (hl : xs.length + 1 ≤ 140737488355328) :
    ∃ g2 cap2 w2, (Builtin.append_ #[t, t] ty #[.slice (some ⟨g, 0, none⟩) xs.length cap, .slice (some ad) 1 c]).run P w = .ok (.slice (some ⟨g2, 0, none⟩) (xs.length + 1) cap2) w2 ∧ Og w2 g2 cap2 (xs ++ [y]) ∧ w.grownBy w2 (some g) ∧ (g2 = g ∨ w.heap.size ≤ g2) := by
  subst he
  have hnews : ∀ j u, [Value.int .u8 y][j]? = some u → w.cell? (ad.add j) = some u := by
    intro j u hj
    match j, hj with
    | 0, hj => simp at hj; subst hj; simpa [Addr.add] using hx
  obtain ⟨cur, fz, h1, h2, h3, h4⟩ := h.blk
  have hle := h.le
  by_cases hroom : xs.length + 1 ≤ cap
  · have hf := run_firstCells_some (P := P) w i.size 1 ad 1 c [.int .u8 y] (by rw [hsize]; rfl) hnews
    have hlt : xs.length < cur.size := by omega
    have hst : (storeCells (⟨g, xs.length, none⟩ : Addr) [.int .u8 y] 0).run P w = .ok () (w.setCell ⟨g, xs.length, none⟩ (.int .u8 y)) := by
      have hfro : w.frozen? ⟨g, xs.length, none⟩ = false := by
        obtain ⟨lo, hi'⟩ := fz
        have := h2 xs.length hlt
        simp only [World.frozen?, h1]
        simpa using this
      have hcell : w.cell? ⟨g, xs.length, none⟩ = some cur[xs.length] := by simp [World.cell?, h1, hlt]
      have hadd : (⟨g, xs.length, none⟩ : Addr).add 0 = ⟨g, xs.length, none⟩ := by unfold Addr.add; split <;> simp_all
      have : (store ((⟨g, xs.length, none⟩ : Addr).add 0) (.int .u8 y)).run P w = .ok () (w.setCell ⟨g, xs.length, none⟩ (.int .u8 y)) := by
        rw [hadd, run_store P w _ _ _ rfl, hcell]
        simp [hfro]
      simp only [storeCells, Sem.run_bind, this, Result.andThen_ok]
      rfl
    refine ⟨g, cap, w.setCell ⟨g, xs.length, none⟩ (.int .u8 y), ?_, ?_, ⟨rfl, rfl, rfl, by simp [World.setCell], fun k _ hk => Below.heap_setCell _ _ _ _ (fun e => hk (by simp [e]))⟩, .inl rfl⟩
    · rw [hsize] at hf
      simp [Builtin.append_, run_underlying ht, sizeOf, typeInfo, hi, hsize, Builtin.lenOf, hroom, hf, Addr.add_lit, hst]
    · refine ⟨⟨cur.setIfInBounds xs.length (.int .u8 y), fz, ?_, by simpa using h2, by simpa using h3, ?_⟩, by simpa using hroom, h.max⟩
      · rw [setCell_eq_setRow w g _ cur _ fz _ h1]
        exact setRow_heap w g cur _ _ _ h1
      · rw [Array.toList_setIfInBounds, List.length_append, List.map_append]
        show List.take (xs.length + 1) _ = _
        rw [List.take_succ_eq_append_getElem (by simp; omega), List.take_set_of_le (Nat.le_refl _), h4]
        simp
  · have holds : ∀ j u, (xs.map (Value.int .u8))[j]? = some u → w.cell? ((⟨g, 0, none⟩ : Addr).add j) = some u := by
      intro j u hj
      have hj2 : j < xs.length := by simpa using (List.getElem?_eq_some_iff.1 hj).1
      rw [add_plain, (h.ix j hj2).1, ← hj]
      simp [rd, List.getD, hj2]
    have hr := run_append_grow (P := P) w t ty WrB i z ht hi hz ⟨g, 0, none⟩ xs.length cap (xs.map (Value.int .u8)) (by rw [hsize]; simp) holds ad 1 c [.int .u8 y] (by rw [hsize]; rfl) hnews (by omega) (by omega) (by rw [hby]; exact growslice_fits (by omega) (by omega))
    have hge := grownCap_ge w (xs.length + 1) cap WrB
    have hcm2 : grownCap w (xs.length + 1) cap WrB ≤ maxLen := grownCap_le_maxLen w (xs.length + 1) cap WrB (by unfold maxLen; omega)
    refine ⟨_, _, _, hr, ⟨⟨_, _, heap_alloc_new w.drew _, fun j _ => by simp, ?_, ?_⟩, by simpa using hge, hcm2⟩, ⟨rfl, rfl, rfl, by simp, fun k hk _ => heap_alloc_old w.drew _ hk⟩, .inr (Nat.le_refl _)⟩
    · simp only [Array.size_append, List.size_toArray, size_zeroCells, hzs, List.length_map, List.length_singleton]
      omega
    · simp only [Array.toList_append, List.length_append, List.length_singleton, List.map_append, List.append_assoc]
      rw [show xs.length + 1 = ((xs.map (Value.int .u8)) ++ [Value.int .u8 y]).length by simp, ← List.append_assoc]
      exact List.take_left
section
variable {P : Program} {ops : Array Oper} {rest : List Oper} {o : Oper} {a : Act} {Q : Exit → Act → World → Prop} {W : World}
theorem app_og (hgd : o.guard = none) (s x : Operand) (t : TypeId) (ho : o.op = .call { callee := .builtin .append, args := #[s, x], argTypes := #[t, t] }) (ht : P.underlying t = some (.slice WrB)) (hinfo : (P.info? WrB).map (fun i => (i.zero, i.size, i.bytes)) = some (some (.int .u8 0), 1, 1))
    {g cap : Nat} {xs : List Int} (y : Int) (n : Nat) (hn : xs.length = n) (hs : a.eval s = .slice (some ⟨g, 0, none⟩) n cap) (hx : a.eval x = .slice (some ⟨W.heap.size, 0, none⟩) 1 1) (h : Og W g cap xs) (hl : n + 1 ≤ 140737488355328)
    (hk : ∀ g2 cap2 w2, Sh (Og w2 g2 cap2 (xs ++ [y])) → Sh (W.grownBy w2 (some g)) → Sh (g2 = g ∨ W.heap.size ≤ g2) → wpList P ops Q rest (a.put o.dst (.slice (some ⟨g2, 0, none⟩) (n + 1) cap2)) w2) : wpList P ops Q (o :: rest) a (W.alloc (.cells #[.int .u8 y] WrB)) := by
  subst hn
  obtain ⟨i0, hi, hzz⟩ := Option.map_eq_some_iff.1 hinfo
  simp only [Prod.mk.injEq] at hzz
  obtain ⟨hz0, hz1, hz2⟩ := hzz
  refine wpList_plain hgd fun K hK => ?_
  have hb : Below W.heap.size W (W.alloc (.cells #[.int .u8 y] WrB)) := below_alloc (Below.refl _ _) _
  obtain ⟨g2, cap2, w2, hr, h2, h3, h4⟩ := hat_of_append (P := P) (ty := o.type) ht hi hz0 rfl hz1 hz2 rfl (h.below hb) ⟨W.heap.size, 0, none⟩ 1 y (by rw [Lib.cell_of_heap (blk_new _ _)]; rfl) hl
  unfold Oper.wp execOp
  simp only [ho, resolve, invoke, builtin, Sem.run_bind, Sem.run_pure, Result.andThen_ok, List.map_toArray, List.map_cons, List.map_nil, hs, hx, hr]
  refine hK _ _ (hk g2 cap2 w2 ⟨h2⟩ ⟨⟨h3.os, h3.tape, h3.output, Nat.le_trans (by simp) h3.size, fun k hk' hr' => (h3.block k (by simp; omega) hr').trans (Lib.alloc_old W _ k hk')⟩⟩ ⟨?_⟩)
  rcases h4 with h4 | h4
  · exact .inl h4
  · exact .inr (by simp at h4; omega)
end
set_option maxHeartbeats 1000000 in
set_option maxRecDepth 100000 in
theorem wbytes_og (b : Nat) (v : Value) (l : List UInt8) (w : World) (h : Wr w 0 b v l) (hl : l.length ≤ 140737488355328) :
    Calls Tryd.prog 27 #[.pointer (some ⟨b, 0, none⟩)] w fun e w' => (∃ g c, e = .returned (.slice (some ⟨g, 0, none⟩) l.length c) ∧ w.heap.size ≤ g ∧ Og w' g c (bytesOf ⟨l.toArray⟩)) ∧ Wr w' 0 b v l ∧ w.grownBy w' v.ownBlock := by
  have hsz : (⟨l.toArray⟩ : ByteArray).size = l.length := by simp [ByteArray.size]
  have kb := fun W => print_bytes (P := Tryd.prog) 9 28 5 Tryd.underlying9 Tryd.underlying28 Tryd.underlying5 ⟨l.toArray⟩ W
  have HZ := Sh.mk hsz
  clear hsz
  go_enter Tryd.func27, Tryd.ntmps27
  go_wp2_with (go_at_call 37; refine (string_any 0 b v l w h).mono ?_; rintro e w1 ⟨rfl, hw1, hg1⟩)
  have HW := Sh.mk hw1
  have HG := Sh.mk hg1
  clear hw1 hg1
  go_wp2
  go_ret
  refine ⟨⟨w1.heap.size, grownCap w1 l.length 0 5, rfl, HG.out.size, Og.new w1 l (by unfold maxLen; omega)⟩, HW.out.below (bytes_below (Below.refl _ _) (Nat.le_refl _) _ _), grown_bytes _ _ _ _ HG.out⟩
/-- A list written full up to a place. -/
def fulls (m : Int) (i : Nat) (xs : List Int) : List Int := List.replicate i m ++ xs.drop i
theorem fulls_len (m : Int) (i : Nat) (xs : List Int) (h : i ≤ xs.length) : (fulls m i xs).length = xs.length := by simp [fulls]; omega
theorem fulls_set (m : Int) (i : Nat) (xs : List Int) (h : i < xs.length) : (fulls m i xs).set i m = fulls m (i + 1) xs := by
  unfold fulls
  rw [List.set_append_right _ _ (by simp), List.length_replicate, Nat.sub_self, List.drop_eq_getElem_cons h, List.set_cons_zero, List.replicate_succ', List.append_assoc]
  rfl
set_option maxHeartbeats 1000000 in
set_option maxRecDepth 100000 in
theorem fill_any (g cap n : Nat) (xs : List Int) (m : Int) (w : World) (h : Og w g cap xs) (hn : xs.length = n) (hl : n + 64 ≤ 140737488355328) :
    Calls Tryd.prog 48 #[.slice (some ⟨g, 0, none⟩) n cap, .int .u8 m] w fun e w' => (∃ g2 cap2, e = .returned (.slice (some ⟨g2, 0, none⟩) (n + 64) cap2) ∧ Og w' g2 cap2 (List.replicate (n + 64) m) ∧ (g2 = g ∨ w.heap.size ≤ g2)) ∧ w.grownBy w' (some g) := by
  have hnn := Sh.mk hn
  clear hn
  go_enter Tryd.func48, Tryd.ntmps48
  go_wp2
  go_loopw [5] (fun i wr => ∃ k : Nat, k ≤ n ∧ i = .int .i64 k ∧ Sh (Og wr g cap (fulls m k xs)) ∧ Sh (w.grownBy wr (some g))) (fun i _ => n - (intOf i).toNat)
  case atStart => exact ⟨0, by omega, rfl, ⟨h⟩, ⟨⟨rfl, rfl, rfl, Nat.le_refl _, fun _ _ _ => rfl⟩⟩⟩
  case round =>
    obtain ⟨k, hk, rfl, HO, HG⟩ := hrel
    by_cases hlt : k < n
    · obtain ⟨hx, hf⟩ := HO.out.ix k (by rw [fulls_len _ _ _ (by rw [hnn.out]; omega), hnn.out]; exact hlt)
      go_wp2
      go_roundw
      case rel => exact ⟨k + 1, by omega, by go_num, ⟨by rw [← fulls_set _ _ _ (by rw [hnn.out]; exact hlt)]; exact HO.out.set k m⟩, ⟨HG.out.trans ⟨rfl, rfl, rfl, by simp [World.setCell], fun j _ hj => Below.heap_setCell _ _ _ _ (fun e => hj (by simp [e]))⟩⟩⟩
      case measure => simp [intOf]; omega
    · obtain rfl : k = n := by omega
      have e : fulls m k xs = List.replicate k m := by unfold fulls; rw [List.drop_eq_nil_of_le (by rw [hnn.out]; omega), List.append_nil]
      rw [e] at HO
      go_wp2
      go_loopw [0, 6] (fun v i wr => ∃ (j g2 cap2 : Nat), j ≤ 64 ∧ i = .int .i64 j ∧ v = .slice (some ⟨g2, 0, none⟩) (k + j) cap2 ∧ Sh (Og wr g2 cap2 (List.replicate (k + j) m)) ∧ Sh (w.grownBy wr (some g)) ∧ Sh (g2 = g ∨ w.heap.size ≤ g2)) (fun _ i _ => 64 - (intOf i).toNat)
      case atStart => exact ⟨0, g, cap, by omega, rfl, rfl, HO, HG, ⟨.inl rfl⟩⟩
      case round =>
        obtain ⟨j, g2, cap2, hj, rfl, rfl, HO, HG, HH⟩ := hrel
        by_cases hlt : j < 64
        · go_wp2_with (first | ((with_reducible refine gate_builtin (b := .append) (xs := #[.tmp 21, .tmp 23]) rfl ?_); refine app_og rfl (.tmp 21) (.tmp 23) 28 rfl Tryd.underlying28 info_u8 m (k + j) (by simp) rfl rfl HO.out (by omega) ?_; intro g3 cap3 w3 HO3 HG3 HH3))
          go_roundw
          case rel =>
            refine ⟨j + 1, g3, cap3, by omega, by go_num, rfl, ⟨by rw [show k + (j + 1) = k + j + 1 by omega, List.replicate_succ']; exact HO3.out⟩, ⟨?_⟩, ⟨?_⟩⟩
            · refine ⟨HG3.out.os.trans HG.out.os, HG3.out.tape.trans HG.out.tape, HG3.out.output.trans HG.out.output, Nat.le_trans HG.out.size HG3.out.size, fun i hi hir => (HG3.out.block i (by have := HG.out.size; omega) ?_).trans (HG.out.block i hi hir)⟩
              rcases HH.out with rfl | hb
              · exact hir
              · intro e
                have := Option.some.inj e
                omega
            · rcases HH3.out with rfl | hb
              · exact HH.out
              · exact .inr (Nat.le_trans HG.out.size hb)
          case measure => simp [intOf]; omega
        · obtain rfl : j = 64 := by omega
          go_wp2
          go_ret
          exact ⟨⟨g2, cap2, rfl, HO.out, HH.out⟩, HG.out⟩
set_option maxHeartbeats 1000000 in
set_option maxRecDepth 100000 in
theorem full_any (A : Option Addr) (c n : Nat) (m : Int) (w : World) (hr : (Kd.int .u8).C w A n (List.replicate n m)) :
    Calls Tryd.prog 49 #[.slice A n c, .int .u8 m] w fun e w' => e = .returned (.bool true) ∧ w = w' := by
  have HR := Sh.mk hr
  have hl := C_len hr
  clear hr
  go_enter Tryd.func49, Tryd.ntmps49
  go_wp2
  go_loop [5] (fun i => ∃ k : Nat, k ≤ n ∧ i = .int .i64 k) (fun i => n - (intOf i).toNat)
  case atStart => exact ⟨0, by omega, rfl⟩
  case round =>
    obtain ⟨k, hk, rfl⟩ := hrel
    by_cases hlt : k < n
    · obtain ⟨ad, e1, hx⟩ := C_at HR.out k hlt
      cases e1
      have e : rd (List.replicate n m) k = m := by simp [rd, List.getD, hlt]
      rw [e] at hx
      go_wp2
      go_round
      case rel => exact ⟨k + 1, by omega, by go_num⟩
      case measure => simp [intOf]; omega
    · obtain rfl : k = n := by omega
      go_wp2
      go_ret
      exact ⟨rfl, rfl⟩
end Go.Proofs.YtlhnajgckdeedaaDoor
