/-
strings.Builder's WriteByte, WriteString and String inside a codec.Writer. Conditions: the length is within Go's bound.
-/
import Derived.Test.YtlhnajgckdeedaaDoorWriter
namespace Go.Proofs.YtlhnajgckdeedaaDoor
open Go Go.RowKit Go.Proofs.YtlhnajgckdeedaaDoorW.PrintWords Go.Proofs.YtlhnajgckdeedaaDoorW.PrintLast Go.Proofs.YtlhnajgckdeedaaDoorW.PrintMore
theorem byteCells_one (c : UInt8) : Lib.byteCells [c] = [.int .u8 (c.toNat : Int)] := rfl
set_option maxHeartbeats 2000000 in
set_option maxRecDepth 100000 in
theorem writeByte_any (B b : Nat) (v : Value) (l : List UInt8) (c : UInt8) (w : World) (h : Wr w B b v l) (hlen : l.length + 1 ≤ 140737488355328) (hB : B ≤ w.heap.size) :
    Calls Tryd.prog 36 #[.pointer (some ⟨b, 0, none⟩), .int .u8 (c.toNat : Int)] w fun e w' => e = .returned .nilIface ∧ ∃ v', Wr w' B b v' (l ++ [c]) ∧ Fx B b w w' := by
  obtain ⟨i0, hi, hzz⟩ := Option.map_eq_some_iff.1 info_u8
  simp only [Prod.mk.injEq] at hzz
  obtain ⟨hz0, hz1, hz2⟩ := hzz
  have Hi := Sh.mk hi
  have H0 := Sh.mk hz0
  have H1 := Sh.mk hz1
  have H2 := Sh.mk hz2
  clear hi hz0 hz1 hz2
  go_enter Tryd.func36, Tryd.ntmps36
  go_wp2_with (go_at_call 45; refine (copyCheck_any B b v l _ h).mono ?_)
  rintro e w1 ⟨rfl, hbk, hown, hf, hsz⟩
  have c0 : w1.cell? ⟨b, 0, none⟩ = some (.pointer (some ⟨b, 0, none⟩)) := by rw [Lib.cell_of_heap hbk]; rfl
  have c1 : w1.cell? ⟨b, 1, none⟩ = some v := by rw [Lib.cell_of_heap hbk]; rfl
  have HB1 := Sh.mk hbk
  have HS := Sh.mk hsz
  clear hbk hsz
  go_wp2_with (at_builtin; refine wpList_append_ownF _ rfl _ _ 28 rfl B WrB i0 (.int .u8 0) 1 1 Tryd.underlying28 Hi.out H0.out H1.out H2.out rfl (by decide) _ _ _ rfl (hown.alloc _) ⟨w1.heap.size, 0, none⟩ 1 1 [.int .u8 (c.toNat : Int)] rfl rfl ?c1 ?c2 ?c3 ?c4 ?c5 ?_)
  case c1 =>
    intro j u hj
    match j, hj with
    | 0, hj => simp at hj; subst hj; simp [Addr.add]
  case c2 => intro u hu; simp at hu; subst hu; rfl
  case c3 => unfold maxLen; omega
  case c4 => omega
  case c5 => have := HS.out; simp; omega
  intro v' w2 hown' hgrow hnil
  have hlt : b < w1.heap.size := (Array.getElem?_eq_some_iff.1 HB1.out).1
  have hne := Lib.ownBlock_neF hown HB1.out wr_ne
  have hb2 : w2.heap[b]? = some (.cells #[.pointer (some ⟨b, 0, none⟩), v] WrT (0, 0)) := by
    rw [hgrow.block b (by simp; omega) (fun e => hne e.symm), Lib.alloc_old w1 _ b hlt]
    exact HB1.out
  have d0 : w2.cell? ⟨b, 0, none⟩ = some (.pointer (some ⟨b, 0, none⟩)) := by rw [Lib.cell_of_heap hb2]; rfl
  have d1 : w2.cell? ⟨b, 1, none⟩ = some v := by rw [Lib.cell_of_heap hb2]; rfl
  have f1 : w2.frozen? ⟨b, 1, none⟩ = false := Lib.frozen_of_heap hb2 1
  have HB2 := Sh.mk hb2
  have HN := Sh.mk hnil
  clear hb2 hnil
  obtain ⟨g, cap, rfl⟩ : ∃ g cap, v' = .slice (some ⟨g, 0, none⟩) (l.length + 1) cap := by
    rcases hown'.2 with ⟨_, h0⟩ | ⟨g, cap, cur, fz, hv, _⟩
    · omega
    · exact ⟨g, cap, hv⟩
  have hfin : Fx B b w w2 := (hf.alloc (by rw [HS.out]; exact hB) _).grown (by have := HS.out; simp; omega) hgrow (fun k hk => (hown.lt k hk).1)
  have HF := Sh.mk hfin
  have HO := Sh.mk hown'
  clear hfin hown' hgrow hf hown
  go_wp2
  go_ret
  have hne2 := Lib.ownBlock_neF HO.out HB2.out wr_ne
  refine ⟨rfl, .slice (some ⟨g, 0, none⟩) (l.length + 1) cap, ⟨⟨_, .inr rfl, ?_⟩, ?_, fun h => by simp at h⟩, HF.out.set (p := ⟨b, 1, none⟩) rfl _⟩
  · simp [World.setCell, Array.getElem?_modify, HB2.out]
  · have := HO.out.kept (w' := w2.setCell ⟨b, 1, none⟩ (.slice (some ⟨g, 0, none⟩) (l.length + 1) cap)) (row := some b) ⟨rfl, rfl, rfl, by simp [World.setCell], fun k _ hk => Below.heap_setCell _ _ _ _ (fun e => hk (by simp [e]))⟩ (Or.inr hne2)
    rw [Lib.byteCells_append, List.length_append, byteCells_one]
    exact this
theorem writeByte_of (B b : Nat) (v : Value) (l : List UInt8) (c : UInt8) (x : Int) (w : World) (hx : x = (c.toNat : Int)) (h : Wr w B b v l) (hlen : l.length + 1 ≤ 140737488355328) (hB : B ≤ w.heap.size) :
    Calls Tryd.prog 36 #[.pointer (some ⟨b, 0, none⟩), .int .u8 x] w fun e w' => e = .returned .nilIface ∧ ∃ v', Wr w' B b v' (l ++ [c]) ∧ Fx B b w w' := by
  subst hx
  exact writeByte_any B b v l c w h hlen hB
set_option maxHeartbeats 2000000 in
set_option maxRecDepth 100000 in
theorem writeString_any (B b : Nat) (v : Value) (l : List UInt8) (s : ByteArray) (w : World) (h : Wr w B b v l) (hlen : l.length + s.size ≤ 140737488355328) (hB : B ≤ w.heap.size) :
    Calls Tryd.prog 44 #[.pointer (some ⟨b, 0, none⟩), .string s] w fun e w' => e = .returned (.tuple #[.int .i64 s.size, .nilIface]) ∧ ∃ v', Wr w' B b v' (l ++ s.data.toList) ∧ Fx B b w w' := by
  obtain ⟨i0, hi, hzz⟩ := Option.map_eq_some_iff.1 info_u8
  simp only [Prod.mk.injEq] at hzz
  obtain ⟨hz0, hz1, hz2⟩ := hzz
  have Hi := Sh.mk hi
  have H0 := Sh.mk hz0
  have H1 := Sh.mk hz1
  have H2 := Sh.mk hz2
  clear hi hz0 hz1 hz2
  go_enter Tryd.func44, Tryd.ntmps44
  go_wp2_with (go_at_call 45; refine (copyCheck_any B b v l _ h).mono ?_)
  rintro e w1 ⟨rfl, hbk, hown, hf, hsz⟩
  have c0 : w1.cell? ⟨b, 0, none⟩ = some (.pointer (some ⟨b, 0, none⟩)) := by rw [Lib.cell_of_heap hbk]; rfl
  have c1 : w1.cell? ⟨b, 1, none⟩ = some v := by rw [Lib.cell_of_heap hbk]; rfl
  have HB1 := Sh.mk hbk
  have HS := Sh.mk hsz
  clear hbk hsz
  go_wp2_with (at_builtin; refine Lib.wpList_append_own_stringF _ rfl _ _ 28 9 rfl B WrB i0 Tryd.underlying28 Tryd.underlying9 Hi.out H0.out H1.out H2.out _ _ _ rfl hown s rfl ?c3 ?c4 ?c5 ?_)
  case c3 => unfold maxLen; omega
  case c4 => omega
  case c5 => have := HS.out; omega
  intro v' w2 hown' hgrow hnil
  have hlt : b < w1.heap.size := (Array.getElem?_eq_some_iff.1 HB1.out).1
  have hne := Lib.ownBlock_neF hown HB1.out wr_ne
  have hb2 : w2.heap[b]? = some (.cells #[.pointer (some ⟨b, 0, none⟩), v] WrT (0, 0)) := by
    rw [hgrow.block b hlt (fun e => hne e.symm)]
    exact HB1.out
  have d0 : w2.cell? ⟨b, 0, none⟩ = some (.pointer (some ⟨b, 0, none⟩)) := by rw [Lib.cell_of_heap hb2]; rfl
  have d1 : w2.cell? ⟨b, 1, none⟩ = some v := by rw [Lib.cell_of_heap hb2]; rfl
  have f1 : w2.frozen? ⟨b, 1, none⟩ = false := Lib.frozen_of_heap hb2 1
  have HB2 := Sh.mk hb2
  have HN := Sh.mk hnil
  clear hb2 hnil
  have HV := Sh.mk h.nil
  have hsh : ∃ A n c, v' = .slice A n c := by
    rcases hown'.2 with ⟨hv, _⟩ | ⟨g, cap, cur, fz, hv, _⟩
    · exact ⟨_, _, _, hv⟩
    · exact ⟨_, _, _, hv⟩
  obtain ⟨A', n', c', rfl⟩ := hsh
  have hfin : Fx B b w w2 := hf.grown (by have := HS.out; omega) hgrow (fun k hk => (hown.lt k hk).1)
  have HF := Sh.mk hfin
  have HO := Sh.mk hown'
  clear hfin hown' hgrow hf hown
  go_wp2
  go_ret2
  have hne2 := Lib.ownBlock_neF HO.out HB2.out wr_ne
  refine ⟨rfl, .slice A' n' c', ⟨⟨_, .inr rfl, ?_⟩, ?_, fun h => ?_⟩, HF.out.set (p := ⟨b, 1, none⟩) rfl _⟩
  · simp [World.setCell, Array.getElem?_modify, HB2.out]
  · have := HO.out.kept (w' := w2.setCell ⟨b, 1, none⟩ (.slice A' n' c')) (row := some b) ⟨rfl, rfl, rfl, by simp [World.setCell], fun k _ hk => Below.heap_setCell _ _ _ _ (fun e => hk (by simp [e]))⟩ (Or.inr hne2)
    rw [Lib.byteCells_append, List.length_append, data_length, ← Lib.strCells_eq]
    exact this
  · have e1 : l = [] := (List.append_eq_nil_iff.1 h).1
    have e2 := (List.append_eq_nil_iff.1 h).2
    exact HN.out.2 ⟨HV.out e1, by cases s with | mk d => simp only [Array.toList_eq_nil_iff] at e2; subst e2; rfl⟩
set_option maxHeartbeats 1000000 in
set_option maxRecDepth 100000 in
theorem string_any (B b : Nat) (v : Value) (l : List UInt8) (w : World) (h : Wr w B b v l) :
    Calls Tryd.prog 37 #[.pointer (some ⟨b, 0, none⟩)] w fun e w' => e = .returned (.string ⟨l.toArray⟩) ∧ Wr w' B b v l ∧ w.grownBy w' v.ownBlock := by
  obtain ⟨p, hp, hbk⟩ := h.blk
  by_cases h0 : l = []
  · subst h0
    obtain rfl := h.nil rfl
    have hUS : ∀ W : World, (Builtin.unsafeString_ #[95, 3] 9 #[.pointer none, .int .i64 0]).run Tryd.prog W = .ok (.string .empty) W := fun W => Lib.run_unsafeString_none W _ _ _ none
    have c1 : w.drew.cell? ⟨b, 1, none⟩ = some (.slice none 0 0) := by
      have : w.drew.heap[b]? = some (.cells #[p, .slice none 0 0] WrT (0, 0)) := hbk
      rw [Lib.cell_of_heap this]; rfl
    have hSD : (Builtin.unsafeSliceData_ #[28] 95 #[.slice none 0 0]).run Tryd.prog w.drew = .ok (.pointer none) w.drew := rfl
    have HB := Sh.mk hbk
    clear hbk
    go_enter Tryd.func37, Tryd.ntmps37
    go_wp2
    go_region
    all_goals (go_wp2; go_ret; exact ⟨rfl, h.kept rfl (fun _ _ => rfl), ⟨rfl, rfl, rfl, Nat.le_refl _, fun _ _ _ => rfl⟩⟩)
  · have hl0 : l.length ≠ 0 := by simpa using h0
    obtain ⟨g, cap, cur, fz, rfl, hbg, hg, hfz, hnc, hcm, hcs, htake⟩ : ∃ g cap cur fz, v = .slice (some ⟨g, 0, none⟩) l.length cap ∧ B ≤ g ∧ w.heap[g]? = some (.cells cur WrB fz) ∧ fz.2 ≤ l.length * 1 ∧ l.length ≤ cap ∧ cap ≤ maxLen ∧ cur.size = cap * 1 ∧ cur.toList.take (l.length * 1) = Lib.byteCells l := by
      rcases h.own.2 with ⟨_, hz⟩ | ⟨g, cap, cur, fz, hv, r⟩
      · exact absurd hz hl0
      · exact ⟨g, cap, cur, fz, hv, r⟩
    have c1 : w.drew.cell? ⟨b, 1, none⟩ = some (.slice (some ⟨g, 0, none⟩) l.length cap) := by
      have : w.drew.heap[b]? = some (.cells #[p, .slice (some ⟨g, 0, none⟩) l.length cap] WrT (0, 0)) := hbk
      rw [Lib.cell_of_heap this]; rfl
    have hSD : (Builtin.unsafeSliceData_ #[28] 95 #[.slice (some ⟨g, 0, none⟩) l.length cap]).run Tryd.prog w.drew = .ok (.pointer (some ⟨g, 0, none⟩)) w.drew :=
      Lib.run_unsafeSliceData_row _ _ _ _ _ _ (by omega)
    have hUS : (Builtin.unsafeString_ #[95, 3] 9 #[.pointer (some ⟨g, 0, none⟩), .int .i64 l.length]).run Tryd.prog w.drew = .ok (.string ⟨l.toArray⟩) (w.drew.freeze ⟨g, 0, none⟩ l.length) := by
      refine Lib.run_unsafeString_row w.drew 95 3 9 WrB Tryd.underlying95 wr_cells g cur.size (by have hg' : w.drew.heap[g]? = some (.cells cur WrB fz) := hg; simp [World.shape?, hg']) l h0 (by omega) (by unfold maxLen at hcm; omega) ?_
      intro j x hx
      have := h.own.cells (g := g) rfl j (.int .u8 x.toNat) (by simp [Lib.byteCells, hx])
      exact this
    have hgb : g ≠ b := fun e => h.ne (by simp [Value.ownBlock, e])
    have hkeep : Wr (w.drew.freeze ⟨g, 0, none⟩ l.length) B b (.slice (some ⟨g, 0, none⟩) l.length cap) l := by
      unfold World.freeze
      split
      · exact h.kept rfl (fun _ _ => rfl)
      · refine ⟨⟨p, hp, ?_⟩, ⟨h.own.1, ?_⟩, h.nil⟩
        · simp only [Array.getElem?_modify]
          rw [if_neg hgb]
          exact hbk
        · obtain ⟨lo, hi⟩ := fz
          refine .inr ⟨g, _, cur, (if lo == hi then (0, 0 + l.length) else (min lo 0, max hi (0 + l.length))), rfl, hbg, ?_, ?_, hnc, hcm, hcs, htake⟩
          · have hg' : w.drew.heap[g]? = some (.cells cur WrB (lo, hi)) := hg
            simp [Array.getElem?_modify, hg']
          · simp only at hfz
            split <;> simp <;> omega
    have hgr : w.grownBy (w.drew.freeze ⟨g, 0, none⟩ l.length) (some g) := by
      unfold World.freeze
      split
      · exact ⟨rfl, rfl, rfl, Nat.le_refl _, fun _ _ _ => rfl⟩
      · exact ⟨rfl, rfl, rfl, by simp, fun k _ hk => by
          simp only [Array.getElem?_modify]
          rw [if_neg (fun e => hk (by rw [← e]))]; rfl⟩
    have HK := Sh.mk hkeep
    have HG := Sh.mk hgr
    clear hkeep hgr hbk hg hfz hnc hcm hcs htake h h0 hl0 hgb
    go_enter Tryd.func37, Tryd.ntmps37
    go_wp2
    go_region
    all_goals (go_wp2; go_ret; exact ⟨rfl, HK.out, HG.out⟩)
end Go.Proofs.YtlhnajgckdeedaaDoor
