/-
codec.Writer's calls once more, with what they keep told block by block: WriteByte, WriteString, Num, Text. Conditions: the length is within Go's bound.
-/
import Derived.Test.YtlhnajgckdeedaaDoorKx
import Derived.Test.YtlhnajgckdeedaaDoorWriter3
namespace Go.Proofs.YtlhnajgckdeedaaDoor
open Go Go.RowKit Go.Proofs.YtlhnajgckdeedaaDoorW.PrintWords Go.Proofs.YtlhnajgckdeedaaDoorW.PrintLast Go.Proofs.YtlhnajgckdeedaaDoorW.PrintMore
section
variable {P : Program} {ops : Array Oper} {rest : List Oper} {o : Oper} {a : Act} {Q : Exit → Act → World → Prop} {w : World}
theorem app_cellsF (hgd : o.guard = none) (s x : Operand) (t : TypeId) (ho : o.op = .call { callee := .builtin .append, args := #[s, x], argTypes := #[t, t] })
    (base : Nat) (e : TypeId) (i : TypeInfo) (z : Value) (size bytes : Nat) (ht : P.underlying t = some (.slice e)) (hi : P.info? e = some i) (hz : i.zero = some z)
    (hsize : i.size = size) (hby : i.bytes = bytes) (hzs : z.cells.size = size) (hsz : 0 < size) (v : Value) (n : Nat) (xs : List Value) (hs : a.eval s = v) (hown : w.ownsRowF base e size v n xs)
    (ad : Addr) (m c : Nat) (news : List Value) (hx : a.eval x = .slice (some ad) m c) (hl : news.length = m * size) (hnews : ∀ j u, news[j]? = some u → w.cell? (ad.add j) = some u) (h1 : ∀ u ∈ news, u.oneCell' = true)
    (h63 : n + m ≤ maxLen) (hbytes : (n + m) * bytes ≤ 140737488355328) (hbase : base ≤ w.heap.size)
    (h : ∀ v' w', w'.ownsRowF base e size v' (n + m) (xs ++ news) → w.grownBy w' v.ownBlock → Hat w v.ownBlock v'.ownBlock → wpList P ops Q rest (a.put o.dst v') w') : wpList P ops Q (o :: rest) a w := by
  refine wpList_plain hgd fun K hK => ?_
  obtain ⟨v', w', hr, h2, h3, _⟩ := run_append_ownF (P := P) w base t o.type e i z size bytes ht hi hz hsize hby hzs hsz v n xs hown ad m c news hl hnews h1 h63 hbytes hbase
  have hat := hat_cells ht hi hz hsize hby hzs hsz hown hl hnews h1 h63 hbytes hbase hr
  unfold Oper.wp execOp
  simp only [ho, resolve, invoke, builtin, Sem.run_bind, Sem.run_pure, Result.andThen_ok, List.map_toArray, List.map_cons, List.map_nil, hs, hx, hr]
  exact hK _ _ (h v' w' h2 h3 hat)
theorem app_strF (hgd : o.guard = none) (s x : Operand) (t u : TypeId) (ho : o.op = .call { callee := .builtin .append, args := #[s, x], argTypes := #[t, u] })
    (base : Nat) (e : TypeId) (i : TypeInfo) (ht : P.underlying t = some (.slice e)) (hu : P.underlying u = some .string) (hi : P.info? e = some i) (hz : i.zero = some (.int .u8 0))
    (hsize : i.size = 1) (hby : i.bytes = 1) (v : Value) (n : Nat) (xs : List Value) (hs : a.eval s = v) (hown : w.ownsRowF base e 1 v n xs) (y : ByteArray) (hx : a.eval x = .string y)
    (h63 : n + y.size ≤ maxLen) (hbytes : n + y.size ≤ 140737488355328) (hbase : base ≤ w.heap.size) (hv : v ≠ .slice none 0 0)
    (h : ∀ v' w', w'.ownsRowF base e 1 v' (n + y.size) (xs ++ Lib.strCells y) → w.grownBy w' v.ownBlock → Hat w v.ownBlock v'.ownBlock → wpList P ops Q rest (a.put o.dst v') w') : wpList P ops Q (o :: rest) a w := by
  refine wpList_plain hgd fun K hK => ?_
  obtain ⟨v', w', hr, h2, h3, _⟩ := Lib.run_append_own_stringF (P := P) w base t u o.type e i ht hu hi hz hsize hby v n xs hown y h63 hbytes hbase
  have hat := hat_str ht hu hi hz hsize hby hown h63 hbytes (fun _ _ => trivial) hr hv
  unfold Oper.wp execOp
  simp only [ho, resolve, invoke, builtin, Sem.run_bind, Sem.run_pure, Result.andThen_ok, List.map_toArray, List.map_cons, List.map_nil, hs, hx, hr]
  exact hK _ _ (h v' w' h2 h3 hat)
end
theorem Wr.keptX {w w1 : World} {B b b2 : Nat} {r : Option Nat} {v : Value} {l : List UInt8} (h : Wr w B b v l) (k : Kx b2 r w w1) (h1 : b ≠ b2) (h2 : some b ≠ r) (h3 : v.ownBlock ≠ some b2) (h4 : ∀ g, v.ownBlock = some g → some g ≠ r) : Wr w1 B b v l :=
  h.kept (k.block b h.lt h1 h2) (fun g hg => k.block g (h.own.lt g hg).2 (fun e => h3 (by rw [hg, e])) (h4 g hg))
theorem copyCheck_kx (b : Nat) (v : Value) (l : List UInt8) (w : World) (h : Wr w 0 b v l) :
    Calls Tryd.prog 45 #[.pointer (some ⟨b, 0, none⟩)] w fun e w' => e = .returned (.tuple #[]) ∧ w'.heap[b]? = some (.cells #[.pointer (some ⟨b, 0, none⟩), v] WrT (0, 0)) ∧ w'.ownsRowF 0 WrB 1 v l.length (Lib.byteCells l) ∧ Kx b v.ownBlock w w' ∧ w'.heap.size = w.heap.size := by
  have hne := h.ne
  obtain ⟨p, hp, hb⟩ := h.blk
  rcases hp with rfl | rfl
  · refine (copyCheck_fresh b w (by simp [World.cell?, hb]) (by simp [World.shape?, hb]) (by simp [World.frozen?, hb])).mono ?_
    rintro e w' ⟨rfl, rfl⟩
    refine ⟨rfl, by simp [World.setCell, Array.getElem?_modify, hb], ?_, Kx.set b _ w 0 _, by simp [World.setCell]⟩
    exact h.own.kept (row := some b) ⟨rfl, rfl, rfl, by simp [World.setCell], fun k _ hk => Below.heap_setCell _ _ _ _ (fun e => hk (by simp [e]))⟩ (Or.inr hne)
  · refine (copyCheck_used b w (by simp [World.cell?, hb])).mono ?_
    rintro e w' ⟨rfl, rfl⟩
    exact ⟨rfl, hb, h.own, Kx.refl _ _ _, rfl⟩
set_option maxHeartbeats 2000000 in
set_option maxRecDepth 100000 in
theorem writeByte_kx (b : Nat) (v : Value) (l : List UInt8) (c : UInt8) (w : World) (h : Wr w 0 b v l) (hlen : l.length + 1 ≤ 140737488355328) :
    Calls Tryd.prog 36 #[.pointer (some ⟨b, 0, none⟩), .int .u8 (c.toNat : Int)] w fun e w' => e = .returned .nilIface ∧ ∃ v', Wr w' 0 b v' (l ++ [c]) ∧ Kx b v.ownBlock w w' ∧ Hat w v.ownBlock v'.ownBlock := by
  obtain ⟨i0, hi, hzz⟩ := Option.map_eq_some_iff.1 info_u8
  simp only [Prod.mk.injEq] at hzz
  obtain ⟨hz0, hz1, hz2⟩ := hzz
  have Hi := Sh.mk hi
  have H0 := Sh.mk hz0
  have H1 := Sh.mk hz1
  have H2 := Sh.mk hz2
  clear hi hz0 hz1 hz2
  go_enter Tryd.func36, Tryd.ntmps36
  go_wp2_with (go_at_call 45; refine (copyCheck_kx b v l _ h).mono ?_)
  rintro e w1 ⟨rfl, hbk, hown, hf, hsz⟩
  have c0 : w1.cell? ⟨b, 0, none⟩ = some (.pointer (some ⟨b, 0, none⟩)) := by rw [Lib.cell_of_heap hbk]; rfl
  have c1 : w1.cell? ⟨b, 1, none⟩ = some v := by rw [Lib.cell_of_heap hbk]; rfl
  have HB1 := Sh.mk hbk
  have HS := Sh.mk hsz
  clear hbk hsz
  go_wp2_with (at_builtin; refine app_cellsF rfl _ _ 28 rfl 0 WrB i0 (.int .u8 0) 1 1 Tryd.underlying28 Hi.out H0.out H1.out H2.out rfl (by decide) _ _ _ rfl (hown.alloc _) ⟨w1.heap.size, 0, none⟩ 1 1 [.int .u8 (c.toNat : Int)] rfl rfl ?c1 ?c2 ?c3 ?c4 ?c5 ?_)
  case c1 =>
    intro j u hj
    match j, hj with
    | 0, hj => simp at hj; subst hj; simp [Addr.add]
  case c2 => intro u hu; simp at hu; subst hu; rfl
  case c3 => unfold maxLen; omega
  case c4 => omega
  case c5 => omega
  intro v' w2 hown' hgrow hhat
  have hlt : b < w1.heap.size := (Array.getElem?_eq_some_iff.1 HB1.out).1
  have hne := Lib.ownBlock_neF hown HB1.out wr_ne
  have hb2 : w2.heap[b]? = some (.cells #[.pointer (some ⟨b, 0, none⟩), v] WrT (0, 0)) := by
    rw [hgrow.block b (by simp; omega) (fun e => hne e.symm), Lib.alloc_old w1 _ b hlt]
    exact HB1.out
  have d0 : w2.cell? ⟨b, 0, none⟩ = some (.pointer (some ⟨b, 0, none⟩)) := by rw [Lib.cell_of_heap hb2]; rfl
  have d1 : w2.cell? ⟨b, 1, none⟩ = some v := by rw [Lib.cell_of_heap hb2]; rfl
  have f1 : w2.frozen? ⟨b, 1, none⟩ = false := Lib.frozen_of_heap hb2 1
  have HB2 := Sh.mk hb2
  clear hb2
  obtain ⟨g, cap, rfl⟩ : ∃ g cap, v' = .slice (some ⟨g, 0, none⟩) (l.length + 1) cap := by
    rcases hown'.2 with ⟨_, h0⟩ | ⟨g, cap, cur, fz, hv, _⟩
    · omega
    · exact ⟨g, cap, hv⟩
  have hfin : Kx b v.ownBlock w w2 := (hf.trans (Kx.of_below ((Below.refl _ _).alloc (Nat.le_refl _) _)) (Hat.refl _ _)).trans (Kx.of_grown hgrow) (Hat.refl _ _)
  have HH := Sh.mk (show Hat w v.ownBlock (Value.slice (some ⟨g, 0, none⟩) (l.length + 1) cap).ownBlock from (Hat.refl _ _).trans hhat (by have := HS.out; simp; omega))
  have HF := Sh.mk hfin
  have HO := Sh.mk hown'
  clear hfin hown' hgrow hf hown hhat
  go_wp2
  go_ret
  have hne2 := Lib.ownBlock_neF HO.out HB2.out wr_ne
  refine ⟨rfl, .slice (some ⟨g, 0, none⟩) (l.length + 1) cap, ⟨⟨_, .inr rfl, ?_⟩, ?_, fun h => by simp at h⟩, HF.out.trans (Kx.set b _ _ 1 _) (Hat.refl _ _), HH.out⟩
  · simp [World.setCell, Array.getElem?_modify, HB2.out]
  · have := HO.out.kept (w' := w2.setCell ⟨b, 1, none⟩ (.slice (some ⟨g, 0, none⟩) (l.length + 1) cap)) (row := some b) ⟨rfl, rfl, rfl, by simp [World.setCell], fun k _ hk => Below.heap_setCell _ _ _ _ (fun e => hk (by simp [e]))⟩ (Or.inr hne2)
    rw [Lib.byteCells_append, List.length_append, byteCells_one]
    exact this
theorem writeByte_kxof (b : Nat) (v : Value) (l : List UInt8) (c : UInt8) (x : Int) (w : World) (hx : x = (c.toNat : Int)) (h : Wr w 0 b v l) (hlen : l.length + 1 ≤ 140737488355328) :
    Calls Tryd.prog 36 #[.pointer (some ⟨b, 0, none⟩), .int .u8 x] w fun e w' => e = .returned .nilIface ∧ ∃ v', Wr w' 0 b v' (l ++ [c]) ∧ Kx b v.ownBlock w w' ∧ Hat w v.ownBlock v'.ownBlock := by
  subst hx
  exact writeByte_kx b v l c w h hlen
set_option maxHeartbeats 2000000 in
set_option maxRecDepth 100000 in
theorem writeString_kx (b : Nat) (v : Value) (l : List UInt8) (s : ByteArray) (w : World) (h : Wr w 0 b v l) (hl0 : l ≠ []) (hlen : l.length + s.size ≤ 140737488355328) :
    Calls Tryd.prog 44 #[.pointer (some ⟨b, 0, none⟩), .string s] w fun e w' => e = .returned (.tuple #[.int .i64 s.size, .nilIface]) ∧ ∃ v', Wr w' 0 b v' (l ++ s.data.toList) ∧ Kx b v.ownBlock w w' ∧ Hat w v.ownBlock v'.ownBlock := by
  obtain ⟨i0, hi, hzz⟩ := Option.map_eq_some_iff.1 info_u8
  simp only [Prod.mk.injEq] at hzz
  obtain ⟨hz0, hz1, hz2⟩ := hzz
  have Hi := Sh.mk hi
  have H0 := Sh.mk hz0
  have H1 := Sh.mk hz1
  have H2 := Sh.mk hz2
  clear hi hz0 hz1 hz2
  have HV0 := Sh.mk (show v ≠ .slice none 0 0 from fun e => by have := h.own.lt; have h2 := h.own.2; subst e; rcases h2 with ⟨_, h3⟩ | ⟨g, cap, cur, fz, h3, _⟩; exact hl0 (List.eq_nil_of_length_eq_zero h3); cases h3)
  go_enter Tryd.func44, Tryd.ntmps44
  go_wp2_with (go_at_call 45; refine (copyCheck_kx b v l _ h).mono ?_)
  rintro e w1 ⟨rfl, hbk, hown, hf, hsz⟩
  have c0 : w1.cell? ⟨b, 0, none⟩ = some (.pointer (some ⟨b, 0, none⟩)) := by rw [Lib.cell_of_heap hbk]; rfl
  have c1 : w1.cell? ⟨b, 1, none⟩ = some v := by rw [Lib.cell_of_heap hbk]; rfl
  have HB1 := Sh.mk hbk
  have HS := Sh.mk hsz
  clear hbk hsz
  go_wp2_with (at_builtin; refine app_strF rfl _ _ 28 9 rfl 0 WrB i0 Tryd.underlying28 Tryd.underlying9 Hi.out H0.out H1.out H2.out _ _ _ rfl hown s rfl ?c3 ?c4 ?c5 HV0.out ?_)
  case c3 => unfold maxLen; omega
  case c4 => omega
  case c5 => omega
  intro v' w2 hown' hgrow hhat
  have hlt : b < w1.heap.size := (Array.getElem?_eq_some_iff.1 HB1.out).1
  have hne := Lib.ownBlock_neF hown HB1.out wr_ne
  have hb2 : w2.heap[b]? = some (.cells #[.pointer (some ⟨b, 0, none⟩), v] WrT (0, 0)) := by
    rw [hgrow.block b hlt (fun e => hne e.symm)]
    exact HB1.out
  have d0 : w2.cell? ⟨b, 0, none⟩ = some (.pointer (some ⟨b, 0, none⟩)) := by rw [Lib.cell_of_heap hb2]; rfl
  have d1 : w2.cell? ⟨b, 1, none⟩ = some v := by rw [Lib.cell_of_heap hb2]; rfl
  have f1 : w2.frozen? ⟨b, 1, none⟩ = false := Lib.frozen_of_heap hb2 1
  have HB2 := Sh.mk hb2
  clear hb2
  have hsh : ∃ A n c, v' = .slice A n c := by
    rcases hown'.2 with ⟨hv, _⟩ | ⟨g, cap, cur, fz, hv, _⟩
    · exact ⟨_, _, _, hv⟩
    · exact ⟨_, _, _, hv⟩
  obtain ⟨A', n', c', rfl⟩ := hsh
  have hfin : Kx b v.ownBlock w w2 := hf.trans (Kx.of_grown hgrow) (Hat.refl _ _)
  have HH := Sh.mk (show Hat w v.ownBlock (Value.slice A' n' c').ownBlock from (Hat.refl _ _).trans hhat (by have := HS.out; omega))
  have HF := Sh.mk hfin
  have HO := Sh.mk hown'
  clear hfin hown' hgrow hf hown hhat
  go_wp2
  go_ret2
  have hne2 := Lib.ownBlock_neF HO.out HB2.out wr_ne
  refine ⟨rfl, .slice A' n' c', ⟨⟨_, .inr rfl, ?_⟩, ?_, fun h => ?_⟩, HF.out.trans (Kx.set b _ _ 1 _) (Hat.refl _ _), HH.out⟩
  · simp [World.setCell, Array.getElem?_modify, HB2.out]
  · have := HO.out.kept (w' := w2.setCell ⟨b, 1, none⟩ (.slice A' n' c')) (row := some b) ⟨rfl, rfl, rfl, by simp [World.setCell], fun k _ hk => Below.heap_setCell _ _ _ _ (fun e => hk (by simp [e]))⟩ (Or.inr hne2)
    rw [Lib.byteCells_append, List.length_append, data_length, ← Lib.strCells_eq]
    exact this
  · exact absurd (List.append_eq_nil_iff.1 h).1 hl0
set_option maxHeartbeats 1000000 in
set_option maxRecDepth 100000 in
theorem wnum_kx (b : Nat) (v : Value) (l : List UInt8) (n : Nat) (w : World) (h : Wr w 0 b v l) (hn : n < 9223372036854775808) (hlen : l.length + 9 ≤ 140737488355328) :
    Calls Tryd.prog 26 #[.pointer (some ⟨b, 0, none⟩), .int .i64 (n : Int)] w fun e w' => e = .returned .nilIface ∧ ∃ v', Wr w' 0 b v' (l ++ vnum n) ∧ Kx b v.ownBlock w w' ∧ Hat w v.ownBlock v'.ownBlock := by
  have hv9 := vnum_nine n hn
  go_enter Tryd.func26, Tryd.ntmps26
  go_wp2
  go_loopw [1] (fun x wr => ∃ (m : Nat) (pre : List UInt8) (v' : Value), x = .int .i64 m ∧ m ≤ n ∧ Sh (vnum n = pre ++ vnum m) ∧ Sh (Wr wr 0 b v' (l ++ pre)) ∧ Sh (Kx b v.ownBlock w wr) ∧ Sh (Hat w v.ownBlock v'.ownBlock)) (fun x _ => (intOf x).toNat)
  case atStart => exact ⟨n, [], v, rfl, Nat.le_refl _, ⟨rfl⟩, ⟨by rw [List.append_nil]; exact h⟩, ⟨Kx.refl _ _ _⟩, ⟨Hat.refl _ _⟩⟩
  case round =>
    obtain ⟨m, pre, v', rfl, hm, HV, HW, HF, HT⟩ := hrel
    have hpl : (vnum n).length = pre.length + (vnum m).length := by rw [HV.out, List.length_append]
    have hpm : 0 < (vnum m).length := List.length_pos_iff.2 (vnum_ne m)
    have hp9 : (l ++ pre).length + 1 ≤ 140737488355328 := by rw [List.length_append]; omega
    clear hpl hpm
    by_cases hgt : 127 < m
    · have hvb := Sh.mk (vbyte m)
      go_wp2_with (go_at_call 36; refine (writeByte_kxof b v' (l ++ pre) (UInt8.ofNat (m % 128 + 128)) _ wr hvb.out HW.out hp9).mono ?_; rintro e w1 ⟨rfl, v2, hw2, hf2, ht2⟩)
      have HW2 := Sh.mk hw2
      have HF2 := Sh.mk (HF.out.trans hf2 HT.out)
      have HT2 := Sh.mk (HT.out.trans ht2 HF.out.size)
      clear hw2 hf2 ht2
      go_wp2
      go_roundw
      case rel => exact ⟨m / 128, pre ++ [UInt8.ofNat (m % 128 + 128)], v2, by go_num, by omega, ⟨by rw [HV.out, vnum_more (by omega), List.append_assoc]; rfl⟩, ⟨by rw [← List.append_assoc]; exact HW2.out⟩, HF2, HT2⟩
      case measure => simp [intOf]; omega
    · have hvl := Sh.mk (vlast m (by omega))
      go_wp2_with (go_at_call 36; refine (writeByte_kxof b v' (l ++ pre) (UInt8.ofNat m) _ wr hvl.out HW.out hp9).mono ?_; rintro e w1 ⟨rfl, v2, hw2, hf2, ht2⟩)
      have HW2 := Sh.mk hw2
      have HF2 := Sh.mk (HF.out.trans hf2 HT.out)
      have HT2 := Sh.mk (HT.out.trans ht2 HF.out.size)
      clear hw2 hf2 ht2
      go_wp2
      go_ret
      refine ⟨rfl, v2, ?_, HF2.out, HT2.out⟩
      rw [HV.out, vnum_last (by omega), ← List.append_assoc]
      exact HW2.out
set_option maxHeartbeats 1000000 in
set_option maxRecDepth 100000 in
theorem wtext_kx (b : Nat) (v : Value) (l : List UInt8) (s : ByteArray) (w : World) (h : Wr w 0 b v l) (hlen : l.length + s.size + 9 ≤ 140737488355328) :
    Calls Tryd.prog 35 #[.pointer (some ⟨b, 0, none⟩), .string s] w fun e w' => e = .returned (.tuple #[]) ∧ ∃ v', Wr w' 0 b v' (l ++ (vnum s.size ++ s.data.toList)) ∧ Kx b v.ownBlock w w' ∧ Hat w v.ownBlock v'.ownBlock := by
  have hv9 := vnum_nine s.size (by omega)
  go_enter Tryd.func35, Tryd.ntmps35
  go_wp2_with (go_at_call 26; refine (wnum_kx b v l s.size w h (by omega) (by omega)).mono ?_; rintro e w1 ⟨rfl, v1, hw1, hf1, ht1⟩)
  have HW1 := Sh.mk hw1
  have HF1 := Sh.mk hf1
  have HT1 := Sh.mk ht1
  have hne0 : l ++ vnum s.size ≠ [] := fun e => vnum_ne s.size (List.append_eq_nil_iff.1 e).2
  have hl1 : (l ++ vnum s.size).length + s.size ≤ 140737488355328 := by rw [List.length_append]; omega
  clear hw1 hf1 ht1
  go_wp2_with (go_at_call 44; refine (writeString_kx b v1 (l ++ vnum s.size) s w1 HW1.out hne0 hl1).mono ?_; rintro e w2 ⟨rfl, v2, hw2, hf2, ht2⟩)
  have HW2 := Sh.mk hw2
  have HF2 := Sh.mk (HF1.out.trans hf2 HT1.out)
  have HT2 := Sh.mk (HT1.out.trans ht2 HF1.out.size)
  clear hw2 hf2 ht2
  go_wp2
  go_end0
  exact ⟨rfl, v2, by rw [← List.append_assoc]; exact HW2.out, HF2.out, HT2.out⟩
end Go.Proofs.YtlhnajgckdeedaaDoor
