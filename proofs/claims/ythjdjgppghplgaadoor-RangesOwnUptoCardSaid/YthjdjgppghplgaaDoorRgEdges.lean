/-
ranges.edges: the edges of two lists, in an order that rises. Conditions: lists that may be, of at most 2^20 ranges.
-/
import Derived.Test.YthjdjgppghplgaaDoorRgSortW
import Derived.Test.YthjdjgppghplgaaDoorNum
import Derived.WalkKit
import Derived.Deep.QuietTactic
import Derived.BigQuiet
namespace Go.Proofs.YthjdjgppghplgaaDoor
open Go Go.RowKit Go.Lib Go.Sort Go.Shelf Go.Proofs.YthjdjgppghplgaaDoorW.PrintWords Go.Proofs.YthjdjgppghplgaaDoorW.PrintLast Go.Proofs.YthjdjgppghplgaaDoorW.PrintMore
abbrev RgT : TypeId := 35
abbrev rgK : Kd Rg := Kd.pair (Kd.int .i64) (Kd.int .i64)
abbrev edK : Kd Ed := Kd.pair (Kd.int .i64) (Kd.pair (Kd.int .i64) (Kd.int .i64))
theorem info_ed : (Tryd.prog.info? 65).map (fun i => (i.zero, i.size, i.bytes)) = some (some (.agg #[.int .i64 0, .int .i64 0, .int .i64 0]), 3, 24) := by kernel_rfl
theorem info_rg : (Tryd.prog.info? 35).map (fun i => (i.zero, i.size, i.bytes)) = some (some (.agg #[.int .i64 0, .int .i64 0]), 2, 16) := by kernel_rfl
def rdR (l : List Rg) (k : Nat) : Rg := l.getD k (0, 0)
theorem C_rg {w : World} {A : Option Addr} {n : Nat} {xs : List Rg} (h : rgK.C w A n xs) (i : Nat) (hi : i < n) : ∃ ad, A = some ad ∧ w.cell? (ad.add (i * 2)) = some (.int .i64 (rdR xs i).1) ∧ w.cell? ⟨(ad.add (i * 2)).block, (ad.add (i * 2)).off + 1, none⟩ = some (.int .i64 (rdR xs i).2) := by
  obtain ⟨h1, h2, h3⟩ := h
  obtain ⟨ad, e, hc⟩ := h3 (by omega)
  have hl : i < xs.length := by omega
  obtain ⟨c, hs, hp, hcell⟩ := hc i _ (List.getElem?_eq_getElem hl)
  obtain ⟨c0, c1, rfl, hc0, hc1⟩ := hp
  have e0 : rdR xs i = xs[i] := by simp [rdR, List.getD, hl]
  obtain rfl : c0 = [.int .i64 xs[i].1] := hc0
  obtain rfl : c1 = [.int .i64 xs[i].2] := hc1
  refine ⟨ad, e, ?_, ?_⟩
  · rw [e0]; exact hcell 0 _ rfl
  · rw [e0, ← add_field _ _ 1 (by omega)]; exact hcell 1 _ rfl
theorem C_ed {w : World} {A : Option Addr} {n : Nat} {xs : List Ed} (h : edK.C w A n xs) (i : Nat) (hi : i < n) : ∃ ad, A = some ad ∧ w.cell? (ad.add (i * 3)) = some (.int .i64 (xs.getD i (0, 0, 0)).1) ∧ w.cell? ⟨(ad.add (i * 3)).block, (ad.add (i * 3)).off + 1, none⟩ = some (.int .i64 (xs.getD i (0, 0, 0)).2.1) ∧ w.cell? ⟨(ad.add (i * 3)).block, (ad.add (i * 3)).off + 2, none⟩ = some (.int .i64 (xs.getD i (0, 0, 0)).2.2) := by
  obtain ⟨h1, h2, h3⟩ := h
  obtain ⟨ad, e, hc⟩ := h3 (by omega)
  have hl : i < xs.length := by omega
  obtain ⟨c, hs, hp, hcell⟩ := hc i _ (List.getElem?_eq_getElem hl)
  obtain ⟨c0, c1, rfl, hc0, c2, c3, rfl, hc2, hc3⟩ := hp
  have e0 : xs.getD i (0, 0, 0) = xs[i] := by simp [List.getD, hl]
  obtain rfl : c0 = [.int .i64 xs[i].1] := hc0
  obtain rfl : c2 = [.int .i64 xs[i].2.1] := hc2
  obtain rfl : c3 = [.int .i64 xs[i].2.2] := hc3
  refine ⟨ad, e, ?_, ?_, ?_⟩
  · rw [e0]; exact hcell 0 _ rfl
  · rw [e0, ← add_field _ _ 1 (by omega)]; exact hcell 1 _ rfl
  · rw [e0, ← add_field _ _ 2 (by omega)]; exact hcell 2 _ rfl
theorem okR_of {l : List Rg} (h : mayL l = true) {i : Nat} (hi : i < l.length) : 0 ≤ (rdR l i).1 ∧ (rdR l i).2 ≤ 1114111 ∧ (rdR l i).1 ≤ (rdR l i).2 := by
  have e0 : rdR l i = l[i] := by simp [rdR, List.getD, hi]
  have := List.all_eq_true.1 h _ (List.getElem_mem hi)
  simp only [okR, decide_eq_true_eq] at this
  rw [e0]; exact this
theorem edges_snoc (l : List Rg) (j : Int) (k : Nat) (h : k < l.length) : edgesOf (l.take (k + 1)) j = edgesOf (l.take k) j ++ [((rdR l k).1, 1, j), ((rdR l k).2 + 1, -1, j)] := by
  have e0 : rdR l k = l[k] := by simp [rdR, List.getD, h]
  rw [List.take_succ_eq_append_getElem h, e0]
  unfold edgesOf
  rw [List.flatMap_append]
  rfl
theorem eds_reps (w : World) (base : Nat) (ok : Nat → Prop) (xs : List Ed) : Reps (edK.M w base ok) 3 xs (xs.flatMap eL) := by
  have h : ∀ ys : List Ed, Reps (edK.M w base ok) 3 ys (ys.flatMap eL) → ∀ zs : List Ed, Reps (edK.M w base ok) 3 (ys ++ zs) ((ys ++ zs).flatMap eL) := by
    intro ys hy zs
    induction zs generalizing ys with
    | nil => simpa using hy
    | cons z zs ih =>
      have := ih (ys ++ [z]) (by
        rw [List.flatMap_append]
        exact hy.snoc (p := z) (c := [z].flatMap eL) ⟨[.int .i64 z.1], [.int .i64 z.2.1, .int .i64 z.2.2], by simp [eL], rfl, [.int .i64 z.2.1], [.int .i64 z.2.2], rfl, rfl, rfl⟩ (by simp [eL]))
      simpa using this
  exact h [] (Reps.none _ _) xs
theorem cells6_new (w : World) (xs : List Value) (t : TypeId) : ∀ j u, xs[j]? = some u → (w.alloc (.cells xs.toArray t)).cell? ((⟨w.heap.size, 0, none⟩ : Addr).add j) = some u := by
  intro j u hj
  have h := blk_cell (blk_new w (.cells xs.toArray t)) j
  rw [add_plain, h]
  simpa using hj
section
variable {ops : Array Oper} {rest : List Oper} {o : Oper} {a : Act} {Q : Exit → Act → World → Prop}
/-- append of two edges to a row of one's own. -/
theorem app_edges (s x : Operand) {base : Nat} {w0 W : World} (v : Value) (es : List Ed) (a1 b1 c1 a2 b2 c2 : Int)
    (ho : o.op = .call { callee := .builtin .append, args := #[s, x], argTypes := #[62, 62] }) (hgd : o.guard = none) (hs : a.eval s = v) (g : Nat) (hg : W.heap.size = g) (hx : a.eval x = .slice (some ⟨g, 0, none⟩) 2 2)
    (HO : W.ownsRow base EdT 3 v es.length (es.flatMap eL)) (HB : Below base w0 W) (hbase : base ≤ W.heap.size) (hl : es.length ≤ 8388608)
    (h : ∀ v1 w1, Sh (w1.ownsRow base EdT 3 v1 (es ++ [(a1, b1, c1), (a2, b2, c2)]).length ((es ++ [(a1, b1, c1), (a2, b2, c2)]).flatMap eL)) → Sh (Below base w0 w1) → wpList Tryd.prog ops Q rest (a.put o.dst v1) w1) :
    wpList Tryd.prog ops Q (o :: rest) a (W.alloc (.cells #[.int .i64 a1, .int .i64 b1, .int .i64 c1, .int .i64 a2, .int .i64 b2, .int .i64 c2] EdT)) := by
  subst hg
  obtain ⟨i0, hi, hz0, hz1, hz2⟩ := info_parts info_ed
  refine wpList_append_own _ hgd s x 62 ho base EdT i0 _ 3 24 Tryd.underlying62 hi hz0 hz1 hz2 rfl (by decide) v es.length (es.flatMap eL) hs (HO.alloc _) ⟨W.heap.size, 0, none⟩ 2 2 [.int .i64 a1, .int .i64 b1, .int .i64 c1, .int .i64 a2, .int .i64 b2, .int .i64 c2] hx rfl (cells6_new _ _ _) (by simp [Value.oneCell']) (by unfold maxLen; omega) (by omega) (by simp; omega) ?_
  intro v1 w1 hown hgrow _
  refine h v1 w1 ⟨?_⟩ ⟨pw_below_grown (HB.alloc hbase _) _ (by simp; omega) hgrow (fun k hk => own_base HO k hk)⟩
  rw [List.length_append, List.flatMap_append]
  exact hown
end
set_option maxHeartbeats 8000000 in
set_option maxRecDepth 100000 in
theorem edges_any (A B : Option Addr) (cA cB nA nB : Nat) (la lb : List Rg) (w : World) (hA : rgK.C w A nA la) (hB : rgK.C w B nB lb) (ha : mayL la = true) (hb : mayL lb = true) (hna : nA ≤ 1048576) (hnb : nB ≤ 1048576) :
    Calls Tryd.prog 52 #[.slice A nA cA, .slice B nB cB] w fun e w' => ∃ v es, e = .returned v ∧ Edges la lb es ∧ es.length = 2 * (nA + nB) ∧ Kd.R edK EdT w' w.heap.size (fun _ => True) v es ∧ Below w.heap.size w w' := by
  have HCA := Sh.mk hA
  have HCB := Sh.mk hB
  have HMa := Sh.mk ha
  have HMb := Sh.mk hb
  have i0 : ∀ w, (Instr.index 66 (.agg #[.slice A nA cA, .slice B nB cB]) (.int .i64 0)).run Tryd.prog w = .ok (.slice A nA cA) w := fun _ => by kernel_rfl
  have i1 : ∀ w, (Instr.index 66 (.agg #[.slice A nA cA, .slice B nB cB]) (.int .i64 1)).run Tryd.prog w = .ok (.slice B nB cB) w := fun _ => by kernel_rfl
  clear hA hB ha hb
  go_enter Tryd.func52, Tryd.ntmps52
  go_wp2
  go_loopw [5, 13] (fun v i wr => ∃ m : Int, (m = 0 ∨ m = 1 ∨ m = 2) ∧ i = .int .i64 m ∧ Sh (wr.ownsRow w.heap.size EdT 3 v (if m = 0 then [] else if m = 1 then edgesOf la 0 else edgesOf la 0 ++ edgesOf lb 1).length ((if m = 0 then [] else if m = 1 then edgesOf la 0 else edgesOf la 0 ++ edgesOf lb 1).flatMap eL)) ∧ Sh (Below w.heap.size w wr)) (fun _ i _ => 2 - (intOf i).toNat)
  case atStart => exact ⟨0, Or.inl rfl, rfl, ⟨World.ownsRow_nil _ _ _ _⟩, ⟨Below.refl _ _⟩⟩
  case round =>
    obtain ⟨m, hm, rfl, HO, HB⟩ := hrel
    rcases hm with rfl | rfl | rfl
    · rw [if_pos rfl] at HO
      go_wp2_with fail
      go_loopw [5, 19] (fun v i wx => ∃ k : Nat, k ≤ nA ∧ i = .int .i64 k ∧ Sh (wx.ownsRow w.heap.size EdT 3 v (([] : List Ed) ++ edgesOf (la.take k) 0).length ((([] : List Ed) ++ edgesOf (la.take k) 0).flatMap eL)) ∧ Sh (Below w.heap.size w wx)) (fun _ i _ => nA - (intOf i).toNat)
      case atStart => exact ⟨0, Nat.zero_le _, rfl, ⟨by rw [List.take_zero, show edgesOf ([] : List Rg) 0 = [] from rfl, List.append_nil]; exact HO.out⟩, HB⟩
      case round =>
        obtain ⟨k, hk, rfl, HO, HB⟩ := hrel
        by_cases hlt : k < nA
        · obtain ⟨ad, e1, y0, y1⟩ := C_rg (Kd.C_below HCA.out HB.out) k hlt
          cases e1
          have hrl : (([] : List Ed) ++ edgesOf (la.take k) 0).length ≤ ([] : List Ed).length + 2 * k := by have he := edgesOf_len (la.take k) 0; have hl := List.length_take_le k la; rw [List.length_append]; omega
          have hpl : ([] : List Ed).length ≤ 2097152 := (by simp)
          have hx := okR_of (l := la) HMa.out (i := k) (by rw [HCA.out.1]; exact hlt)
          have HSN := Sh.mk (edges_snoc la 0 k (by rw [HCA.out.1]; exact hlt))
          obtain ⟨⟨rl, rh⟩, hr⟩ : ∃ r, r = rdR la k := ⟨_, rfl⟩
          rw [← hr] at y0 y1 hx HSN
          dsimp only at y0 y1 hx HSN
          obtain ⟨hx0, hx1, hx2⟩ := hx
          clear hr
          go_wp2_with (first | ((with_reducible refine gate_builtin (b := .append) (xs := #[.tmp 23, .tmp 33]) rfl ?_); refine app_edges (w0 := w) (.tmp 23) (.tmp 33) _ _ rl 1 0 (rh + 1) (-1) 0 rfl rfl rfl _ (by simp) rfl (HO.out.alloc _) (ShB.alloc HB HB.out.size _).out (by simp; have := HB.out.size; omega) (by omega) ?_; clear HO HB; intro v1 w1 HO HB))
          go_roundw
          case rel => exact ⟨k + 1, by omega, by go_num, ⟨by rw [HSN.out, ← List.append_assoc]; exact HO.out⟩, HB⟩
          case measure => simp [intOf] <;> omega
        · obtain rfl : k = nA := by omega
          rw [List.take_of_length_le (by rw [HCA.out.1]; exact Nat.le_refl _)] at HO
          go_wp2
          go_roundw
          case rel => exact ⟨1, Or.inr (Or.inl rfl), rfl, ⟨by rw [if_neg (by omega), if_pos rfl]; simpa using HO.out⟩, HB⟩
          case measure => simp [intOf]
    · rw [if_neg (by omega), if_pos rfl] at HO
      go_wp2_with fail
      go_loopw [5, 19] (fun v i wx => ∃ k : Nat, k ≤ nB ∧ i = .int .i64 k ∧ Sh (wx.ownsRow w.heap.size EdT 3 v ((edgesOf la 0) ++ edgesOf (lb.take k) 1).length (((edgesOf la 0) ++ edgesOf (lb.take k) 1).flatMap eL)) ∧ Sh (Below w.heap.size w wx)) (fun _ i _ => nB - (intOf i).toNat)
      case atStart => exact ⟨0, Nat.zero_le _, rfl, ⟨by rw [List.take_zero, show edgesOf ([] : List Rg) 1 = [] from rfl, List.append_nil]; exact HO.out⟩, HB⟩
      case round =>
        obtain ⟨k, hk, rfl, HO, HB⟩ := hrel
        by_cases hlt : k < nB
        · obtain ⟨ad, e1, y0, y1⟩ := C_rg (Kd.C_below HCB.out HB.out) k hlt
          cases e1
          have hrl : ((edgesOf la 0) ++ edgesOf (lb.take k) 1).length ≤ (edgesOf la 0).length + 2 * k := by have he := edgesOf_len (lb.take k) 1; have hl := List.length_take_le k lb; rw [List.length_append]; omega
          have hpl : (edgesOf la 0).length ≤ 2097152 := (by rw [edgesOf_len, HCA.out.1]; omega)
          have hx := okR_of (l := lb) HMb.out (i := k) (by rw [HCB.out.1]; exact hlt)
          have HSN := Sh.mk (edges_snoc lb 1 k (by rw [HCB.out.1]; exact hlt))
          obtain ⟨⟨rl, rh⟩, hr⟩ : ∃ r, r = rdR lb k := ⟨_, rfl⟩
          rw [← hr] at y0 y1 hx HSN
          dsimp only at y0 y1 hx HSN
          obtain ⟨hx0, hx1, hx2⟩ := hx
          clear hr
          go_wp2_with (first | ((with_reducible refine gate_builtin (b := .append) (xs := #[.tmp 23, .tmp 33]) rfl ?_); refine app_edges (w0 := w) (.tmp 23) (.tmp 33) _ _ rl 1 1 (rh + 1) (-1) 1 rfl rfl rfl _ (by simp) rfl (HO.out.alloc _) (ShB.alloc HB HB.out.size _).out (by simp; have := HB.out.size; omega) (by omega) ?_; clear HO HB; intro v1 w1 HO HB))
          go_roundw
          case rel => exact ⟨k + 1, by omega, by go_num, ⟨by rw [HSN.out, ← List.append_assoc]; exact HO.out⟩, HB⟩
          case measure => simp [intOf] <;> omega
        · obtain rfl : k = nB := by omega
          rw [List.take_of_length_le (by rw [HCB.out.1]; exact Nat.le_refl _)] at HO
          go_wp2
          go_roundw
          case rel => exact ⟨2, Or.inr (Or.inr rfl), rfl, ⟨by rw [if_neg (by omega), if_neg (by omega)]; exact HO.out⟩, HB⟩
          case measure => simp [intOf]
    · rw [if_neg (by omega), if_neg (by omega)] at HO
      have hlen : (edgesOf la 0 ++ edgesOf lb 1).length = 2 * (nA + nB) := by rw [List.length_append, edgesOf_len, edgesOf_len, HCA.out.1, HCB.out.1]; omega
      have HS := Sh.mk (sort_any _ _ _ _ _ HO.out HB.out (by omega))
      have HLen := Sh.mk hlen
      clear HO HB hlen i0 i1
      go_wp2_with fail
      refine HS.out.mono ?_
      rintro e w1 ⟨rfl, fs, hp, hs, ho, hb⟩
      have HP := Sh.mk hp
      have HSS := Sh.mk hs
      have HO := Sh.mk ho
      have HB := Sh.mk hb
      clear hp hs ho hb HS
      go_wp2
      go_ret
      exact ⟨_, fs, rfl, ⟨HP.out, HSS.out⟩, by rw [HP.out.length_eq, HLen.out], ⟨fun _ _ => trivial, _, HO.out, eds_reps _ _ _ _⟩, HB.out⟩
end Go.Proofs.YthjdjgppghplgaaDoor
