/-
ranges.walk: the normal list of the points that a function of the two lists' holding keeps. Conditions: lists that may be, of at most 2^20 ranges; a function that only computes.
-/
import Derived.Test.YthjdjgppghplgaaDoorRgEdges
import Derived.Deep.RegionHeld3
import Derived.BigRegion
namespace Go.Proofs.YthjdjgppghplgaaDoor
open Go Go.RowKit Go.Proofs.YthjdjgppghplgaaDoorW.PrintWords Go.Proofs.YthjdjgppghplgaaDoorW.PrintLast Go.Proofs.YthjdjgppghplgaaDoorW.PrintMore
abbrev DpT : TypeId := 61
theorem nm_len : ∀ (l : List Rg) (lo : Int), Nm lo l → lo ≤ 1114113 → 2 * (l.length : Int) ≤ 1114113 - lo
  | [], lo, _, h => by simp; omega
  | r :: t, lo, hn, h => by
    obtain ⟨h1, h2, h3, h4⟩ := hn
    have := nm_len t (r.2 + 2) h4 (by omega)
    rw [List.length_cons]
    omega
theorem Is.len {q : Int → Bool} {l : List Rg} (h : Is q l) : l.length ≤ 557056 := by have := nm_len l 0 h.1 (by omega); omega
theorem rg_M (w : World) (base : Nat) (ok : Nat → Prop) (x : Rg) : rgK.M w base ok x [.int .i64 x.1, .int .i64 x.2] := ⟨[.int .i64 x.1], [.int .i64 x.2], rfl, rfl, rfl⟩
/-- What lies in memory between two rounds. -/
structure WK (w W : World) (D : Nat) (t0 t1 : Int) (ev : Value) (es : List Ed) (v : Value) (out : List Rg) : Prop where
  bel : Below w.heap.size w W
  dp : W.heap[D]? = some (.cells #[.int .i64 t0, .int .i64 t1] DpT (0, 0))
  le : w.heap.size ≤ D
  ed : edK.R EdT W w.heap.size (fun _ => True) ev es
  out : rgK.R RgT W w.heap.size (fun _ => True) v out
theorem WK.below {w W W1 : World} {D : Nat} {t0 t1 : Int} {ev : Value} {es : List Ed} {v : Value} {out : List Rg} (h : WK w W D t0 t1 ev es v out) (hb : Below W.heap.size W W1) : WK w W1 D t0 t1 ev es v out :=
  ⟨below_of h.bel hb, blk_below h.dp hb, h.le, Kd.R_below h.ed hb, Kd.R_below h.out hb⟩
theorem WK.dep0 {w W : World} {D : Nat} {t0 t1 : Int} {ev : Value} {es : List Ed} {v : Value} {out : List Rg} (h : WK w W D t0 t1 ev es v out) (t : Int) : WK w (W.setCell ⟨D, 0, none⟩ (.int .i64 t)) D t t1 ev es v out :=
  ⟨h.bel.setCell (p := ⟨D, 0, none⟩) h.le _, blk_set h.dp 0 _, h.le, Kd.R_set h.ed h.dp (by decide) 0 _, Kd.R_set h.out h.dp (by decide) 0 _⟩
theorem WK.dep1 {w W : World} {D : Nat} {t0 t1 : Int} {ev : Value} {es : List Ed} {v : Value} {out : List Rg} (h : WK w W D t0 t1 ev es v out) (t : Int) : WK w (W.setCell ⟨D, 1, none⟩ (.int .i64 t)) D t0 t ev es v out :=
  ⟨h.bel.setCell (p := ⟨D, 1, none⟩) h.le _, blk_set h.dp 1 _, h.le, Kd.R_set h.ed h.dp (by decide) 1 _, Kd.R_set h.out h.dp (by decide) 1 _⟩
/-- Another end of the last range. -/
theorem WK.last {w W : World} {D : Nat} {t0 t1 : Int} {ev : Value} {es : List Ed} {g n cap : Nat} {l : List Rg} {r : Rg} (h : WK w W D t0 t1 ev es (.slice (some ⟨g, 0, none⟩) n cap) (l ++ [r])) (x : Int) :
    WK w (W.setCell ⟨g, l.length * 2 + 1, none⟩ (.int .i64 x)) D t0 t1 ev es (.slice (some ⟨g, 0, none⟩) n cap) (l ++ [(r.1, x)]) := by
  obtain ⟨hn, hc, hC⟩ := Kd.R_reads' h.out
  have hg := Kd.R_base h.out g rfl
  obtain ⟨cs, hty⟩ := Kd.R_typed h.out g rfl
  rw [List.length_append] at hn
  obtain ⟨c, hcl, hM, hcc, hfz⟩ := Kd.R_elem h.out (0, 0) (l.length : Int) (by omega) (by rw [hn]; simp; omega)
  have e : (l ++ [r]).getD ((l.length : Int)).toNat (0, 0) = r := by simp
  rw [e] at hM
  obtain ⟨c0, c1, rfl, h0, h1⟩ := hM
  obtain rfl : c0 = [.int .i64 r.1] := h0
  obtain rfl : c1 = [.int .i64 r.2] := h1
  have hs := Kd.R_seg (okp := fun _ => False) h.out (l.length : Int) (by omega) (by rw [hn]; simp; omega) (c := [.int .i64 r.1, .int .i64 r.2]) (seg := [.int .i64 x]) (j := 1) rfl hcc (by show 1 + 1 ≤ 2; omega) (x' := (r.1, x)) (rg_M _ _ _ _) (fun _ hk => hk.elim)
  have e2 : (l ++ [r]).set l.length (r.1, x) = l ++ [(r.1, x)] := by simp
  rw [Int.toNat_natCast, e2] at hs
  have hne : D ≠ g := blk_ne h.dp hty (by decide)
  exact ⟨h.bel.setCell (p := ⟨g, l.length * 2 + 1, none⟩) hg _, blk_far h.dp (p := ⟨g, l.length * 2 + 1, none⟩) hne _, h.le, Kd.R_set h.ed hty (by decide) _ _, hs.1⟩
theorem WK.high {w W : World} {D : Nat} {t0 t1 : Int} {ev : Value} {es : List Ed} {g n cap : Nat} {l : List Rg} {r : Rg} (h : WK w W D t0 t1 ev es (.slice (some ⟨g, 0, none⟩) n cap) (l ++ [r])) :
    W.cell? ⟨g, l.length * 2 + 1, none⟩ = some (.int .i64 r.2) ∧ W.frozen? ⟨g, l.length * 2 + 1, none⟩ = false := by
  obtain ⟨hn, hc, hC⟩ := Kd.R_reads' h.out
  rw [List.length_append] at hn
  obtain ⟨c, hcl, hM, hcc, hfz⟩ := Kd.R_elem h.out (0, 0) (l.length : Int) (by omega) (by rw [hn]; simp; omega)
  have e : (l ++ [r]).getD ((l.length : Int)).toNat (0, 0) = r := by simp
  rw [e] at hM
  obtain ⟨c0, c1, rfl, h0, h1⟩ := hM
  obtain rfl : c0 = [.int .i64 r.1] := h0
  obtain rfl : c1 = [.int .i64 r.2] := h1
  exact ⟨hcc 1 _ rfl, hfz 1⟩
section
variable {ops : Array Oper} {rest : List Oper} {o : Oper} {a : Act} {Q : Exit → Act → World → Prop}
/-- append of one range to a row of one's own. -/
theorem app_rg (s x : Operand) {base : Nat} {w0 W : World} (v : Value) (xs : List Rg) (p : Rg)
    (ho : o.op = .call { callee := .builtin .append, args := #[s, x], argTypes := #[22, 22] }) (hgd : o.guard = none) (hs : a.eval s = v) (g : Nat) (hg : W.heap.size = g) (hx : a.eval x = .slice (some ⟨g, 0, none⟩) 1 1)
    (HO : rgK.R RgT W base (fun _ => True) v xs) (HB : Below base w0 W) (hbase : base ≤ W.heap.size) (hl : xs.length ≤ 8388608)
    (h : ∀ v1 w1, rgK.R RgT w1 base (fun _ => True) v1 (xs ++ [p]) → Below base w0 w1 → W.grownBy w1 v.ownBlock → wpList Tryd.prog ops Q rest (a.put o.dst v1) w1) :
    wpList Tryd.prog ops Q (o :: rest) a (W.alloc (.cells #[.int .i64 p.1, .int .i64 p.2] RgT)) := by
  subst hg
  exact Kd.R_append rgK (w0 := w0) base hgd s x 22 RgT (.agg #[.int .i64 0, .int .i64 0]) 16 ho Tryd.underlying22 info_rg rfl (by decide) (by decide) v xs p [.int .i64 p.1, .int .i64 p.2] (fun _ => True) (fun _ => False) hs hx (rg_M _ _ _ _) (fun _ hk => hk.elim) (fun _ _ => trivial) HO HB hbase (by omega)
    (fun v1 w1 ho hb hgr _ => h v1 w1 ho hb hgr)
end
theorem WK.push {w W w1 : World} {D : Nat} {t0 t1 : Int} {ev : Value} {es : List Ed} {v v1 : Value} {out : List Rg} {p : Rg} (h : WK w W D t0 t1 ev es v out) (ho : rgK.R RgT w1 w.heap.size (fun _ => True) v1 (out ++ [p])) (hb : Below w.heap.size w w1) (hg : W.grownBy w1 v.ownBlock) : WK w w1 D t0 t1 ev es v1 (out ++ [p]) :=
  ⟨hb, blk_grown h.dp hg (Kd.R_ne h.out h.dp (by decide)), h.le, Kd.R_over h.ed h.out (by decide) hg, ho⟩
theorem tot_snoc (es : List Ed) (j : Int) (k : Nat) (h : k < es.length) : tot (es.take (k + 1)) j = tot (es.take k) j + (if (es.getD k (0, 0, 0)).2.2 = j then (es.getD k (0, 0, 0)).2.1 else 0) := by
  have e0 : es.getD k (0, 0, 0) = es[k] := by simp [List.getD, h]
  rw [List.take_succ_eq_append_getElem h, tot_append, e0]
  simp [tot]
theorem tot_small {a b : List Rg} {es : List Ed} (h : Edges a b es) (ha : mayL a = true) (hb : mayL b = true) (j : Int) (k : Nat) : -(es.length : Int) ≤ tot (es.take k) j ∧ tot (es.take k) j ≤ es.length := by
  have h1 := tot_bound (es.take k) j (fun e he => (h.mem ha hb (List.mem_of_mem_take he)).1)
  have h2 := List.length_take_le k es
  rw [List.length_take] at h1
  omega
abbrev edAt (es : List Ed) (k : Nat) : Ed := es.getD k (0, 0, 0)
theorem edAt_eq (es : List Ed) (k : Nat) (h : k < es.length) : edAt es k = es[k] := by simp [edAt, List.getD, h]
/-- What is held at a place, and up to the next edge. -/
theorem held_at {a b : List Rg} {es : List Ed} (h : Edges a b es) (ha : mayL a = true) (hb : mayL b = true) {i : Nat} (hi : i ≤ es.length) {p : Int} (h1 : ∀ k, k < i → (edAt es k).1 ≤ p) (h2 : i < es.length → p < (edAt es i).1) :
    decide (0 < tot (es.take i) 0) = inL a p ∧ decide (0 < tot (es.take i) 1) = inL b p :=
  h.held ha hb hi (fun k hk => by rw [← edAt_eq es k (by omega)]; exact h1 k hk) (fun hk => by rw [← edAt_eq es i hk]; exact h2 hk)
set_option maxHeartbeats 16000000 in
set_option maxRecDepth 100000 in
theorem walk_any (gk : Nat) (kf : Bool → Bool → Bool) (hgk : ∀ args w, (callFunc gk args).run Tryd.prog w = .ok (.enter gk args) w) (hkf : ∀ (x y : Bool) (w : World), Calls Tryd.prog gk #[.bool x, .bool y] w fun e w' => e = .returned (.bool (kf x y)) ∧ w = w')
    (A B : Option Addr) (cA cB nA nB : Nat) (la lb : List Rg) (w : World) (hA : rgK.C w A nA la) (hB : rgK.C w B nB lb) (ha : mayL la = true) (hb : mayL lb = true) (hna : nA ≤ 1048576) (hnb : nB ≤ 1048576) :
    Calls Tryd.prog 45 #[.slice A nA cA, .slice B nB cB, .func (.func gk) #[] #[]] w fun e w' => ∃ v out, e = .returned v ∧ Is (fun p => kf (inL la p) (inL lb p)) out ∧ rgK.R RgT w' w.heap.size (fun _ => True) v out ∧ Below w.heap.size w w' := by
  have HCA := Sh.mk hA
  have HCB := Sh.mk hB
  have HMa := Sh.mk ha
  have HMb := Sh.mk hb
  have HKF := Sh.mk hkf
  obtain ⟨W0, hW0⟩ : ∃ W0, W0 = w.alloc (.cells #[.int .i64 0, .int .i64 0] DpT) := ⟨_, rfl⟩
  obtain ⟨D, hD⟩ : ∃ D, D = w.heap.size := ⟨_, rfl⟩
  have HX0 := Sh.mk (show W0.heap[D]? = some (.cells #[.int .i64 0, .int .i64 0] DpT (0, 0)) by rw [hW0, hD]; exact blk_new _ _)
  have HB0 := Sh.mk (show Below w.heap.size w W0 by rw [hW0]; exact (Below.refl _ _).alloc (Nat.le_refl _) _)
  have HW := Sh.mk hW0
  have HD := Sh.mk hD
  clear hA hB ha hb hkf hW0 hD
  go_enter Tryd.func45, Tryd.ntmps45
  go_wp2_with fail
  rw [← HW.out, ← HD.out]
  clear HW
  refine (edges_any A B cA cB nA nB la lb W0 (Kd.C_below HCA.out HB0.out) (Kd.C_below HCB.out HB0.out) HMa.out HMb.out hna hnb).mono ?_
  rintro e w1 ⟨ev, es, rfl, hE, hlen, hR, hb⟩
  obtain ⟨Ae, ce, rfl, _, _⟩ := R_open hR es.length rfl
  obtain ⟨n, hn⟩ : ∃ n, n = es.length := ⟨_, rfl⟩
  have HN := Sh.mk hn
  have HE := Sh.mk hE
  have hns : n ≤ 4194304 := by omega
  have HS1 := Sh.mk (show WK w w1 D 0 0 (.slice Ae es.length ce) es (.slice none 0 0) [] from ⟨below_of HB0.out hb, blk_below HX0.out hb, by have := HD.out; omega, Kd.R_lower hR HB0.out.size, Kd.R_nil _ _ _ _ _⟩)
  rw [← hn] at HS1 ⊢
  clear hR hb hE hlen hn HX0 HB0
  go_wp2
  go_loopw [7, 10, 11] (fun v va vi wr => ∃ (p : Int) (i : Nat) (out : List Rg), 0 ≤ p ∧ p ≤ 1114112 ∧ i ≤ n ∧ va = .int .i64 p ∧ vi = .int .i64 i ∧ Sh (∀ k, k < i → (edAt es k).1 ≤ p) ∧ Sh (Upto (fun p => kf (inL la p) (inL lb p)) out p) ∧ Sh (WK w wr D (tot (es.take i) 0) (tot (es.take i) 1) (.slice Ae n ce) es v out)) (fun _ va _ _ => (1114113 - intOf va).toNat)
  case atStart => exact ⟨0, 0, [], by omega, by omega, by omega, rfl, rfl, ⟨fun k hk => absurd hk (by omega)⟩, ⟨Upto.zero _⟩, by rw [List.take_zero]; exact HS1⟩
  case round =>
    obtain ⟨p, i, out, hp0, hp1, hi, rfl, rfl, HL, HU, HS⟩ := hrel
    by_cases hpm : p ≤ 1114111
    · go_wp2
      go_loopw [11] (fun vi wx => ∃ (j : Nat), j ≤ n ∧ vi = .int .i64 j ∧ Sh (∀ k, k < j → (edAt es k).1 ≤ p) ∧ Sh (WK w wx D (tot (es.take j) 0) (tot (es.take j) 1) (.slice Ae n ce) es u7 out)) (fun vi _ => n - (intOf vi).toNat)
      case atStart => exact ⟨i, hi, rfl, HL, HS⟩
      case round =>
        obtain ⟨j, hj, rfl, HL, HS⟩ := hrel
        have htb0 := tot_small HE.out HMa.out HMb.out 0 j
        have htb1 := tot_small HE.out HMa.out HMb.out 1 j
        rw [← HN.out] at htb0 htb1
        by_cases hjn : j < n
        · obtain ⟨-, -, hC⟩ := Kd.R_reads' HS.out.ed
          rw [← HN.out] at hC
          obtain ⟨ad, e1, y0, y1, y2⟩ := C_ed hC j hjn
          cases e1
          have hem := HE.out.mem HMa.out HMb.out (List.getElem_mem (show j < es.length by rw [← HN.out]; exact hjn))
          rw [← edAt_eq] at hem
          have HT0 := Sh.mk (tot_snoc es 0 j (by rw [← HN.out]; exact hjn))
          have HT1 := Sh.mk (tot_snoc es 1 j (by rw [← HN.out]; exact hjn))
          obtain ⟨⟨ea, eb, el⟩, he⟩ : ∃ x, x = edAt es j := ⟨_, rfl⟩
          have HEj := Sh.mk he
          rw [show es.getD j (0, 0, 0) = edAt es j from rfl, ← he] at y0 y1 y2 HT0 HT1
          rw [← he] at hem
          dsimp only at y0 y1 y2 HT0 HT1 hem
          obtain ⟨hm1, hm2, hm3, hm4⟩ := hem
          have hb1 : -1 ≤ eb ∧ eb ≤ 1 := by omega
          clear hm1 he hC
          obtain ⟨t0, ht0⟩ : ∃ t, t = tot (es.take j) 0 := ⟨_, rfl⟩
          obtain ⟨t1, ht1⟩ : ∃ t, t = tot (es.take j) 1 := ⟨_, rfl⟩
          rw [← ht0] at htb0 HT0 HS
          rw [← ht1] at htb1 HT1 HS
          have HQ0 := Sh.mk ht0
          have HQ1 := Sh.mk ht1
          clear ht0 ht1
          by_cases hea : ea ≤ p
          · have z0 := blk_cell HS.out.dp 0
            have z1 := blk_cell HS.out.dp 1
            have f0 := blk_frozen HS.out.dp 0
            have f1 := blk_frozen HS.out.dp 1
            simp only [List.getElem?_toArray, List.getElem?_cons_zero, List.getElem?_cons_succ] at z0 z1
            have HL1 := Sh.mk (show ∀ k, k < j + 1 → (edAt es k).1 ≤ p from fun k hk => by
              by_cases h : k = j
              · subst h; rw [← HEj.out]; exact hea
              · exact HL.out k (by omega))
            rcases hm2 with rfl | rfl
            · go_wp2
              go_region
              all_goals
                go_wp2
                go_roundw
                case rel => exact ⟨j + 1, by omega, by go_num, HL1, ⟨by rw [HT0.out, HT1.out]; simpa using (HS.out.dep0 (t0 + eb)).below (below_drew (Below.refl _ _))⟩⟩
                case measure => simp [intOf] <;> omega
            · go_wp2
              go_region
              all_goals
                go_wp2
                go_roundw
                case rel => exact ⟨j + 1, by omega, by go_num, HL1, ⟨by rw [HT0.out, HT1.out]; simpa using (HS.out.dep1 (t1 + eb)).below (below_drew (Below.refl _ _))⟩⟩
                case measure => simp [intOf] <;> omega
          · have hpe : p < ea := by omega
            have HH := Sh.mk (show decide (0 < t0) = inL la p ∧ decide (0 < t1) = inL lb p by
              rw [HQ0.out, HQ1.out]
              exact held_at HE.out HMa.out HMb.out (by rw [← HN.out]; exact hj) HL.out (fun _ => by rw [← HEj.out]; exact hpe))
            have HC := Sh.mk (show ∀ q, p ≤ q → q < ea → kf (inL la q) (inL lb q) = kf (inL la p) (inL lb p) from fun q h1 h2 => by
              have g := held_at HE.out HMa.out HMb.out (i := j) (p := q) (by rw [← HN.out]; exact hj) (fun k hk => Int.le_trans (HL.out k hk) h1) (fun _ => by rw [← HEj.out]; exact h2)
              rw [← HQ0.out, ← HQ1.out] at g
              rw [← g.1, ← g.2, HH.out.1, HH.out.2])
            have HL2 := Sh.mk (show ∀ k, k < j → (edAt es k).1 ≤ ea from fun k hk => Int.le_trans (HL.out k hk) (by omega))
            clear hm2 hb1 y1 y2
            have HQ := Sh.mk (show kf (inL la p) (inL lb p) = kf (decide (0 < t0)) (decide (0 < t1)) by rw [HH.out.1, HH.out.2])
            obtain ⟨b, hb⟩ : ∃ b, b = kf (decide (0 < t0)) (decide (0 < t1)) := ⟨_, rfl⟩
            have z0 := blk_cell HS.out.dp 0
            have z1 := blk_cell HS.out.dp 1
            simp only [List.getElem?_toArray, List.getElem?_cons_zero, List.getElem?_cons_succ] at z0 z1
            go_wp2_with fail
            refine (HKF.out _ _ _).mono ?_
            rintro e w2 ⟨rfl, rfl⟩
            rw [← hb]
            rw [← hb] at HQ
            clear hb z0 z1
            cases b with
            | false =>
              have HU2 := Sh.mk (HU.out.skip (b := ea) (by omega) hp0 HC.out HQ.out)
              clear HL HU
              go_wp2
              go_roundw
              case rel => exact ⟨ea, j, out, by omega, by omega, by omega, rfl, rfl, HL2, HU2, ⟨by rw [← HQ0.out, ← HQ1.out]; exact HS.out⟩⟩
              case measure => simp [intOf] <;> omega
            | true =>
              rcases List.eq_nil_or_concat out with hout | ⟨l, r, hout⟩
              · have HU2 := Sh.mk (HU.out.more (b := ea) (by omega) (by omega) hp0 HC.out HQ.out (fun l r h => by rw [hout] at h; simp at h))
                have hol : out.length ≤ 8388608 := by rw [hout]; simp
                obtain ⟨Av, cv, rfl⟩ := Kd.R_slice HS.out.out
                have HOL := Sh.mk (show out.length = 0 by rw [hout]; rfl)
                rw [HOL.out] at HS ⊢
                clear HL HU hout
                go_wp2_with (first | ((with_reducible refine gate_builtin (b := .append) (xs := #[.tmp 86, .tmp 91]) rfl ?_); refine app_rg (w0 := w) (.tmp 86) (.tmp 91) _ out (p, ea - 1) rfl rfl rfl _ rfl rfl HS.out.out HS.out.bel HS.out.bel.size hol ?_; intro v1 w3 ho hb3 hg3; have HS3 := Sh.mk (HS.out.push ho hb3 hg3); clear ho hb3 hg3 HS))
                go_roundw
                case rel => exact ⟨ea, j, _, by omega, by omega, by omega, rfl, rfl, HL2, HU2, ⟨by rw [← HQ0.out, ← HQ1.out]; exact HS3.out⟩⟩
                case measure => simp [intOf] <;> omega
              · rw [List.concat_eq_append] at hout
                subst hout
                have hla := HU.out.last
                obtain ⟨r1, r2⟩ := r
                dsimp only at hla
                obtain ⟨hla1, hla2, hla3⟩ := hla
                have hll := nm_len _ _ HU.out.h2 (by omega)
                obtain ⟨g, cap, rfl, -, -⟩ := Kd.R_form HS.out.out (by simp)
                rw [List.length_append, show [(r1, r2)].length = 1 from rfl] at hll HS ⊢
                obtain ⟨y3, f3⟩ := HS.out.high
                obtain ⟨m, hm⟩ : ∃ m, m = l.length := ⟨_, rfl⟩
                have HM := Sh.mk hm
                have HSL := fun x => HS.out.last x
                rw [← hm] at hll HS y3 f3 HSL ⊢
                dsimp only at y3
                have HSL := Sh.mk HSL
                clear hm
                by_cases hre : r2 + 1 = p
                · have HU2 := Sh.mk (HU.out.join (b := ea) (by omega) (by omega) HC.out HQ.out hre)
                  have hbe : (r2 + 1 == p) = true := by simpa using hre
                  clear HL HU hre
                  go_wp2
                  go_roundw
                  case rel => exact ⟨ea, j, _, by omega, by omega, by omega, rfl, rfl, HL2, HU2, ⟨by rw [← HQ0.out, ← HQ1.out]; exact HSL.out _⟩⟩
                  case measure => simp [intOf] <;> omega
                · have HU2 := Sh.mk (HU.out.more (b := ea) (by omega) (by omega) hp0 HC.out HQ.out (fun l' r' h => by
                    have h2 := (List.append_inj' h rfl).2
                    cases h2
                    exact hre))
                  have hbe : (r2 + 1 == p) = false := by simpa using hre
                  have hol : (l ++ [(r1, r2)]).length ≤ 8388608 := by rw [List.length_append, ← HM.out]; simp; omega
                  clear HL HU hre y3 f3 HSL
                  have y3 := HS.out.high.1
                  rw [← HM.out] at y3
                  dsimp only at y3
                  go_wp2_with (first | ((with_reducible refine gate_builtin (b := .append) (xs := #[.tmp 86, .tmp 91]) rfl ?_); refine app_rg (w0 := w) (.tmp 86) (.tmp 91) _ (l ++ [(r1, r2)]) (p, ea - 1) rfl rfl rfl _ rfl rfl HS.out.out HS.out.bel HS.out.bel.size hol ?_; intro v1 w3 ho hb3 hg3; have HS3 := Sh.mk (HS.out.push ho hb3 hg3); clear ho hb3 hg3 HS y3))
                  go_roundw
                  case rel => exact ⟨ea, j, _, by omega, by omega, by omega, rfl, rfl, HL2, HU2, ⟨by rw [← HQ0.out, ← HQ1.out]; exact HS3.out⟩⟩
                  case measure => simp [intOf] <;> omega
        · obtain rfl : j = n := by omega
          obtain ⟨t0, ht0⟩ : ∃ t, t = tot (es.take j) 0 := ⟨_, rfl⟩
          obtain ⟨t1, ht1⟩ : ∃ t, t = tot (es.take j) 1 := ⟨_, rfl⟩
          rw [← ht0] at htb0 HS
          rw [← ht1] at htb1 HS
          have HQ0 := Sh.mk ht0
          have HQ1 := Sh.mk ht1
          clear ht0 ht1
          have HH := Sh.mk (show decide (0 < t0) = inL la p ∧ decide (0 < t1) = inL lb p by
            rw [HQ0.out, HQ1.out]
            exact held_at HE.out HMa.out HMb.out (by rw [← HN.out]; exact hj) HL.out (fun h => absurd h (by rw [← HN.out]; omega)))
          have HC := Sh.mk (show ∀ q, p ≤ q → q < 1114112 → kf (inL la q) (inL lb q) = kf (inL la p) (inL lb p) from fun q h1 h2 => by
            have g := held_at HE.out HMa.out HMb.out (i := j) (p := q) (by rw [← HN.out]; exact hj) (fun k hk => Int.le_trans (HL.out k hk) h1) (fun h => absurd h (by rw [← HN.out]; omega))
            rw [← HQ0.out, ← HQ1.out] at g
            rw [← g.1, ← g.2, HH.out.1, HH.out.2])
          have HL2 := Sh.mk (show ∀ k, k < j → (edAt es k).1 ≤ 1114112 from fun k hk => Int.le_trans (HL.out k hk) (by omega))
          have HQ := Sh.mk (show kf (inL la p) (inL lb p) = kf (decide (0 < t0)) (decide (0 < t1)) by rw [HH.out.1, HH.out.2])
          obtain ⟨b, hb⟩ : ∃ b, b = kf (decide (0 < t0)) (decide (0 < t1)) := ⟨_, rfl⟩
          have z0 := blk_cell HS.out.dp 0
          have z1 := blk_cell HS.out.dp 1
          simp only [List.getElem?_toArray, List.getElem?_cons_zero, List.getElem?_cons_succ] at z0 z1
          go_wp2_with fail
          refine (HKF.out _ _ _).mono ?_
          rintro e w2 ⟨rfl, rfl⟩
          rw [← hb]
          rw [← hb] at HQ
          clear hb z0 z1
          cases b with
          | false =>
            have HU2 := Sh.mk (HU.out.skip (b := 1114112) (by omega) hp0 HC.out HQ.out)
            clear HL HU
            go_wp2
            go_roundw
            case rel => exact ⟨1114112, j, out, by omega, by omega, by omega, rfl, rfl, HL2, HU2, ⟨by rw [← HQ0.out, ← HQ1.out]; exact HS.out⟩⟩
            case measure => simp [intOf] <;> omega
          | true =>
            rcases List.eq_nil_or_concat out with hout | ⟨l, r, hout⟩
            · have HU2 := Sh.mk (HU.out.more (b := 1114112) (by omega) (by omega) hp0 HC.out HQ.out (fun l r h => by rw [hout] at h; simp at h))
              have hol : out.length ≤ 8388608 := by rw [hout]; simp
              obtain ⟨Av, cv, rfl⟩ := Kd.R_slice HS.out.out
              have HOL := Sh.mk (show out.length = 0 by rw [hout]; rfl)
              rw [HOL.out] at HS ⊢
              clear HL HU hout
              go_wp2_with (first | ((with_reducible refine gate_builtin (b := .append) (xs := #[.tmp 86, .tmp 91]) rfl ?_); refine app_rg (w0 := w) (.tmp 86) (.tmp 91) _ out (p, 1114111) rfl rfl rfl _ rfl rfl HS.out.out HS.out.bel HS.out.bel.size hol ?_; intro v1 w3 ho hb3 hg3; have HS3 := Sh.mk (HS.out.push ho hb3 hg3); clear ho hb3 hg3 HS))
              go_roundw
              case rel => exact ⟨1114112, j, _, by omega, by omega, by omega, rfl, rfl, HL2, HU2, ⟨by rw [← HQ0.out, ← HQ1.out]; exact HS3.out⟩⟩
              case measure => simp [intOf] <;> omega
            · rw [List.concat_eq_append] at hout
              subst hout
              have hla := HU.out.last
              obtain ⟨r1, r2⟩ := r
              dsimp only at hla
              obtain ⟨hla1, hla2, hla3⟩ := hla
              have hll := nm_len _ _ HU.out.h2 (by omega)
              obtain ⟨g, cap, rfl, -, -⟩ := Kd.R_form HS.out.out (by simp)
              rw [List.length_append, show [(r1, r2)].length = 1 from rfl] at hll HS ⊢
              obtain ⟨y3, f3⟩ := HS.out.high
              obtain ⟨m, hm⟩ : ∃ m, m = l.length := ⟨_, rfl⟩
              have HM := Sh.mk hm
              have HSL := fun x => HS.out.last x
              rw [← hm] at hll HS y3 f3 HSL ⊢
              dsimp only at y3
              have HSL := Sh.mk HSL
              clear hm
              by_cases hre : r2 + 1 = p
              · have HU2 := Sh.mk (HU.out.join (b := 1114112) (by omega) (by omega) HC.out HQ.out hre)
                have hbe : (r2 + 1 == p) = true := by simpa using hre
                clear HL HU hre
                go_wp2
                go_roundw
                case rel => exact ⟨1114112, j, _, by omega, by omega, by omega, rfl, rfl, HL2, HU2, ⟨by rw [← HQ0.out, ← HQ1.out]; exact HSL.out _⟩⟩
                case measure => simp [intOf] <;> omega
              · have HU2 := Sh.mk (HU.out.more (b := 1114112) (by omega) (by omega) hp0 HC.out HQ.out (fun l' r' h => by
                  have h2 := (List.append_inj' h rfl).2
                  cases h2
                  exact hre))
                have hbe : (r2 + 1 == p) = false := by simpa using hre
                have hol : (l ++ [(r1, r2)]).length ≤ 8388608 := by rw [List.length_append, ← HM.out]; simp; omega
                clear HL HU hre y3 f3 HSL
                have y3 := HS.out.high.1
                rw [← HM.out] at y3
                dsimp only at y3
                go_wp2_with (first | ((with_reducible refine gate_builtin (b := .append) (xs := #[.tmp 86, .tmp 91]) rfl ?_); refine app_rg (w0 := w) (.tmp 86) (.tmp 91) _ (l ++ [(r1, r2)]) (p, 1114111) rfl rfl rfl _ rfl rfl HS.out.out HS.out.bel HS.out.bel.size hol ?_; intro v1 w3 ho hb3 hg3; have HS3 := Sh.mk (HS.out.push ho hb3 hg3); clear ho hb3 hg3 HS y3))
                go_roundw
                case rel => exact ⟨1114112, j, _, by omega, by omega, by omega, rfl, rfl, HL2, HU2, ⟨by rw [← HQ0.out, ← HQ1.out]; exact HS3.out⟩⟩
                case measure => simp [intOf] <;> omega
    · obtain rfl : p = 1114112 := by omega
      go_wp2
      go_ret
      exact ⟨_, rfl, out, HU.out.whole, HS.out.out, HS.out.bel⟩
end Go.Proofs.YthjdjgppghplgaaDoor
