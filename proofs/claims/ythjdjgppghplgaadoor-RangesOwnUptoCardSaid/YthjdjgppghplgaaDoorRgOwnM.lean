/-
Several texts as one: Rowing, RgHanded, RgFew, RgOwnL, RgOwnW.
-/
import Derived.Test.YthjdjgppghplgaaDoorGl
import Derived.Test.YthjdjgppghplgaaDoorWApart
import Derived.Test.YthjdjgppghplgaaDoorWMore
import Derived.ArgAppend
import Derived.Test.YthjdjgppghplgaaDoorRgAnswersW
import Derived.Deep.DeepCutAuto
/- Rows of rows that were answered: an append said in both ways, rows joined, one row of them written or grown. Conditions: lengths within Go's bounds. -/
namespace Go.Proofs.YthjdjgppghplgaaDoor
open Go Go.RowKit Go.Proofs.YthjdjgppghplgaaDoorW.PrintWords Go.Proofs.YthjdjgppghplgaaDoorW.PrintLast Go.Proofs.YthjdjgppghplgaaDoorW.PrintMore
section
variable {α : Type} {d : Kd α} {P : Program} {W w1 : World} {base e : Nat} {ok okp : Nat → Prop} {v : Value} {ys : List α} {p : α} {cs : List Value}
/-- An append of one more: in place, or elsewhere and nothing old is touched. -/
theorem R_app_two (t ty : TypeId) (z : Value) (bytes : Nat) (ht : P.underlying t = some (.slice e)) (hinfo : (P.info? e).map (fun i => (i.zero, i.size, i.bytes)) = some (some z, d.sz, bytes)) (hz : z.cells.size = d.sz) (hs0 : 0 < d.sz) (hb0 : 0 < bytes)
    (hp : d.M W base okp p cs) (hokp : ∀ k, okp k → ok k ∧ some k ≠ v.ownBlock) (hfresh : ∀ k, W.heap.size ≤ k → ok k) (h : d.R e W base ok v ys) (hbase : base ≤ W.heap.size) (hl : (ys.length + 1) * bytes ≤ 140737488355328) :
    ∃ v1 w1, (Builtin.append_ #[t, t] ty #[v, .slice (some ⟨W.heap.size, 0, none⟩) 1 1]).run P (W.alloc (.cells cs.toArray e)) = .ok v1 w1 ∧ d.R e w1 base ok v1 (ys ++ [p]) ∧ W.grownBy w1 v.ownBlock ∧
      ((∃ g c, v = .slice (some ⟨g, 0, none⟩) ys.length c ∧ v1 = .slice (some ⟨g, 0, none⟩) (ys.length + 1) c) ∨ (W.grownBy w1 none ∧ ∃ k, v1.ownBlock = some k ∧ W.heap.size ≤ k)) := by
  obtain ⟨i0, hi, hzz⟩ := Option.map_eq_some_iff.1 hinfo
  simp only [Prod.mk.injEq] at hzz
  obtain ⟨hz0, hz1, hz2⟩ := hzz
  have hlen : ys.length + 1 ≤ 140737488355328 := Nat.le_trans (Nat.le_mul_of_pos_right _ hb0) hl
  obtain ⟨h0, inner, hown, hr⟩ := h
  have hcl := d.K_len (d.K_of_M hp)
  have hc1 := d.K_one (d.K_of_M hp)
  have hnew : ∀ j u, cs[j]? = some u → (W.alloc (.cells cs.toArray e)).cell? ((⟨W.heap.size, 0, none⟩ : Addr).add j) = some u := by
    simpa using World.news_of_block (cs := cs.toArray) (t := e) (fr := (0, 0)) (heap_alloc_new W (.cells cs.toArray e))
  have hcm : ys.length + 1 ≤ maxLen := by simp only [maxLen]; omega
  obtain ⟨v1, w1, hrun, hown1, hg, _, hat⟩ := run_append_own_at (P := P) (W.alloc (.cells cs.toArray e)) base t ty e i0 z d.sz bytes ht hi hz0 hz1 hz2 hz hs0 v ys.length inner (hown.alloc _) ⟨W.heap.size, 0, none⟩ 1 1 cs (by rw [hcl]; simp) hnew hc1 hcm hl (by simp; omega)
  have hg0 : W.grownBy w1 v.ownBlock := World.grownBy.trans (World.grownBy_alloc W _ _) hg
  have hat0 : v1.ownBlock = v.ownBlock ∨ ∃ b, v1.ownBlock = some b ∧ W.heap.size ≤ b := by
    rcases hat with hat | hat
    · exact .inl hat
    · exact .inr ⟨_, hat, by simp⟩
  refine ⟨v1, w1, hrun, Kd.R_appended h0 hr hp hokp hfresh hown1 hg0 hat0, hg0, ?_⟩
  obtain ⟨g1, c1, hv1, hb1, hlt1⟩ := hown1.form (by omega)
  rcases hown.2 with ⟨rfl, _⟩ | ⟨g, cap, cur, rfl, hgb, hh, hnc, hcap, hsz, htk⟩
  · refine .inr ⟨hg0, ?_⟩
    rcases hat0 with h1 | h1
    · rw [hv1] at h1
      simp [Value.ownBlock] at h1
    · exact h1
  · have hh' : (W.alloc (.cells cs.toArray e)).heap[g]? = some (.cells cur e (0, 0)) := blk_alloc hh _
    by_cases hroom : ys.length + 1 ≤ cap
    · refine .inl ⟨g, cap, rfl, ?_⟩
      have hr2 := run_append_room_cells (P := P) (W.alloc (.cells cs.toArray e)) t ty e i0 ht hi g 0 ys.length cap ⟨W.heap.size, 0, none⟩ 1 1 cs (by rw [hcl, hz1]; simp) hnew hc1 hroom
        (fun j hj => by
          have hlt : 0 + ys.length * i0.size + j < cur.size := by
            rw [hsz, hz1]
            have : (ys.length + 1) * d.sz ≤ cap * d.sz := Nat.mul_le_mul_right _ hroom
            rw [Nat.add_mul, Nat.one_mul] at this
            omega
          rw [blk_cell hh', Array.getElem?_eq_getElem hlt]
          rfl) (fun j _ => blk_frozen hh' _)
      rw [hrun] at hr2
      injection hr2
    · refine .inr ?_
      have hlo : inner.length = ys.length * d.sz := hown.1
      have holds : ∀ j u, inner[j]? = some u → (W.alloc (.cells cs.toArray e)).cell? ((⟨g, 0, none⟩ : Addr).add j) = some u := by
        intro j u hj
        rw [add_plain]
        have := (hown.alloc (.cells cs.toArray e)).cellAt j (by rw [← hlo]; exact (List.getElem?_eq_some_iff.1 hj).1)
        rw [this, hj]
      obtain ⟨v2, w2, hrun2, hown2, hg2⟩ := run_append_arg_grows (P := P) (W.alloc (.cells cs.toArray e)) t ty e i0 z d.sz bytes ht hi hz0 hz1 hz2 hz hs0 ⟨g, 0, none⟩ ys.length cap inner hlo holds ⟨W.heap.size, 0, none⟩ 1 1 cs (by rw [hcl]; simp) hnew (by omega) hcm hl
      rw [hrun] at hrun2
      injection hrun2 with e1 e2
      subst e1
      subst e2
      refine ⟨World.grownBy.trans (World.grownBy_alloc W _ _) hg2, g1, by rw [hv1]; rfl, ?_⟩
      have := own_base hown2 g1 (by rw [hv1]; rfl)
      simp at this
      omega
end
/-- A row that was answered (value vi, world W0), and a copy of its header that is appended to. -/
structure Grow {α : Type} (d : Kd α) (e : Nat) (W0 W : World) (base : Nat) (vi : Value) (xs ys : List α) (l : Value) : Prop where
  now : d.R e W base (fun _ => True) l ys
  sz : W0.heap.size ≤ W.heap.size
  g : W0.grownBy W vi.ownBlock
  lt : ∀ k, vi.ownBlock = some k → k < W0.heap.size
  kept : (∃ g c, vi = .slice (some ⟨g, 0, none⟩) xs.length c ∧ l = .slice (some ⟨g, 0, none⟩) ys.length c ∧ ys.take xs.length = xs ∧ xs.length ≤ ys.length) ∨
    (d.R e W base (fun _ => True) vi xs ∧ ∀ k, l.ownBlock = some k → W0.heap.size ≤ k)
section
variable {α : Type} {d : Kd α} {e base : Nat} {W0 W w1 : World} {vi l v1 : Value} {xs ys : List α} {p : α} {ok : Nat → Prop}
theorem Grow.start (h : d.R e W0 base ok vi xs) : Grow d e W0 W0 base vi xs xs vi := by
  refine ⟨Kd.R_mono h (fun _ _ => trivial), Nat.le_refl _, World.grownBy.refl _ _, Kd.R_lt h, ?_⟩
  obtain ⟨inner, ho⟩ := Kd.R_own h
  rcases ho.2 with ⟨rfl, _⟩ | ⟨g, cap, cur, rfl, _⟩
  · exact .inr ⟨Kd.R_mono h (fun _ _ => trivial), fun k hk => by simp [Value.ownBlock] at hk⟩
  · exact .inl ⟨g, cap, rfl, rfl, List.take_length, Nat.le_refl _⟩
/-- The row itself is as it was. -/
theorem Grow.row (h : Grow d e W0 W base vi xs ys l) : d.R e W base (fun _ => True) vi xs := by
  rcases h.kept with ⟨g, c, rfl, hl, ht, hle⟩ | ⟨h1, _⟩
  · have h2 := h.now
    rw [hl] at h2
    have h3 := Kd.R_take h2 (m := xs.length) hle
    rwa [ht] at h3
  · exact h1
theorem Grow.step (h : Grow d e W0 W base vi xs ys l) (hr : d.R e w1 base (fun _ => True) v1 (ys ++ [p])) (hg : W.grownBy w1 l.ownBlock)
    (hat : (∃ g c, l = .slice (some ⟨g, 0, none⟩) ys.length c ∧ v1 = .slice (some ⟨g, 0, none⟩) (ys.length + 1) c) ∨ (W.grownBy w1 none ∧ ∃ k, v1.ownBlock = some k ∧ W.heap.size ≤ k)) (hd : d.E = []) : Grow d e W0 w1 base vi xs (ys ++ [p]) v1 := by
  have hsz := Nat.le_trans h.sz hg.size
  have hrow := h.row
  rcases h.kept with ⟨g, c, hvi, hl, ht, hle⟩ | ⟨h1, h2⟩
  · have hob : l.ownBlock = vi.ownBlock := by rw [hvi, hl]; rfl
    have hg' : W0.grownBy w1 vi.ownBlock := World.grownBy.trans h.g (by rw [← hob]; exact hg)
    rcases hat with ⟨g', c', hl', hv'⟩ | ⟨hn, k, hk, hks⟩
    · rw [hl] at hl'
      injection hl' with e1 _ e3
      injection e1 with e1
      injection e1 with e1
      subst e1
      subst e3
      refine ⟨hr, hsz, hg', h.lt, .inl ⟨g, c, hvi, by rw [hv', List.length_append]; rfl, ?_, by rw [List.length_append]; omega⟩⟩
      rw [List.take_append_of_le_length hle]
      exact ht
    · refine ⟨hr, hsz, hg', h.lt, .inr ⟨Kd.R_below hrow (w1 := w1) ⟨hn.os, hn.tape, hn.output, hn.size, fun k hk => hn.block k hk (by simp)⟩, fun k' hk' => ?_⟩⟩
      rw [hk] at hk'
      injection hk' with hk'
      have := h.sz
      omega
  · have hlk : ∀ k, l.ownBlock = some k → W0.heap.size ≤ k := h2
    have hg0 : W0.grownBy w1 vi.ownBlock := ⟨hg.os.trans h.g.os, hg.tape.trans h.g.tape, hg.output.trans h.g.output, hsz, fun k hk hne => (hg.block k (Nat.lt_of_lt_of_le hk h.sz) (fun he => by have := hlk k he.symm; omega)).trans (h.g.block k hk hne)⟩
    refine ⟨hr, hsz, hg0, h.lt, .inr ⟨Kd.R_mono (Kd.R_grown (Kd.R_mono (Kd.R_tight hd h1) (ok' := fun k => k < W0.heap.size) (fun k hk => h.lt k hk.symm)) hg (fun k hk he => by have := hlk k he.symm; omega)) (fun _ _ => trivial), fun k hk => ?_⟩⟩
    rcases hat with ⟨g', c', hl', hv'⟩ | ⟨_, k', hk', hks⟩
    · exact hlk k (by rw [← hk, hl', hv']; rfl)
    · rw [hk'] at hk
      injection hk with hk
      have := h.sz
      omega
/-- Something else was made. -/
theorem Grow.alloc (h : Grow d e W0 W base vi xs ys l) (o : Obj) : Grow d e W0 (W.alloc o) base vi xs ys l :=
  ⟨Kd.R_below h.now (below_alloc (Below.refl _ _) o), Nat.le_trans h.sz (by simp), World.grownBy.trans h.g (grown_of_below (below_alloc (Below.refl _ _) o) _), h.lt, h.kept.imp id fun ⟨h1, h2⟩ => ⟨Kd.R_below h1 (below_alloc (Below.refl _ _) o), h2⟩⟩
end
/-- Lists as one row: rows of a row of rows joined to another. -/
theorem zip_two {α : Type} (xs ys : List α) : (xs ++ ys).zipIdx = xs.zipIdx ++ ys.zipIdx xs.length := by rw [List.zipIdx_append, Nat.zero_add]
section
variable {P : Program} {ops : Array Oper} {rest : List Oper} {o : Oper} {a : Act} {Q : Exit → Act → World → Prop} {α : Type}
/-- append(v, u...), u's rows younger than all of v's. -/
theorem S_append_rows (d : Kd α) {w0 W : World} (base N : Nat) (hgd : o.guard = none) (s x : Operand) (t e : TypeId) (z : Value) (bytes : Nat)
    (ho : o.op = .call { callee := .builtin .append, args := #[s, x], argTypes := #[t, t] })
    (ht : P.underlying t = some (.slice e)) (hinfo : (P.info? e).map (fun i => (i.zero, i.size, i.bytes)) = some (some z, d.sz, bytes)) (hz : z.cells.size = d.sz) (hs0 : 0 < d.sz) (hb0 : 0 < bytes)
    (v u : Value) (xs ys : List α) (hs : a.eval s = v) (hx : a.eval x = u)
    (HO : Kd.S d e W base (fun k => k < N) v xs) (HU : Kd.S d e W N (fun _ => True) u ys) (hN : base ≤ N)
    (HB : Below base w0 W) (hbase : base ≤ W.heap.size) (hl : (xs.length + ys.length) * bytes ≤ 140737488355328)
    (h : ∀ v1 w1, Kd.S d e w1 base (fun _ => True) v1 (xs ++ ys) → Below base w0 w1 → wpList P ops Q rest (a.put o.dst v1) w1) :
    wpList P ops Q (o :: rest) a W := by
  obtain ⟨f, hR⟩ := HO
  obtain ⟨fu, hU⟩ := HU
  obtain ⟨_, inner, hown, hrep⟩ := hU
  have hv : ∀ k, v.ownBlock = some k → k < N := hR.1
  rw [List.length_zipIdx] at hown
  have hR2 : (Kd.tag (fun k => if N ≤ k then fu k + xs.length else f k) d).R e W base (fun _ => True) v xs.zipIdx :=
    Kd.R_mono (Kd.R_tag hR (fun k hk _ => if_neg (by omega))) (fun _ _ => trivial)
  have hrep2 : Reps ((Kd.tag (fun k => if N ≤ k then fu k + xs.length else f k) d).M W base (fun k => N ≤ k)) d.sz (ys.zipIdx xs.length) inner := by
    refine ⟨by have := hrep.1; rw [List.length_zipIdx] at this ⊢; exact this, fun j p hj => ?_⟩
    rw [List.getElem?_zipIdx] at hj
    obtain ⟨y, hy, rfl⟩ := Option.map_eq_some_iff.1 hj
    have hM := hrep.2 j (y, j) (Kd.zip_at hy)
    refine d.M_mono (fun k hk => ?_) (d.M_lower hN (d.M_bound hM))
    obtain ⟨⟨_, hfk⟩, hNk, _⟩ := hk
    refine ⟨hNk, ?_⟩
    show (if N ≤ k then fu k + xs.length else f k) = _
    rw [if_pos hNk, hfk]
    show j + xs.length = xs.length + j
    omega
  obtain ⟨A, c, rfl, hRd⟩ := own_reads_row hown hrep2 (by rw [List.length_zipIdx])
  refine Kd.R_append_rows (Kd.tag (fun k => if N ≤ k then fu k + xs.length else f k) d) base hgd s x t e z bytes ho ht hinfo hz hs0 hb0 v xs.zipIdx (ys.zipIdx xs.length) A ys.length c (fun _ => True) (fun k => N ≤ k) hs hx hR2 hRd (fun _ _ hp => hp)
    (fun k hk => ⟨trivial, fun he => by have := hv k he.symm; omega⟩) (fun _ _ => trivial) HB hbase (by rw [List.length_zipIdx]; exact hl) ?_
  intro v1 w1 hr hb _ _
  rw [← zip_two] at hr
  exact h v1 w1 ⟨_, hr⟩ hb
end
end Go.Proofs.YthjdjgppghplgaaDoor
/- caesuralaw3.handed: five answers, each in memory of its own; caesuralaw3.few. Conditions: lists of at most 2^20 ranges; the refusals read as listed. -/
namespace Go.Proofs.YthjdjgppghplgaaDoor
open Go Go.RowKit Go.Proofs.YthjdjgppghplgaaDoorW.PrintWords Go.Proofs.YthjdjgppghplgaaDoorW.PrintLast Go.Proofs.YthjdjgppghplgaaDoorW.PrintMore
/-- The one normal list of what is asked; none where it is refused. -/
noncomputable def onlyL (ok : Bool) (q : Int → Bool) : List Rg := by classical exact if h : ok = true ∧ ∃ out, Is q out then h.2.choose else []
theorem onlyL_is {q : Int → Bool} {out : List Rg} (h : Is q out) : onlyL true q = out := by
  have he : true = true ∧ ∃ out, Is q out := ⟨rfl, out, h⟩
  unfold onlyL
  rw [dif_pos he]
  exact Is.uniq he.2.choose_spec h (fun _ _ _ => rfl)
theorem onlyL_no (q : Int → Bool) : onlyL false q = [] := by
  unfold onlyL
  rw [dif_neg (fun h => by cases h.1)]
theorem onlyL_len (ok : Bool) (q : Int → Bool) : (onlyL ok q).length ≤ 557056 := by
  unfold onlyL
  split
  · next h => exact Is.len h.2.choose_spec
  · simp
theorem post_row {E : Nat → Addr} {ok : Bool} {q : Int → Bool} {w w' : World} {e : Ending} (h : RgPost E ok q w e w') :
    ∃ (A : Option Addr) (n c : Nat) (x : Value), e = .returned (.tuple #[.slice A n c, x]) ∧ rgK.R RgT w' w.heap.size (fun _ => True) (.slice A n c) (onlyL ok q) ∧ Below w.heap.size w w' := by
  cases ok with
  | true =>
    obtain ⟨v, out, rfl, hi, hR, hb⟩ := h
    obtain ⟨A, c, rfl⟩ := Kd.R_slice hR
    rw [onlyL_is hi]
    exact ⟨A, _, c, _, rfl, hR, hb⟩
  | false =>
    obtain ⟨rfl, hb⟩ := h
    rw [onlyL_no]
    exact ⟨none, 0, 0, _, rfl, Kd.R_nil _ _ _ _ _, hb⟩
noncomputable def hand (la lb : List Rg) : List (List Rg) :=
  [onlyL (mayL la) (inL la), onlyL (mayL la && mayL lb) (fun p => inL la p || inL lb p), onlyL (mayL la && mayL lb) (fun p => inL la p && inL lb p), onlyL (mayL la && mayL lb) (fun p => inL la p && !inL lb p), onlyL (mayL la) (fun p => !inL la p)]
theorem hand_len (la lb : List Rg) : (hand la lb).length = 5 := rfl
abbrev rrK : Kd (List Rg) := Kd.slice RgT rgK
abbrev RrT : Nat := 22
theorem info_rr : (Tryd.prog.info? RrT).map (fun i => (i.zero, i.size, i.bytes)) = some (some (.slice none 0 0), 1, 24) := by kernel_rfl
section
variable {ops : Array Oper} {rest : List Oper} {o : Oper} {a : Act} {Q : Exit → Act → World → Prop}
/-- append(v, l): l's row is younger than v's. -/
theorem app_rr (s x : Operand) {base N : Nat} {w0 W : World} (v : Value) (xss : List (List Rg)) (A : Option Addr) (n c : Nat) (xs : List Rg)
    (ho : o.op = .call { callee := .builtin .append, args := #[s, x], argTypes := #[42, 42] }) (hgd : o.guard = none) (hs : a.eval s = v) (g : Nat) (hg : W.heap.size = g) (hx : a.eval x = .slice (some ⟨g, 0, none⟩) 1 1)
    (HO : Kd.S rrK RrT W base (fun k => k < N) v xss) (HL : rgK.R RgT W N (fun _ => True) (.slice A n c) xs) (hN : base ≤ N) (HB : Below base w0 W) (hbase : base ≤ W.heap.size) (hl : xss.length ≤ 8388608)
    (h : ∀ v1 w1, Kd.S rrK RrT w1 base (fun _ => True) v1 (xss ++ [xs]) → Below base w0 w1 → wpList Tryd.prog ops Q rest (a.put o.dst v1) w1) :
    wpList Tryd.prog ops Q (o :: rest) a (W.alloc (.cells #[.slice A n c] RrT)) := by
  subst hg
  have hv := (Kd.S_R HO).1
  exact Kd.S_append rrK (w0 := w0) base hgd s x 42 RrT (.slice none 0 0) 24 ho Tryd.underlying42 info_rr rfl (by decide) (by decide) v xss xs [.slice A n c] (fun _ => True) (fun k => N ≤ k) hs hx
    ⟨_, rfl, Kd.R_mono (Kd.R_lower (Kd.R_bound HL) hN) (fun _ hk => hk.2.1)⟩ (fun k hk => ⟨trivial, fun he => by have := hv k he.symm; omega⟩) (fun _ _ => trivial) (Kd.S_mono HO (fun k hk => ⟨trivial, by omega⟩)) HB hbase (by omega) (fun v1 w1 h1 h2 _ _ => h v1 w1 h1 h2)
end
set_option maxHeartbeats 16000000 in
set_option maxRecDepth 100000 in
theorem handed_any (E : Nat → Addr) (A B : Option Addr) (cA cB nA nB : Nat) (la lb : List Rg) (w : World) (hE : GS allS E w) (hA : rgK.C w A nA la) (hB : rgK.C w B nB lb) (hcA : nA ≤ cA) (hcB : nB ≤ cB) (hna : nA ≤ 1048576) (hnb : nB ≤ 1048576) :
    Calls Tryd.prog 20 #[.slice A nA cA, .slice B nB cB] w fun e w' => ∃ v, e = .returned v ∧ Kd.S rrK RrT w' w.heap.size (fun _ => True) v (hand la lb) ∧ Below w.heap.size w w' := by
  have HE := Sh.mk hE
  have HCa := Sh.mk hA
  have HCb := Sh.mk hB
  have HB0 := Sh.mk (Below.refl w.heap.size w)
  have HS0 := Sh.mk (Kd.S_nil rrK RrT w w.heap.size (fun _ => True))
  clear hE hA hB
  go_enter Tryd.func20, Tryd.ntmps20
  go_wp2_with fail
  have hc := normal_any E A cA nA la w ((HE.out.below HB0.out).sub (by decide)) (Kd.C_below HCa.out HB0.out) hcA hna
  refine hc.mono ?_
  clear hc
  rintro e u1 hp
  obtain ⟨A1, n1, c1, x1, rfl, hR, hb⟩ := post_row hp
  clear hp
  obtain ⟨r1, hr1⟩ : ∃ r, r = onlyL (mayL la) (inL la) := ⟨_, rfl⟩
  rw [← hr1] at hR
  have HQ1 := Sh.mk hr1
  have HR := Sh.mk hR
  have HO := Sh.mk (Kd.S_mono (Kd.S_old HS0.out hb) (ok' := fun k => k < w.heap.size) (fun _ hk => hk.2))
  have HB := Sh.mk (below_of HB0.out hb)
  have hN : w.heap.size ≤ w.heap.size := HB0.out.size
  have hN2 : w.heap.size ≤ u1.heap.size := HB.out.size
  clear hR hb hr1 HS0 HB0
  go_wp2_with (first | ((with_reducible refine gate_builtin (b := .append) (xs := #[.tmp 13, .tmp 15]) rfl ?_); refine app_rr (w0 := w) (.tmp 13) (.tmp 15) (.slice none 0 0) [] A1 n1 c1 r1 rfl rfl rfl _ rfl rfl HO.out HR.out hN HB.out hN2 (by simp) ?_; clear hN hN2; intro v1 w1 ho hb; have HS1 := Sh.mk ho; have HB1 := Sh.mk hb; clear ho hb HO HB HR))
  have hc := union_any E A B cA cB nA nB la lb w1 ((HE.out.below HB1.out).sub (by decide)) (Kd.C_below HCa.out HB1.out) hcA hna (Kd.C_below HCb.out HB1.out) hcB hnb
  refine hc.mono ?_
  clear hc
  rintro e u2 hp
  obtain ⟨A2, n2, c2, x2, rfl, hR, hb⟩ := post_row hp
  clear hp
  obtain ⟨r2, hr2⟩ : ∃ r, r = onlyL (mayL la && mayL lb) (fun p => inL la p || inL lb p) := ⟨_, rfl⟩
  rw [← hr2] at hR
  have HQ2 := Sh.mk hr2
  have HR := Sh.mk hR
  have HO := Sh.mk (Kd.S_mono (Kd.S_old HS1.out hb) (ok' := fun k => k < w1.heap.size) (fun _ hk => hk.2))
  have HB := Sh.mk (below_of HB1.out hb)
  have hN : w.heap.size ≤ w1.heap.size := HB1.out.size
  have hN2 : w.heap.size ≤ u2.heap.size := HB.out.size
  clear hR hb hr2 HS1 HB1
  go_wp2_with (first | ((with_reducible refine gate_builtin (b := .append) (xs := #[.tmp 23, .tmp 25]) rfl ?_); refine app_rr (w0 := w) (.tmp 23) (.tmp 25) v1 [r1] A2 n2 c2 r2 rfl rfl rfl _ rfl rfl HO.out HR.out hN HB.out hN2 (by simp) ?_; clear hN hN2; intro v2 w2 ho hb; have HS2 := Sh.mk ho; have HB2 := Sh.mk hb; clear ho hb HO HB HR))
  have hc := inter_any E A B cA cB nA nB la lb w2 ((HE.out.below HB2.out).sub (by decide)) (Kd.C_below HCa.out HB2.out) hcA hna (Kd.C_below HCb.out HB2.out) hcB hnb
  refine hc.mono ?_
  clear hc
  rintro e u3 hp
  obtain ⟨A3, n3, c3, x3, rfl, hR, hb⟩ := post_row hp
  clear hp
  obtain ⟨r3, hr3⟩ : ∃ r, r = onlyL (mayL la && mayL lb) (fun p => inL la p && inL lb p) := ⟨_, rfl⟩
  rw [← hr3] at hR
  have HQ3 := Sh.mk hr3
  have HR := Sh.mk hR
  have HO := Sh.mk (Kd.S_mono (Kd.S_old HS2.out hb) (ok' := fun k => k < w2.heap.size) (fun _ hk => hk.2))
  have HB := Sh.mk (below_of HB2.out hb)
  have hN : w.heap.size ≤ w2.heap.size := HB2.out.size
  have hN2 : w.heap.size ≤ u3.heap.size := HB.out.size
  clear hR hb hr3 HS2 HB2
  go_wp2_with (first | ((with_reducible refine gate_builtin (b := .append) (xs := #[.tmp 33, .tmp 35]) rfl ?_); refine app_rr (w0 := w) (.tmp 33) (.tmp 35) v2 [r1, r2] A3 n3 c3 r3 rfl rfl rfl _ rfl rfl HO.out HR.out hN HB.out hN2 (by simp) ?_; clear hN hN2; intro v3 w3 ho hb; have HS3 := Sh.mk ho; have HB3 := Sh.mk hb; clear ho hb HO HB HR))
  have hc := minus_any E A B cA cB nA nB la lb w3 ((HE.out.below HB3.out).sub (by decide)) (Kd.C_below HCa.out HB3.out) hcA hna (Kd.C_below HCb.out HB3.out) hcB hnb
  refine hc.mono ?_
  clear hc
  rintro e u4 hp
  obtain ⟨A4, n4, c4, x4, rfl, hR, hb⟩ := post_row hp
  clear hp
  obtain ⟨r4, hr4⟩ : ∃ r, r = onlyL (mayL la && mayL lb) (fun p => inL la p && !inL lb p) := ⟨_, rfl⟩
  rw [← hr4] at hR
  have HQ4 := Sh.mk hr4
  have HR := Sh.mk hR
  have HO := Sh.mk (Kd.S_mono (Kd.S_old HS3.out hb) (ok' := fun k => k < w3.heap.size) (fun _ hk => hk.2))
  have HB := Sh.mk (below_of HB3.out hb)
  have hN : w.heap.size ≤ w3.heap.size := HB3.out.size
  have hN2 : w.heap.size ≤ u4.heap.size := HB.out.size
  clear hR hb hr4 HS3 HB3
  go_wp2_with (first | ((with_reducible refine gate_builtin (b := .append) (xs := #[.tmp 43, .tmp 45]) rfl ?_); refine app_rr (w0 := w) (.tmp 43) (.tmp 45) v3 [r1, r2, r3] A4 n4 c4 r4 rfl rfl rfl _ rfl rfl HO.out HR.out hN HB.out hN2 (by simp) ?_; clear hN hN2; intro v4 w4 ho hb; have HS4 := Sh.mk ho; have HB4 := Sh.mk hb; clear ho hb HO HB HR))
  have hc := not_any E A cA nA la w4 ((HE.out.below HB4.out).sub (by decide)) (Kd.C_below HCa.out HB4.out) hcA hna
  refine hc.mono ?_
  clear hc
  rintro e u5 hp
  obtain ⟨A5, n5, c5, x5, rfl, hR, hb⟩ := post_row hp
  clear hp
  obtain ⟨r5, hr5⟩ : ∃ r, r = onlyL (mayL la) (fun p => !inL la p) := ⟨_, rfl⟩
  rw [← hr5] at hR
  have HQ5 := Sh.mk hr5
  have HR := Sh.mk hR
  have HO := Sh.mk (Kd.S_mono (Kd.S_old HS4.out hb) (ok' := fun k => k < w4.heap.size) (fun _ hk => hk.2))
  have HB := Sh.mk (below_of HB4.out hb)
  have hN : w.heap.size ≤ w4.heap.size := HB4.out.size
  have hN2 : w.heap.size ≤ u5.heap.size := HB.out.size
  clear hR hb hr5 HS4 HB4
  go_wp2_with (first | ((with_reducible refine gate_builtin (b := .append) (xs := #[.tmp 52, .tmp 54]) rfl ?_); refine app_rr (w0 := w) (.tmp 52) (.tmp 54) v4 [r1, r2, r3, r4] A5 n5 c5 r5 rfl rfl rfl _ rfl rfl HO.out HR.out hN HB.out hN2 (by simp) ?_; clear hN hN2; intro v5 w5 ho hb; have HS5 := Sh.mk ho; have HB5 := Sh.mk hb; clear ho hb HO HB HR))
  go_ret
  refine ⟨_, rfl, ?_, HB5.out⟩
  have e : hand la lb = [r1, r2, r3, r4, r5] := by rw [HQ1.out, HQ2.out, HQ3.out, HQ4.out, HQ5.out]; rfl
  rw [e]
  exact HS5.out
end Go.Proofs.YthjdjgppghplgaaDoor
/- caesuralaw3.few: two lists. No condition. (The first theorem: lines of print.sh's text.) -/
namespace Go.Proofs.YthjdjgppghplgaaDoor.PRangesAnswers
open Go.RowKit Go.Proofs.YthjdjgppghplgaaDoorW.PrintWords Go.Proofs.YthjdjgppghplgaaDoorW.PrintLast Go.Proofs.YthjdjgppghplgaaDoorW.PrintMore
attribute [local go_sem] max2_int min2_int max_two min_two max_three min_three max_four min_four   -- for this text's walks alone
set_option linter.unusedVariables false
set_option linter.unusedSimpArgs false
/-! ### caesuralaw3_few: function 19 -/
def caesuralaw3_few.f  : Option ((List (S35)) × (List (S35)) × Int) := some ((([(⟨1, 5⟩ : S35), (⟨9, 9⟩ : S35)] : List (S35))), (([(⟨4, 20⟩ : S35)] : List (S35))), 0)
set_option maxHeartbeats 8000000 in
set_option maxRecDepth 100000 in
theorem caesuralaw3_few.calls  (r1 : List (S35)) (r2 : List (S35)) (r3 : Int) (w : World) (h : caesuralaw3_few.f  = some (r1, r2, r3)) :
    Calls Tryd.prog 19 #[] w fun e w' => ∃ v0_ v1_ : Value, e = .returned (.agg #[v0_, v1_, .int .i64 r3]) ∧ Kd.R k35 35 w' w.heap.size (fun k_ => some k_ ≠ (v1_ : Value).ownBlock) v0_ r1 ∧ Kd.R k35 35 w' w.heap.size (fun k_ => some k_ ≠ (v0_ : Value).ownBlock) v1_ r2 ∧ Below w.heap.size w w' := by
  have hu24 := Tryd.underlying24
  have hu35 := Tryd.underlying35
  have HB := Aside0.mk (Below.refl w.heap.size w)
  have H : (some ((([(⟨1, 5⟩ : S35), (⟨9, 9⟩ : S35)] : List (S35))), (([(⟨4, 20⟩ : S35)] : List (S35))), 0)) = some (r1, r2, r3) := h
  clear h
  obtain ⟨y237, hy237⟩ : ∃ y_ : List (S35), y_ = (([(⟨1, 5⟩ : S35), (⟨9, 9⟩ : S35)] : List (S35))) := ⟨_, rfl⟩
  replace H : (some (y237, (([(⟨4, 20⟩ : S35)] : List (S35))), 0)) = some (r1, r2, r3) := by first | (rw [hy237]; with_reducible exact H) | (have H2_ := (Option.bind_some _ _).symm.trans H; rw [hy237]; with_reducible exact H2_) | (have H2_ := (Option.bind_some _ _).symm.trans H; with_reducible exact H2_) | with_reducible exact H | (rw [hy237]; exact H) | exact H
  have Ny237 := Aside0.mk hy237
  clear hy237
  obtain ⟨y240, hy240⟩ : ∃ y_ : List (S35), y_ = (([(⟨4, 20⟩ : S35)] : List (S35))) := ⟨_, rfl⟩
  replace H : (some (y237, y240, 0)) = some (r1, r2, r3) := by first | (rw [hy240]; with_reducible exact H) | (have H2_ := (Option.bind_some _ _).symm.trans H; rw [hy240]; with_reducible exact H2_) | (have H2_ := (Option.bind_some _ _).symm.trans H; with_reducible exact H2_) | with_reducible exact H | (rw [hy240]; exact H) | exact H
  have Ny240 := Aside0.mk hy240
  clear hy240
  simp only [Option.some.injEq, Prod.mk.injEq] at H
  obtain ⟨rfl, rfl, rfl⟩ := H
  go_enter Tryd.func19, Tryd.ntmps19
  go_wp2_with (first | ((with_reducible refine gate_dst (N := 0) rfl ?_); refine box_event ?hg (N := 0) ?hd (cs := #[.slice none 0 0, .slice none 0 0, .int .i64 0]) (t := 24) ?hr ?_; (case hd => rfl); (case hg => rfl); (case hr => first | (go_simp; done) | (go_simp; rfl)); intro gb236 hg w1 hbox hb; have n0_ := Aside0.mk (below_step (by repeat (first | (with_reducible first | exact HB.out | apply below_alloc | apply pw_below_drewN | apply below_drew1) | exact HB.out)) hb); have n1_ := Aside0.mk (hbox); have n2_ := Aside0.mk ((by rw [hg]; exact (below_size (by repeat (first | (with_reducible first | exact HB.out | apply below_alloc | apply pw_below_drewN | apply below_drew1) | exact HB.out))) : w.heap.size ≤ gb236)); have n3_ := Aside0.mk ((by rw [hg]; exact (below_size (by repeat (first | (with_reducible first | exact HB.out | apply below_alloc | apply pw_below_drewN | apply below_drew1) | exact HB.out))) : w.heap.size ≤ gb236)); clear HB; have HB := n0_; have BK236 := n1_; have GW236 := n2_; have GE236 := n3_; clear n0_ n1_ n2_ n3_; clear hb hbox hg) | ((with_reducible refine gate_dst (N := 3) rfl ?_); refine Kd.R_lit k35 _ 35 ?hg (N := 3) ?hd (xs := ([(⟨1, 5⟩ : S35), (⟨9, 9⟩ : S35)] : List (S35))) (inner := [.int .i64 1, .int .i64 5, .int .i64 9, .int .i64 9]) (ok := fun _ => True) (okp := fun _ => True) ?hr ?hp (fun _ hk => hk) trivial (Below.refl _ _) (Nat.le_refl _) (by simp) ?_; (case hd => rfl); (case hg => rfl); (case hr => first | (go_simp; done) | (go_simp; rfl)); (case hp => exact (Reps.c2 (show Kd.M k35 _ _ _ (⟨1, 5⟩ : S35) [.int .i64 1, .int .i64 5] from (k35_mkM _ _ _ (⟨1, 5⟩ : S35) )) (Reps.c2 (show Kd.M k35 _ _ _ (⟨9, 9⟩ : S35) [.int .i64 9, .int .i64 9] from (k35_mkM _ _ _ (⟨9, 9⟩ : S35) )) (Reps.none _ _)))); intro v238 w2 ho3 hb hg_ hnew_; clear hg_ hnew_; (first | rw [← Ny237.out] at ho3 | (simp only [Int.reduceToNat] at ho3; rw [← Ny237.out] at ho3)); have n0_ := Aside0.mk (Kd.R_lower ho3 (below_size (by repeat (first | (with_reducible first | exact HB.out | apply below_alloc | apply pw_below_drewN | apply below_drew1 | refine below_set ?_ GE236.out) | exact HB.out)))); have n1_ := Aside0.mk (blk_below (g := gb236) (o := .cells #[.slice none 0 0, .slice none 0 0, .int .i64 0] 24 (0, 0)) (by (with_reducible repeat (first | refine blk_drewN ?_ _ | refine blk_drew ?_ | refine blk_alloc ?_ _)); exact BK236.out) hb); have n2_ := Aside0.mk (below_step (by repeat (first | (with_reducible first | exact HB.out | apply below_alloc | apply pw_below_drewN | apply below_drew1 | refine below_set ?_ GE236.out) | exact HB.out)) hb); clear BK236; clear HB; have HO239 := n0_; have BK236 := n1_; have HB := n2_; clear n0_ n1_ n2_; clear hb ho3) | ((with_reducible refine gate_dst (N := 5) rfl ?_); refine Kd.R_lit k35 _ 35 ?hg (N := 5) ?hd (xs := ([(⟨4, 20⟩ : S35)] : List (S35))) (inner := [.int .i64 4, .int .i64 20]) (ok := fun _ => True) (okp := fun _ => True) ?hr ?hp (fun _ hk => hk) trivial (Below.refl _ _) (Nat.le_refl _) (by simp) ?_; (case hd => rfl); (case hg => rfl); (case hr => first | (go_simp; done) | (go_simp; rfl)); (case hp => exact (Reps.c2 (show Kd.M k35 _ _ _ (⟨4, 20⟩ : S35) [.int .i64 4, .int .i64 20] from (k35_mkM _ _ _ (⟨4, 20⟩ : S35) )) (Reps.none _ _))); intro v241 w4 ho5 hb hg_ hnew_; clear hg_ hnew_; (first | rw [← Ny240.out] at ho5 | (simp only [Int.reduceToNat] at ho5; rw [← Ny240.out] at ho5)); have n0_ := Aside0.mk (Kd.R_elder' (by (with_reducible repeat (first | apply Kd.R_alloc | apply Kd.R_drewN | apply Kd.R_drew)); exact HO239.out) (Kd.R_base ho5) hb); have n1_ := Aside0.mk (Kd.R_lower (Kd.R_new' ho5 (Kd.R_lt (by (with_reducible repeat (first | apply Kd.R_alloc | apply Kd.R_drewN | apply Kd.R_drew)); exact HO239.out))) (below_size (by repeat (first | (with_reducible first | exact HB.out | apply below_alloc | apply pw_below_drewN | apply below_drew1 | refine below_set ?_ GE236.out) | exact HB.out)))); have n2_ := Aside0.mk (blk_below (g := gb236) (o := .cells #[.slice none 0 0, .slice none 0 0, .int .i64 0] 24 (0, 0)) (by (with_reducible repeat (first | refine blk_drewN ?_ _ | refine blk_drew ?_ | refine blk_alloc ?_ _)); exact BK236.out) hb); have n3_ := Aside0.mk (below_step (by repeat (first | (with_reducible first | exact HB.out | apply below_alloc | apply pw_below_drewN | apply below_drew1 | refine below_set ?_ GE236.out) | exact HB.out)) hb); clear HO239; clear BK236; clear HB; have HO239 := n0_; have HO242 := n1_; have BK236 := n2_; have HB := n3_; clear n0_ n1_ n2_ n3_; clear hb ho5; obtain ⟨Ao6, co6, eo6⟩ := Kd.R_slice HO242.out; subst eo6; obtain ⟨Ao7, co7, eo7⟩ := Kd.R_slice HO239.out; subst eo7; have hcz8_0 : w4.cell? ⟨gb236, 0, none⟩ = some (.slice none 0 0) := (blk_cell BK236.out 0).trans rfl; have hcz8_1 : w4.cell? ⟨gb236, 1, none⟩ = some (.slice none 0 0) := (blk_cell BK236.out 1).trans rfl; have hcz8_2 : w4.cell? ⟨gb236, 2, none⟩ = some (.int .i64 0) := (blk_cell BK236.out 2).trans rfl; have hfz8_0 := blk_frozen BK236.out 0; have hfz8_1 := blk_frozen BK236.out 1; have hfz8_2 := blk_frozen BK236.out 2))
  refine bodyPost_ret (results_cell_row rfl _ _ gb236 24 #[.slice Ao7 y237.length co7, .slice Ao6 y240.length co6, .int .i64 0] (0, 0) _ rfl (by (with_reducible repeat (first | refine blk_drewN ?_ _ | refine blk_drew ?_ | refine blk_alloc ?_ _)); refine blk_put (cs := #[.slice Ao7 y237.length co7, .slice Ao6 y240.length co6, .int .i64 0]) ?_ 2 _ rfl; (with_reducible repeat (first | refine blk_drewN ?_ _ | refine blk_drew ?_ | refine blk_alloc ?_ _)); refine blk_put (cs := #[.slice Ao7 y237.length co7, .slice none 0 0, .int .i64 0]) ?_ 1 _ rfl; (with_reducible repeat (first | refine blk_drewN ?_ _ | refine blk_drew ?_ | refine blk_alloc ?_ _)); refine blk_put (cs := #[.slice none 0 0, .slice none 0 0, .int .i64 0]) ?_ 0 _ rfl; (with_reducible repeat (first | refine blk_drewN ?_ _ | refine blk_drew ?_ | refine blk_alloc ?_ _)); exact BK236.out) Tryd.underlying24 rfl (by kernel_rfl)) rfl ?_
  exact ⟨_, _, by first | rfl | (simp [errW_none, errW_some] <;> rfl) | (simp [*, errW_none, errW_some] <;> rfl), by (with_reducible repeat (first | apply Kd.R_alloc | apply Kd.R_drewN | apply Kd.R_drew)); exact Kd.R_mono (Kd.R_far (p := ⟨gb236, 2, none⟩) (Kd.R_far (p := ⟨gb236, 1, none⟩) (Kd.R_far (p := ⟨gb236, 0, none⟩) (Kd.R_types HO239.out BK236.out (by decide)) (fun _ hk => hk.2) (.slice Ao7 y237.length co7)) (fun _ hk => hk.2) (.slice Ao6 y240.length co6)) (fun _ hk => hk.2) (.int .i64 0)) (fun _ hk => hk.1.2), by (with_reducible repeat (first | apply Kd.R_alloc | apply Kd.R_drewN | apply Kd.R_drew)); exact Kd.R_mono (Kd.R_far (p := ⟨gb236, 2, none⟩) (Kd.R_far (p := ⟨gb236, 1, none⟩) (Kd.R_far (p := ⟨gb236, 0, none⟩) (Kd.R_types HO242.out BK236.out (by decide)) (fun _ hk => hk.2) (.slice Ao7 y237.length co7)) (fun _ hk => hk.2) (.slice Ao6 y240.length co6)) (fun _ hk => hk.2) (.int .i64 0)) (fun _ hk => hk.1.2), by repeat (first | (with_reducible first | exact HB.out | apply below_alloc | apply pw_below_drewN | apply below_drew1 | refine below_set ?_ GE236.out) | exact HB.out)⟩

end Go.Proofs.YthjdjgppghplgaaDoor.PRangesAnswers
namespace Go.Proofs.YthjdjgppghplgaaDoor
open Go Go.RowKit Go.Proofs.YthjdjgppghplgaaDoorW.PrintWords Go.Proofs.YthjdjgppghplgaaDoorW.PrintLast Go.Proofs.YthjdjgppghplgaaDoorW.PrintMore
theorem few_any (w : World) : Calls Tryd.prog 19 #[] w fun e w' => ∃ A c B d, e = .returned (.agg #[.slice A 2 c, .slice B 1 d, .int .i64 0]) ∧ 2 ≤ c ∧ 1 ≤ d ∧
    rgK.C w' A 2 [(1, 5), (9, 9)] ∧ rgK.C w' B 1 [(4, 20)] ∧ Below w.heap.size w w' := by
  refine (PRangesAnswers.caesuralaw3_few.calls _ _ _ w rfl).mono ?_
  rintro e w' ⟨v0, v1, rfl, h0, h1, hb⟩
  obtain ⟨A, c, rfl, hc, hA⟩ := Kd.R_reads (R_ofS h0)
  obtain ⟨B, d, rfl, hd, hB⟩ := Kd.R_reads (R_ofS h1)
  exact ⟨A, c, B, d, rfl, hc, hd, hA, hB, hb⟩
end Go.Proofs.YthjdjgppghplgaaDoor
/- Facts for the walk of caesuralaw3.RangesOwn: rows of rows written, grown, read. -/
namespace Go.Proofs.YthjdjgppghplgaaDoor
open Go Go.RowKit Go.Proofs.YthjdjgppghplgaaDoorW.PrintWords Go.Proofs.YthjdjgppghplgaaDoorW.PrintLast Go.Proofs.YthjdjgppghplgaaDoorW.PrintMore
section
variable {W W0 W1 w1 : World} {base G n cap : Nat} {ok : Nat → Prop} {xss : List (List Rg)}
/-- Row i of them. -/
theorem row_at (h : Kd.S rrK RrT W base ok (.slice (some ⟨G, 0, none⟩) n cap) xss) (i : Nat) (hi : i < n) :
    ∃ A c, W.cell? ⟨G, i, none⟩ = some (.slice A (xss.getD i []).length c) ∧ (xss.getD i []).length ≤ c ∧ rgK.C W A (xss.getD i []).length (xss.getD i []) ∧ rgK.R RgT W base (fun _ => True) (.slice A (xss.getD i []).length c) (xss.getD i []) := by
  obtain ⟨c, hcl, hM, hcc, _⟩ := Kd.R_elem (Kd.S_R h) [] (i : Int) (by omega) (by omega)
  rw [Int.toNat_natCast] at hM hcc
  obtain ⟨v, rfl, hR⟩ := hM
  obtain ⟨A, c, rfl, hle, hC⟩ := Kd.R_reads hR
  refine ⟨A, c, ?_, hle, hC, Kd.R_mono hR (fun _ _ => trivial)⟩
  have := hcc 0 _ rfl
  rwa [show i * rrK.sz + 0 = i from by show i * 1 + 0 = i; omega] at this
/-- Row i, lent. -/
theorem row_lend (h : Kd.S rrK RrT W base ok (.slice (some ⟨G, 0, none⟩) n cap) xss) (i : Nat) (hi : i < n) {vi : Value} (hc : W.cell? ⟨G, i, none⟩ = some vi) :
    ∃ oki : Nat → Prop, rgK.R RgT W base oki vi (xss.getD i []) ∧ ∀ {w1 : World} {row : Option Nat} {ys : List Rg}, W.grownBy w1 row → (∀ k, row = some k → oki k) → rgK.R RgT w1 base (fun _ => True) vi ys → Kd.S rrK RrT w1 base ok (.slice (some ⟨G, 0, none⟩) n cap) (xss.set i ys) := by
  obtain ⟨oki, c, hcl, hM, hcc, hoki, hH⟩ := Kd.S_lend h [] (i : Int) (by omega) (by omega)
  rw [Int.toNat_natCast] at hM hcc
  obtain ⟨v, rfl, hR⟩ := hM
  have h0 := hcc 0 _ rfl
  rw [show i * rrK.sz + 0 = i from by show i * 1 + 0 = i; omega, hc] at h0
  injection h0 with h0
  subst h0
  refine ⟨oki, hR, fun hg hrow h1 => ?_⟩
  have := Kd.H_back (x' := _) (Kd.H_grown hH hg hrow) ⟨_, rfl, Kd.R_reok rfl h1 (fun k hk => hR.1 k hk)⟩ (fun _ hk => hk)
  rwa [Int.toNat_natCast] at this
theorem S_grow (h : Kd.S rrK RrT W0 base ok (.slice (some ⟨G, 0, none⟩) n cap) xss) (i : Nat) (hi : i < n) (hn : n = xss.length) {vi l : Value} {ys : List Rg} (hc : W0.cell? ⟨G, i, none⟩ = some vi)
    (hG : Grow rgK RgT W0 W base vi (xss.getD i []) ys l) : Kd.S rrK RrT W base ok (.slice (some ⟨G, 0, none⟩) n cap) xss := by
  obtain ⟨oki, hR, hk⟩ := row_lend h i hi hc
  have := hk hG.g (fun k hk => hR.1 k hk) hG.row
  have e : xss.set i (xss.getD i []) = xss := by
    rw [List.getD_eq_getElem?_getD, List.getElem?_eq_getElem (by omega)]
    exact List.set_getElem_self (by omega)
  rwa [e] at this
/-- A range of row i written. -/
theorem S_put (h : Kd.S rrK RrT W base ok (.slice (some ⟨G, 0, none⟩) n cap) xss) (i : Nat) (hi : i < n) {g c : Nat} {m : Nat} (hc : W.cell? ⟨G, i, none⟩ = some (.slice (some ⟨g, 0, none⟩) m c)) (k : Nat) (hk : k < m) (p : Rg) :
    Kd.S rrK RrT ((W.setCell ⟨g, k * 2, none⟩ (.int .i64 p.1)).setCell ⟨g, k * 2 + 1, none⟩ (.int .i64 p.2)) base ok (.slice (some ⟨G, 0, none⟩) n cap) (xss.set i ((xss.getD i []).set k p)) ∧ base ≤ g ∧
      ∃ x y, W.cell? ⟨g, k * 2, none⟩ = some (.int .i64 x) ∧ W.cell? ⟨g, k * 2 + 1, none⟩ = some (.int .i64 y) ∧ W.frozen? ⟨g, k * 2, none⟩ = false ∧ W.frozen? ⟨g, k * 2 + 1, none⟩ = false := by
  obtain ⟨oki, hR, hback⟩ := row_lend h i hi hc
  have hml := (Kd.R_reads' hR).1
  obtain ⟨c0, hcl, hM, hcc, hfz⟩ := Kd.R_elem hR (0, 0) (k : Int) (by omega) (by omega)
  rw [Int.toNat_natCast] at hM hcc hfz
  obtain ⟨d0, d1, rfl, h0, h1⟩ := hM
  obtain rfl : d0 = [.int .i64 _] := h0
  obtain rfl : d1 = [.int .i64 _] := h1
  obtain ⟨L, hL⟩ : ∃ L, L = xss.getD i [] := ⟨_, rfl⟩
  rw [← hL] at hR hml ⊢
  have s1 : rgK.R RgT (W.setCell ⟨g, k * 2, none⟩ (.int .i64 p.1)) base oki (.slice (some ⟨g, 0, none⟩) m c) (L.set k (p.1, (rdR L k).2)) := seg_rg hR k hk false p.1
  have s2 : rgK.R RgT ((W.setCell ⟨g, k * 2, none⟩ (.int .i64 p.1)).setCell ⟨g, k * 2 + 1, none⟩ (.int .i64 p.2)) base oki (.slice (some ⟨g, 0, none⟩) m c) ((L.set k (p.1, (rdR L k).2)).set k ((rdR (L.set k (p.1, (rdR L k).2)) k).1, p.2)) := seg_rg s1 k hk true p.2
  have e2 : rdR (L.set k (p.1, (rdR L k).2)) k = (p.1, (rdR L k).2) := by
    unfold rdR
    rw [List.getD_eq_getElem?_getD, List.getElem?_set_self (by omega)]
    rfl
  rw [e2, List.set_set] at s2
  refine ⟨hback (row := some g) ?_ (fun k' hk' => hR.1 k' (by injection hk' with hk'; subst hk'; rfl)) (Kd.R_mono s2 (fun _ _ => trivial)), Kd.R_base hR g rfl, _, _, hcc 0 _ rfl, hcc 1 _ rfl, hfz 0, hfz 1⟩
  exact ⟨rfl, rfl, rfl, by simp [World.setCell], fun q _ hne => (Below.heap_setCell _ _ _ _ (fun e => hne (by rw [e]))).trans (Below.heap_setCell _ _ _ _ (fun e => hne (by rw [e])))⟩
end
section
variable {ops : Array Oper} {rest : List Oper} {o : Oper} {a : Act} {Q : Exit → Act → World → Prop}
theorem app_two (s x : Operand) {base : Nat} {W0 W : World} (vi l : Value) (xs ys : List Rg) (p : Rg)
    (ho : o.op = .call { callee := .builtin .append, args := #[s, x], argTypes := #[22, 22] }) (hgd : o.guard = none) (hs : a.eval s = l) (g : Nat) (hg : W.heap.size = g) (hx : a.eval x = .slice (some ⟨g, 0, none⟩) 1 1)
    (HG : Grow rgK RgT W0 W base vi xs ys l) (hbase : base ≤ W0.heap.size) (hl : ys.length ≤ 8388608)
    (h : ∀ v1 w1, Grow rgK RgT W0 w1 base vi xs (ys ++ [p]) v1 → wpList Tryd.prog ops Q rest (a.put o.dst v1) w1) :
    wpList Tryd.prog ops Q (o :: rest) a (W.alloc (.cells #[.int .i64 p.1, .int .i64 p.2] RgT)) := by
  subst hg
  obtain ⟨v1, w1, hrun, hR, hgr, hat⟩ := R_app_two (P := Tryd.prog) (d := rgK) (W := W) (base := base) (e := RgT) (ok := fun _ => True) (okp := fun _ => False) (v := l) (ys := ys) (p := p) (cs := [.int .i64 p.1, .int .i64 p.2]) 22 o.type (.agg #[.int .i64 0, .int .i64 0]) 16 Tryd.underlying22 info_rg rfl (by decide) (by decide) (rg_M _ _ _ _) (fun _ hk => hk.elim) (fun _ _ => trivial) HG.now (Nat.le_trans hbase HG.sz) (by omega)
  refine wpList_plain hgd fun K hK => ?_
  unfold Oper.wp execOp
  simp only [ho, resolve, invoke, builtin, Sem.run_bind, Sem.run_pure, Result.andThen_ok, List.map_toArray, List.map_cons, List.map_nil, hs, hx, hrun]
  exact hK _ _ (h v1 w1 (HG.step hR hgr hat rfl))
end
/-- Rows i and on are still to be written, and of row i the ranges k and on. -/
structure Fill (yss : List (List Rg)) (i k : Nat) : Prop where
  len : yss.length = 20
  small : ∀ j, (yss.getD j []).length ≤ 557056
  done : ∀ j, j < i → ∀ q, q < (yss.getD j []).length → rdR (yss.getD j []) q = ((j : Int), -1)
  now : ∀ q, q < k → q < (yss.getD i []).length → rdR (yss.getD i []) q = ((i : Int), -1)
theorem rd_set (l : List Rg) (k q : Nat) (p : Rg) (hk : k < l.length) : rdR (l.set k p) q = if q = k then p else rdR l q := by
  unfold rdR
  rw [List.getD_eq_getElem?_getD, List.getElem?_set]
  by_cases h : k = q
  · subst h
    rw [if_pos rfl, if_pos hk, if_pos rfl]
    rfl
  · rw [if_neg h, if_neg (fun e => h e.symm), List.getD_eq_getElem?_getD]
theorem getD_setL (yss : List (List Rg)) (i j : Nat) (y : List Rg) (hi : i < yss.length) : (yss.set i y).getD j [] = if j = i then y else yss.getD j [] := by
  rw [List.getD_eq_getElem?_getD, List.getElem?_set]
  by_cases h : i = j
  · subst h
    rw [if_pos rfl, if_pos hi, if_pos rfl]
    rfl
  · rw [if_neg h, if_neg (fun e => h e.symm), List.getD_eq_getElem?_getD]
theorem Fill.set {yss : List (List Rg)} {i k : Nat} (h : Fill yss i k) (hi : i < 20) (hk : k < (yss.getD i []).length) : Fill (yss.set i ((yss.getD i []).set k ((i : Int), -1))) i (k + 1) := by
  have hi' : i < yss.length := by rw [h.len]; exact hi
  refine ⟨by rw [List.length_set]; exact h.len, fun j => ?_, fun j hj q hq => ?_, fun q hq hql => ?_⟩
  · rw [getD_setL _ _ _ _ hi']
    split
    · rw [List.length_set]; exact h.small i
    · exact h.small j
  · rw [getD_setL _ _ _ _ hi', if_neg (by omega)] at hq ⊢
    exact h.done j hj q hq
  · rw [getD_setL _ _ _ _ hi', if_pos rfl] at hql ⊢
    rw [List.length_set] at hql
    rw [rd_set _ _ _ _ hk]
    split
    · rfl
    · exact h.now q (by omega) hql
theorem Fill.next {yss : List (List Rg)} {i k : Nat} (h : Fill yss i k) (hk : (yss.getD i []).length ≤ k) : Fill yss (i + 1) 0 := by
  refine ⟨h.len, h.small, fun j hj q hq => ?_, fun q hq _ => absurd hq (by omega)⟩
  by_cases e : j = i
  · subst e
    exact h.now q (by omega) hq
  · exact h.done j (by omega) q hq
/-- The rows, and what was ahead of them. -/
structure RW (Wb W : World) (G n cap : Nat) (xs : List (List Rg)) : Prop where
  s : Kd.S rrK RrT W Wb.heap.size (fun _ => True) (.slice (some ⟨G, 0, none⟩) n cap) xs
  b : Below Wb.heap.size Wb W
theorem RW.below {Wb W W1 : World} {G n cap : Nat} {xs : List (List Rg)} (h : RW Wb W G n cap xs) (hb : Below W.heap.size W W1) : RW Wb W1 G n cap xs := ⟨Kd.S_below h.s hb, below_of h.b hb⟩
/-- Three rows that are asked about, all of one content. -/
structure RC (W : World) (A1 A2 A3 : Option Addr) (m : Nat) (L : List Rg) : Prop where
  a : rgK.C W A1 m L
  b : rgK.C W A2 m L
  c : rgK.C W A3 m L
theorem RC.below {W W1 : World} {A1 A2 A3 : Option Addr} {m : Nat} {L : List Rg} (h : RC W A1 A2 A3 m L) (hb : Below W.heap.size W W1) : RC W1 A1 A2 A3 m L := ⟨Kd.C_below h.a hb, Kd.C_below h.b hb, Kd.C_below h.c hb⟩
abbrev SR (Wb : World) (G n cap : Nat) (xs : List (List Rg)) (i j k : Nat) (A1 A2 A3 : Option Addr) (c1 c2 c3 m : Nat) (L : List Rg) (W : World) : Prop :=
  W.cell? ⟨G, i, none⟩ = some (.slice A1 m c1) ∧ W.cell? ⟨G, j, none⟩ = some (.slice A2 m c2) ∧ W.cell? ⟨G, k, none⟩ = some (.slice A3 m c3) ∧ Sh (RW Wb W G n cap xs) ∧ Sh (RC W A1 A2 A3 m L)
section
variable {Wb W W1 : World} {G n cap : Nat} {xs : List (List Rg)} {i j k : Nat} {A1 A2 A3 : Option Addr} {c1 c2 c3 m : Nat} {L : List Rg}
theorem SR.below (h : SR Wb G n cap xs i j k A1 A2 A3 c1 c2 c3 m L W) (hb : Below W.heap.size W W1) : SR Wb G n cap xs i j k A1 A2 A3 c1 c2 c3 m L W1 :=
  ⟨pw_cell_below hb h.1, pw_cell_below hb h.2.1, pw_cell_below hb h.2.2.1, ⟨h.2.2.2.1.out.below hb⟩, ⟨h.2.2.2.2.out.below hb⟩⟩
theorem SR.drew (h : SR Wb G n cap xs i j k A1 A2 A3 c1 c2 c3 m L W) : SR Wb G n cap xs i j k A1 A2 A3 c1 c2 c3 m L W.drew := SR.below h (below_drew (Below.refl _ _))
theorem SR.rw_ (h : SR Wb G n cap xs i j k A1 A2 A3 c1 c2 c3 m L W) : RW Wb W G n cap xs := h.2.2.2.1.out
theorem SR.rc (h : SR Wb G n cap xs i j k A1 A2 A3 c1 c2 c3 m L W) : RC W A1 A2 A3 m L := h.2.2.2.2.out
end
theorem hand_small (la lb : List Rg) (j : Nat) : ((hand la lb).getD j []).length ≤ 557056 := by
  have h : ∀ r, r ∈ hand la lb → r.length ≤ 557056 := by
    intro r hr
    unfold hand at hr
    simp only [List.mem_cons, List.not_mem_nil, or_false] at hr
    rcases hr with rfl | rfl | rfl | rfl | rfl <;> exact onlyL_len _ _
  rw [List.getD_eq_getElem?_getD]
  cases e : (hand la lb)[j]? with
  | none => simp
  | some r => exact h r (List.mem_of_getElem? e)
theorem getD_app (a b : List (List Rg)) (j : Nat) : (a ++ b).getD j [] = if j < a.length then a.getD j [] else b.getD (j - a.length) [] := by
  rw [List.getD_eq_getElem?_getD, List.getElem?_append]
  split <;> rw [List.getD_eq_getElem?_getD]
/-- Of the twenty rows: the first five, the next five and the last five are the same; none is long. -/
theorem twenty {r1 r2 xs : List (List Rg)} (h1 : r1.length = 5) (h2 : r2.length = 5) (s1 : ∀ j, (r1.getD j []).length ≤ 557056) (s2 : ∀ j, (r2.getD j []).length ≤ 557056) (hx : xs = r1 ++ r1 ++ r2 ++ r1) :
    xs.length = 20 ∧ (∀ j, (xs.getD j []).length ≤ 557056) ∧ ∀ j, j < 5 → xs.getD (5 + j) [] = xs.getD j [] ∧ xs.getD (15 + j) [] = xs.getD j [] := by
  subst hx
  refine ⟨by simp [h1, h2], fun j => ?_, fun j hj => ⟨?_, ?_⟩⟩
  · simp only [getD_app]
    split
    · split
      · split
        · exact s1 _
        · exact s1 _
      · exact s2 _
    · exact s1 _
  · simp only [getD_app, List.length_append, h1, h2]
    rw [if_pos (by omega), if_pos (by omega), if_neg (by omega), if_pos (by omega), if_pos (by omega), if_pos (by omega)]
    congr 1
    omega
  · simp only [getD_app, List.length_append, h1, h2]
    rw [if_neg (by omega), if_pos (by omega), if_pos (by omega), if_pos (by omega)]
    congr 1
    omega
end Go.Proofs.YthjdjgppghplgaaDoor
/- The walk of caesuralaw3.RangesOwn. Conditions: lists of at most 2^20 ranges; the refusals read as listed. -/
namespace Go.Proofs.YthjdjgppghplgaaDoor
open Go Go.RowKit Go.Proofs.YthjdjgppghplgaaDoorW.PrintWords Go.Proofs.YthjdjgppghplgaaDoorW.PrintLast Go.Proofs.YthjdjgppghplgaaDoorW.PrintMore
abbrev fa : List Rg := [(1, 5), (9, 9)]
abbrev fb : List Rg := [(4, 20)]
/-- The box and the two lists, ahead of the first question. -/
structure BX (w W : World) (g : Nat) (A B : Option Addr) (cA cB nA nB : Nat) (la lb : List Rg) (pt : Int) : Prop where
  rq : RQ w W g A B cA cB nA nB la lb pt
  hg : w.heap.size ≤ g
theorem BX.below {w W W1 : World} {g : Nat} {A B : Option Addr} {cA cB nA nB : Nat} {la lb : List Rg} {pt : Int} (h : BX w W g A B cA cB nA nB la lb pt) (hb : Below W.heap.size W W1) : BX w W1 g A B cA cB nA nB la lb pt := ⟨h.rq.below hb, h.hg⟩
/-- A list of one's own, as it is read. -/
structure Mine (W : World) (v : Value) (n : Nat) (l : List Rg) : Prop where
  out : ∃ A c, v = .slice A n c ∧ n ≤ c ∧ rgK.C W A n l
theorem Mine.of {W : World} {base : Nat} {ok : Nat → Prop} {v : Value} {l : List Rg} {n : Nat} (hn : l.length = n) (h : rgK.R RgT W base ok v l) : Mine W v n l := by
  obtain ⟨A, c, rfl, hle, hC⟩ := Kd.R_reads h
  subst hn
  exact ⟨A, c, rfl, hle, hC⟩
theorem Mine.below {W W1 : World} {v : Value} {n : Nat} {l : List Rg} (h : Mine W v n l) (hb : Below W.heap.size W W1) : Mine W1 v n l := by
  obtain ⟨A, c, rfl, hle, hC⟩ := h.out
  exact ⟨A, c, rfl, hle, Kd.C_below hC hb⟩
abbrev SB (w : World) (g : Nat) (A B : Option Addr) (cA cB nA nB : Nat) (la lb : List Rg) (pt : Int) (W : World) : Prop :=
  W.cell? ⟨g, 0, none⟩ = some (.slice A nA cA) ∧ W.cell? ⟨g, 1, none⟩ = some (.slice B nB cB) ∧ Sh (BX w W g A B cA cB nA nB la lb pt)
theorem SB.of {w W : World} {g : Nat} {A B : Option Addr} {cA cB nA nB : Nat} {la lb : List Rg} {pt : Int} (h : BX w W g A B cA cB nA nB la lb pt) : SB w g A B cA cB nA nB la lb pt W := ⟨h.rq.cells.1, h.rq.cells.2.1, ⟨h⟩⟩
theorem SB.drew {w W : World} {g : Nat} {A B : Option Addr} {cA cB nA nB : Nat} {la lb : List Rg} {pt : Int} (h : SB w g A B cA cB nA nB la lb pt W) : SB w g A B cA cB nA nB la lb pt W.drew := SB.of (h.2.2.out.below (below_drew (Below.refl _ _)))
theorem SB.below {w W W1 : World} {g : Nat} {A B : Option Addr} {cA cB nA nB : Nat} {la lb : List Rg} {pt : Int} (h : SB w g A B cA cB nA nB la lb pt W) (hb : Below W.heap.size W W1) : SB w g A B cA cB nA nB la lb pt W1 := SB.of (h.2.2.out.below hb)
theorem sbb {w W : World} {g : Nat} {A B : Option Addr} {cA cB nA nB : Nat} {la lb : List Rg} {pt : Int} (h : SB w g A B cA cB nA nB la lb pt W) : BX w W g A B cA cB nA nB la lb pt := h.2.2.out
/-- All that lies in memory ahead of the first question. -/
structure BS (w W : World) (g h : Nat) (A B A1 B1 A2 B2 : Option Addr) (cA cB c2 d2 nA nB : Nat) (la lb : List Rg) (pt : Int) : Prop where
  bx : BX w W g A B cA cB nA nB la lb pt
  o : W.heap[h]? = some (.cells #[.slice A2 2 c2, .slice B2 1 d2, .int .i64 0] TwT (0, 0))
  pa : rgK.C W A1 nA la
  pb : rgK.C W B1 nB lb
  qa : rgK.C W A2 2 fa
  qb : rgK.C W B2 1 fb
section
variable {w W W1 : World} {g h : Nat} {A B A1 B1 A2 B2 : Option Addr} {cA cB c2 d2 nA nB : Nat} {la lb : List Rg} {pt : Int}
theorem BS.below (x : BS w W g h A B A1 B1 A2 B2 cA cB c2 d2 nA nB la lb pt) (hb : Below W.heap.size W W1) : BS w W1 g h A B A1 B1 A2 B2 cA cB c2 d2 nA nB la lb pt :=
  ⟨x.bx.below hb, blk_below x.o hb, Kd.C_below x.pa hb, Kd.C_below x.pb hb, Kd.C_below x.qa hb, Kd.C_below x.qb hb⟩
theorem BS.cells (x : BS w W g h A B A1 B1 A2 B2 cA cB c2 d2 nA nB la lb pt) : W.cell? ⟨h, 0, none⟩ = some (.slice A2 2 c2) ∧ W.cell? ⟨h, 1, none⟩ = some (.slice B2 1 d2) :=
  ⟨by rw [blk_cell x.o]; rfl, by rw [blk_cell x.o]; rfl⟩
variable {ops : Array Oper} {rest : List Oper} {o : Oper} {a : Act} {Q : Exit → Act → World → Prop}
theorem app_rrs (s x : Operand) {base N : Nat} {w0 W : World} (v u : Value) (xs ys : List (List Rg))
    (ho : o.op = .call { callee := .builtin .append, args := #[s, x], argTypes := #[42, 42] }) (hgd : o.guard = none) (hs : a.eval s = v) (hx : a.eval x = u)
    (HO : Kd.S rrK RrT W base (fun k => k < N) v xs) (HU : Kd.S rrK RrT W N (fun _ => True) u ys) (hN : base ≤ N) (HB : Below base w0 W) (hbase : base ≤ W.heap.size) (hl : xs.length + ys.length ≤ 8388608)
    (h : ∀ v1 w1, Kd.S rrK RrT w1 base (fun _ => True) v1 (xs ++ ys) → Below base w0 w1 → wpList Tryd.prog ops Q rest (a.put o.dst v1) w1) :
    wpList Tryd.prog ops Q (o :: rest) a W :=
  S_append_rows rrK base N hgd s x 42 RrT (.slice none 0 0) 24 ho Tryd.underlying42 info_rr rfl (by decide) (by decide) v u xs ys hs hx HO HU hN HB hbase (by omega) h
end
set_option maxHeartbeats 32000000 in
set_option maxRecDepth 100000 in
theorem ownW_any (E : Nat → Addr) (A B : Option Addr) (cA cB nA nB : Nat) (la lb : List Rg) (pt : Int) (w : World) (hE : GS allS E w) (hA : rgK.C w A nA la) (hB : rgK.C w B nB lb) (hcA : nA ≤ cA) (hcB : nB ≤ cB) (hna : nA ≤ 1048576) (hnb : nB ≤ 1048576) :
    Calls Tryd.prog 5 #[.agg #[.slice A nA cA, .slice B nB cB, .int .i64 pt]] w fun e w' => e = .returned (.bool true) ∧ Below w.heap.size w w' := by
  have HE := Sh.mk hE
  have HLA := Sh.mk hA.1
  have HLB := Sh.mk hB.1
  obtain ⟨W0, hW0⟩ : ∃ W0, W0 = w.alloc (.cells #[.slice A nA cA, .slice B nB cB, .int .i64 pt] TwT) := ⟨_, rfl⟩
  obtain ⟨g, hg⟩ : ∃ g, g = w.heap.size := ⟨_, rfl⟩
  have hb0 : Below w.heap.size w W0 := by rw [hW0]; exact (Below.refl _ _).alloc (Nat.le_refl _) _
  have HB0 := Sh.mk (show BX w W0 g A B cA cB nA nB la lb pt from ⟨⟨hb0, by rw [hW0, hg]; exact blk_new _ _, Kd.C_below hA hb0, Kd.C_below hB hb0⟩, by omega⟩)
  have HW := Sh.mk hW0
  have HG := Sh.mk hg
  clear hE hA hB hW0 hg hb0
  have HOA := Sh.mk (show ∀ (W : World), SB w g A B cA cB nA nB la lb pt W → Calls Tryd.prog 15 #[.slice A nA cA] W fun e w' => ∃ v, e = .returned v ∧ Mine w' v nA la ∧ Below W.heap.size W w' from fun W h => by
    refine (own_any A cA nA la W (sbb h).rq.a hcA (by omega)).mono ?_
    rintro e w' ⟨v, rfl, hR, hb⟩
    exact ⟨v, rfl, Mine.of HLA.out hR, hb⟩)
  have HOB := Sh.mk (show ∀ (W : World), SB w g A B cA cB nA nB la lb pt W → Calls Tryd.prog 15 #[.slice B nB cB] W fun e w' => ∃ v, e = .returned v ∧ Mine w' v nB lb ∧ Below W.heap.size W w' from fun W h => by
    refine (own_any B cB nB lb W (sbb h).rq.b hcB (by omega)).mono ?_
    rintro e w' ⟨v, rfl, hR, hb⟩
    exact ⟨v, rfl, Mine.of HLB.out hR, hb⟩)
  go_enter Tryd.func5, Tryd.ntmps5
  go_upto_region 1 with fail
  rw [← HW.out, ← HG.out]
  clear HW
  go_cut [3, 4] (fun s3 s4 wx => Sh (BX w wx g A B cA cB nA nB la lb pt) ∧ Sh (Mine wx s3 nA la) ∧ Sh (Mine wx s4 nB lb))
  case first =>
    go_region_held3 (SB w g A B cA cB nA nB la lb pt) (first | assumption | exact SB.drew (by assumption) | exact SB.of (HB0.out.below (below_drew (Below.refl _ _))) | exact SB.below (by assumption) (by assumption))
      (first
        | (go_at_call 15; (with_reducible refine (HOA.out _ (by assumption)).mono ?_); rintro e w7 ⟨va, rfl, hma, hb7⟩)
        | (go_at_call 15; (with_reducible refine (HOB.out _ (by assumption)).mono ?_); rintro e w7 ⟨va, rfl, hma, hb7⟩))
    all_goals go_wp2_with fail
    all_goals go_meet
    all_goals exact ⟨⟨sbb (by assumption)⟩, ⟨by first | assumption | exact Mine.below (by assumption) (by assumption)⟩, ⟨by first | assumption | exact Mine.below (by assumption) (by assumption)⟩⟩
  case rest =>
    obtain ⟨HBX, HMA, HMB⟩ := hcut
    obtain ⟨A1, cA1, rfl, hA1, hC1⟩ := HMA.out.out
    obtain ⟨B1, cB1, rfl, hB1, hD1⟩ := HMB.out.out
    have HC1 := Sh.mk hC1
    have HD1 := Sh.mk hD1
    clear HMA HMB hC1 hD1 HOA HOB HB0
    go_wp2_with fail
    refine (few_any wc).mono ?_
    rintro e w1 ⟨A2, c2, B2, d2, rfl, hc2, hd2, hqa, hqb, hb⟩
    have HQA := Sh.mk hqa
    have HQB := Sh.mk hqb
    replace HBX := Sh.mk (HBX.out.below hb)
    replace HC1 := Sh.mk (Kd.C_below HC1.out hb)
    replace HD1 := Sh.mk (Kd.C_below HD1.out hb)
    clear hqa hqb hb
    go_wp2_with fail
    obtain ⟨Wb, hWb⟩ : ∃ W, W = w1.alloc (.cells #[.slice A2 2 c2, .slice B2 1 d2, .int .i64 0] TwT) := ⟨_, rfl⟩
    obtain ⟨h, hh⟩ : ∃ h, h = w1.heap.size := ⟨_, rfl⟩
    have hb0 : Below w1.heap.size w1 Wb := by rw [hWb]; exact below_alloc (Below.refl _ _) _
    have HS := Sh.mk (show BS w Wb g h A B A1 B1 A2 B2 cA cB c2 d2 nA nB la lb pt from ⟨HBX.out.below hb0, by rw [hWb, hh]; exact blk_new _ _, Kd.C_below HC1.out hb0, Kd.C_below HD1.out hb0, Kd.C_below HQA.out hb0, Kd.C_below HQB.out hb0⟩)
    rw [← hWb, ← hh]
    clear hWb hh hb0 HBX HC1 HD1 HQA HQB
    obtain ⟨r1, hr1⟩ : ∃ r, r = hand la lb := ⟨_, rfl⟩
    obtain ⟨r2, hr2⟩ : ∃ r, r = hand fa fb := ⟨_, rfl⟩
    have H1 := Sh.mk hr1.symm
    have H2 := Sh.mk hr2.symm
    have L1 := Sh.mk (show r1.length = 5 by rw [hr1]; rfl)
    have L2 := Sh.mk (show r2.length = 5 by rw [hr2]; rfl)
    clear hr1 hr2
    refine (handed_any E A1 B1 cA1 cB1 nA nB la lb Wb (HE.out.below HS.out.bx.rq.bel) HS.out.pa HS.out.pb hA1 hB1 hna hnb).mono ?_
    rintro e x1 ⟨v1, rfl, hs, hb⟩
    rw [H1.out] at hs
    have HS1 := Sh.mk hs
    have HB1 := Sh.mk hb
    clear hs hb
    go_wp2_with fail
    refine (handed_any E A1 B1 cA1 cB1 nA nB la lb x1 (HE.out.below (HS.out.below HB1.out).bx.rq.bel) (HS.out.below HB1.out).pa (HS.out.below HB1.out).pb hA1 hB1 hna hnb).mono ?_
    rintro e y2 ⟨u2, rfl, hs, hb⟩
    rw [H1.out] at hs
    have HU := Sh.mk hs
    have HO := Sh.mk (Kd.S_mono (Kd.S_old HS1.out hb) (ok' := fun k => k < x1.heap.size) (fun _ hk => hk.2))
    have HB := Sh.mk (below_of HB1.out hb)
    have hN : Wb.heap.size ≤ x1.heap.size := HB1.out.size
    have hN2 : Wb.heap.size ≤ y2.heap.size := HB.out.size
    have hlen : (r1).length + r1.length ≤ 8388608 := by simp [L1.out]
    clear hs hb HS1 HB1
    go_wp2_with (first | ((with_reducible refine gate_builtin (b := .append) (xs := #[.tmp 26, .tmp 29]) rfl ?_); refine app_rrs (w0 := Wb) (.tmp 26) (.tmp 29) v1 u2 (r1) r1 rfl rfl rfl rfl HO.out HU.out hN HB.out hN2 hlen ?_; clear hN hN2 hlen; intro v2 x2 ho hb; obtain ⟨z0, z1⟩ := (HS.out.below hb).cells; have HS2 := Sh.mk ho; have HB2 := Sh.mk hb; clear ho hb HO HB HU))
    refine (handed_any E A2 B2 c2 d2 2 1 fa fb x2 (HE.out.below (HS.out.below HB2.out).bx.rq.bel) (HS.out.below HB2.out).qa (HS.out.below HB2.out).qb hc2 hd2 (by omega) (by omega)).mono ?_
    rintro e y3 ⟨u3, rfl, hs, hb⟩
    rw [H2.out] at hs
    have HU := Sh.mk hs
    have HO := Sh.mk (Kd.S_mono (Kd.S_old HS2.out hb) (ok' := fun k => k < x2.heap.size) (fun _ hk => hk.2))
    have HB := Sh.mk (below_of HB2.out hb)
    have hN : Wb.heap.size ≤ x2.heap.size := HB2.out.size
    have hN2 : Wb.heap.size ≤ y3.heap.size := HB.out.size
    have hlen : (r1 ++ r1).length + r2.length ≤ 8388608 := by simp [L1.out, L2.out]
    clear hs hb HS2 HB2 z0 z1
    go_wp2_with (first | ((with_reducible refine gate_builtin (b := .append) (xs := #[.tmp 31, .tmp 36]) rfl ?_); refine app_rrs (w0 := Wb) (.tmp 31) (.tmp 36) v2 u3 (r1 ++ r1) r2 rfl rfl rfl rfl HO.out HU.out hN HB.out hN2 hlen ?_; clear hN hN2 hlen; intro v3 x3 ho hb; have HS3 := Sh.mk ho; have HB3 := Sh.mk hb; clear ho hb HO HB HU))
    refine (handed_any E A1 B1 cA1 cB1 nA nB la lb x3 (HE.out.below (HS.out.below HB3.out).bx.rq.bel) (HS.out.below HB3.out).pa (HS.out.below HB3.out).pb hA1 hB1 hna hnb).mono ?_
    rintro e y4 ⟨u4, rfl, hs, hb⟩
    rw [H1.out] at hs
    have HU := Sh.mk hs
    have HO := Sh.mk (Kd.S_mono (Kd.S_old HS3.out hb) (ok' := fun k => k < x3.heap.size) (fun _ hk => hk.2))
    have HB := Sh.mk (below_of HB3.out hb)
    have hN : Wb.heap.size ≤ x3.heap.size := HB3.out.size
    have hN2 : Wb.heap.size ≤ y4.heap.size := HB.out.size
    have hlen : (r1 ++ r1 ++ r2).length + r1.length ≤ 8388608 := by simp [L1.out, L2.out]
    clear hs hb HS3 HB3
    go_wp2_with (first | ((with_reducible refine gate_builtin (b := .append) (xs := #[.tmp 38, .tmp 41]) rfl ?_); refine app_rrs (w0 := Wb) (.tmp 38) (.tmp 41) v3 u4 (r1 ++ r1 ++ r2) r1 rfl rfl rfl rfl HO.out HU.out hN HB.out hN2 hlen ?_; clear hN hN2 hlen; intro v4 x4 ho hb; have HS4 := Sh.mk ho; have HB4 := Sh.mk hb; clear ho hb HO HB HU))
    have HT := Sh.mk (show Kd.S rrK RrT x4 Wb.heap.size (fun _ => True) v4 (r1 ++ r1 ++ r2 ++ r1) from HS4.out)
    obtain ⟨xs, hxs⟩ : ∃ x, x = r1 ++ r1 ++ r2 ++ r1 := ⟨_, rfl⟩
    rw [← hxs] at HT
    have HX := Sh.mk (twenty L1.out L2.out (fun j => by rw [← H1.out]; exact hand_small _ _ j) (fun j => by rw [← H2.out]; exact hand_small _ _ j) hxs)
    clear hxs HS4 H1 H2 L1 L2
    obtain ⟨G, cap, rfl, hG, -, -⟩ := Kd.S_form HT.out (by rw [HX.out.1]; omega)
    have hcap := (Kd.R_reads' (Kd.S_R HT.out)).2.1
    obtain ⟨n, hn⟩ : ∃ n, n = xs.length := ⟨_, rfl⟩
    rw [← hn] at HT hcap ⊢
    have HN := Sh.mk (show n = 20 by rw [hn]; exact HX.out.1)
    have hn20 : n ≤ 20 := by rw [hn, HX.out.1]; exact Nat.le_refl _
    clear hn
    have HR := Sh.mk (show RW Wb x4 G n cap xs from ⟨HT.out, HB4.out⟩)
    clear HT HB4
    go_loopw [7] (fun i wr => ∃ k : Nat, k ≤ 5 ∧ i = .int .i64 k ∧ Sh (RW Wb wr G n cap xs)) (fun i _ => 5 - (intOf i).toNat)
    case atStart => exact ⟨0, by omega, rfl, HR⟩
    case round =>
      obtain ⟨k, hk, rfl, HR⟩ := hrel
      by_cases hlt : k < 5
      · obtain ⟨Ai, ci, y0, hc0, hC0, -⟩ := row_at HR.out.s k (by rw [HN.out]; omega)
        obtain ⟨Aj, cj, y5, hc5, hC5, -⟩ := row_at HR.out.s (5 + k) (by rw [HN.out]; omega)
        obtain ⟨Ak, ck, y15, hc15, hC15, -⟩ := row_at HR.out.s (15 + k) (by rw [HN.out]; omega)
        rw [(HX.out.2.2 k hlt).1] at y5 hc5 hC5
        rw [(HX.out.2.2 k hlt).2] at y15 hc15 hC15
        have hsm := HX.out.2.1 k
        obtain ⟨L, hL⟩ : ∃ L, L = xs.getD k [] := ⟨_, rfl⟩
        rw [← hL] at y0 hc0 hC0 y5 hc5 hC5 y15 hc15 hC15 hsm
        clear hL
        obtain ⟨m, hm⟩ : ∃ m, m = L.length := ⟨_, rfl⟩
        rw [← hm] at y0 hc0 hC0 y5 hc5 hC5 y15 hc15 hC15 hsm
        clear hm
        have HRR : SR Wb G n cap xs k (5 + k) (15 + k) Ai Aj Ak ci cj ck m L _ := ⟨y0, y5, y15, HR, ⟨⟨hC0, hC5, hC15⟩⟩⟩
        have HQ5 := Sh.mk (show ∀ (W : World), SR Wb G n cap xs k (5 + k) (15 + k) Ai Aj Ak ci cj ck m L W → Calls Tryd.prog 21 #[.slice Ai m ci, .slice Aj m cj] W fun e w' => e = .returned (.bool true) ∧ Below W.heap.size W w' from fun W h => by
          refine (same_any Ai Aj ci cj m m L L W (SR.rc h).a (SR.rc h).b hc0 hc5 (by omega)).mono ?_
          rintro e w' ⟨rfl, hd⟩
          exact ⟨by rw [decide_eq_true rfl], hd.below⟩)
        have HQ15 := Sh.mk (show ∀ (W : World), SR Wb G n cap xs k (5 + k) (15 + k) Ai Aj Ak ci cj ck m L W → Calls Tryd.prog 21 #[.slice Ai m ci, .slice Ak m ck] W fun e w' => e = .returned (.bool true) ∧ Below W.heap.size W w' from fun W h => by
          refine (same_any Ai Ak ci ck m m L L W (SR.rc h).a (SR.rc h).c hc0 hc15 (by omega)).mono ?_
          rintro e w' ⟨rfl, hd⟩
          exact ⟨by rw [decide_eq_true rfl], hd.below⟩)
        clear hC0 hC5 hC15 hc0 hc5 hc15 hsm y0 y5 y15 HR
        have hnn : n = 20 := HN.out
        have p1 : (k : Int) < (n : Int) := by omega
        have p2 : 5 + (k : Int) < (n : Int) := by omega
        have p3 : 15 + (k : Int) < (n : Int) := by omega
        have p4 : (0 : Int) ≤ 5 + (k : Int) := by omega
        have p5 : (0 : Int) ≤ 15 + (k : Int) := by omega
        have t1 : (5 + (k : Int)).toNat = 5 + k := by omega
        have t2 : (15 + (k : Int)).toNat = 15 + k := by omega
        have t3 : IntKind.i64.wrap (5 + (k : Int)) = 5 + (k : Int) := IntWalk.i64_in _ (by omega)
        have t4 : IntKind.i64.wrap (15 + (k : Int)) = 15 + (k : Int) := IntWalk.i64_in _ (by omega)
        clear hnn
        go_wp2_with fail
        go_region_held3 (SR Wb G n cap xs k (5 + k) (15 + k) Ai Aj Ak ci cj ck m L) (first | assumption | exact SR.drew (by assumption) | exact SR.below (by assumption) (by assumption))
          (first
            | (go_at_call 21; (with_reducible refine (HQ5.out _ (by assumption)).mono ?_); rintro e w7 ⟨rfl, hb7⟩)
            | (go_at_call 21; (with_reducible refine (HQ15.out _ (by assumption)).mono ?_); rintro e w7 ⟨rfl, hb7⟩))
        go_wp2
        go_roundw
        case rel => exact ⟨k + 1, by omega, by go_num, ⟨SR.rw_ (by assumption)⟩⟩
        case measure => simp [intOf] <;> omega
      · have HF := Sh.mk (show Fill xs 0 0 from ⟨HX.out.1, HX.out.2.1, fun j hj => absurd hj (by omega), fun q hq => absurd hq (by omega)⟩)
        clear HX
        go_wp2
        go_loopw [8] (fun i wr => ∃ j : Nat, j ≤ n ∧ i = .int .i64 j ∧ ∃ ys, Sh (RW Wb wr G n cap ys) ∧ Sh (Fill ys j 0)) (fun i _ => n - (intOf i).toNat)
        case atStart => exact ⟨0, by omega, rfl, xs, HR, HF⟩
        case round =>
          clear HR HF
          obtain ⟨j, hj, rfl, ys, HR, HF⟩ := hrel
          by_cases hlt2 : j < n
          · go_wp2
            go_loopw [9] (fun i wr => ∃ (k : Nat) (zs : List (List Rg)), k ≤ (zs.getD j []).length ∧ i = .int .i64 k ∧ Sh (RW Wb wr G n cap zs) ∧ Sh (Fill zs j k)) (fun i _ => 557057 - (intOf i).toNat)
            case atStart => exact ⟨0, ys, by omega, rfl, HR, HF⟩
            case round =>
              clear HR HF
              obtain ⟨k, zs, hk, rfl, HR, HF⟩ := hrel
              have hsm := HF.out.small j
              obtain ⟨Aj, cj, y0, hcj, -, hRj⟩ := row_at HR.out.s j hlt2
              by_cases hlt3 : k < (zs.getD j []).length
              · obtain ⟨gj, cj', e, -, -, -⟩ := Kd.R_form hRj (by omega)
                injection e with e1 _ _
                subst e1
                obtain ⟨hS, hbg, o0, o1, w0, w1, f0, f1⟩ := S_put HR.out.s j hlt2 y0 k hlt3 ((j : Int), -1)
                have HST := Sh.mk hS
                have HFS := Sh.mk (HF.out.set (by have := HN.out; omega) hlt3)
                have HBG := Sh.mk hbg
                clear hRj hS hbg
                obtain ⟨m, hm⟩ : ∃ m, m = (zs.getD j []).length := ⟨_, rfl⟩
                rw [← hm] at y0 hcj hlt3 hsm hk
                have HM := Sh.mk hm
                clear hm
                go_wp2
                go_roundw
                case rel =>
                  refine ⟨k + 1, zs.set j ((zs.getD j []).set k ((j : Int), -1)), ?_, by go_num, ⟨HST.out, (HR.out.b.setCell (p := ⟨gj, k * 2, none⟩) HBG.out _).setCell (p := ⟨gj, k * 2 + 1, none⟩) HBG.out _⟩, HFS⟩
                  rw [getD_setL _ _ _ _ (by rw [HF.out.len]; have := HN.out; omega), if_pos rfl, List.length_set, ← HM.out]
                  omega
                case measure => simp [intOf] <;> omega
              · obtain ⟨m, hm⟩ : ∃ m, m = (zs.getD j []).length := ⟨_, rfl⟩
                rw [← hm] at y0 hcj hlt3 hsm hk
                have HM := Sh.mk hm
                clear hm hRj
                obtain rfl : k = m := by omega
                go_wp2
                go_roundw
                case rel => exact ⟨j + 1, by omega, by go_num, zs, HR, ⟨HF.out.next (by rw [← HM.out]; exact Nat.le_refl _)⟩⟩
                case measure => simp [intOf] <;> omega
          · obtain rfl : j = n := by omega
            go_wp2
            go_loopw [10, 11] (fun gr i wr => ∃ (q i' : Nat), i' ≤ j ∧ i = .int .i64 i' ∧ gr = .int .i64 q ∧ 64 * i' ≤ q ∧ q ≤ 557120 * i' ∧ Sh (RW Wb wr G j cap ys)) (fun _ i _ => j - (intOf i).toNat)
            case atStart => exact ⟨0, 0, by omega, rfl, rfl, by omega, by omega, HR⟩
            case round =>
              clear HR
              obtain ⟨q, i, hi, rfl, rfl, hq1, hq2, HR⟩ := hrel
              by_cases hlt4 : i < j
              · have hsm := HF.out.small i
                obtain ⟨Aj, cj, y0, hcj, -, hRj⟩ := row_at HR.out.s i hlt4
                have HY := Sh.mk y0
                obtain ⟨L, hL⟩ : ∃ L, L = ys.getD i [] := ⟨_, rfl⟩
                rw [← hL] at y0 hcj hsm hRj HY
                have HL := Sh.mk hL
                clear hL
                obtain ⟨m, hm⟩ : ∃ m, m = L.length := ⟨_, rfl⟩
                rw [← hm] at y0 hcj hsm hRj HY
                have HM := Sh.mk hm
                have HG := Sh.mk (Grow.start hRj)
                have hbw : Wb.heap.size ≤ wr.heap.size := HR.out.b.size
                clear hm hRj hcj
                go_wp2
                go_loopw [12, 13] (fun l i wx => ∃ (k : Nat) (zs : List Rg), k ≤ 64 ∧ i = .int .i64 k ∧ zs.length = m + k ∧ Sh (Grow rgK RgT wr wx Wb.heap.size (.slice Aj m cj) L zs l)) (fun _ i _ => 64 - (intOf i).toNat)
                case atStart => exact ⟨0, L, by omega, rfl, by rw [← HM.out]; rfl, HG⟩
                case round =>
                  clear HG y0
                  obtain ⟨k, zs, hk, rfl, hzl, HG⟩ := hrel
                  have HZ := Sh.mk hzl
                  clear hzl
                  by_cases hlt5 : k < 64
                  · have hzz : zs.length ≤ 8388608 := by rw [HZ.out]; omega
                    go_wp2_with (first | ((with_reducible refine gate_builtin (b := .append) (xs := #[.tmp 108, .tmp 110]) rfl ?_); refine app_two (.tmp 108) (.tmp 110) (.slice Aj m cj) _ L zs (-5, -5) rfl rfl rfl _ rfl rfl HG.out hbw hzz ?_; intro v1 w1 hg; have HG1 := Sh.mk hg; clear hg))
                    go_roundw
                    case rel => exact ⟨k + 1, zs ++ [(-5, -5)], by omega, by go_num, by rw [List.length_append, HZ.out]; rfl, HG1⟩
                    case measure => simp [intOf] <;> omega
                  · have hk64 : k = 64 := by omega
                    have HR2 := Sh.mk (show RW Wb _ G j cap ys from ⟨S_grow HR.out.s i hlt4 (by rw [HF.out.len]; exact HN.out) HY.out (by rw [← HL.out]; exact HG.out), pw_below_grown HR.out.b _ hbw HG.out.g (fun k hk => Kd.R_base HG.out.row k hk)⟩)
                    obtain ⟨Al, cl, rfl⟩ := Kd.R_slice HG.out.now
                    obtain ⟨t, ht⟩ : ∃ t, t = zs.length := ⟨_, rfl⟩
                    rw [← ht] at HG ⊢
                    have ht2 : t = m + 64 := by rw [ht, HZ.out, hk64]
                    have q5 : (t : Int) ≤ 557120 := by omega
                    have q6 : (64 : Int) ≤ (t : Int) := by omega
                    have HT2 := Sh.mk ht2
                    clear ht ht2 hk64
                    go_wp2
                    go_roundw
                    case rel => exact ⟨q + t, i + 1, by omega, by go_num, by go_num, by omega, by omega, HR2⟩
                    case measure => simp [intOf] <;> omega
              · obtain rfl : i = j := by omega
                go_wp2
                go_loopw [14] (fun a wr => ∃ j' : Nat, j' ≤ i ∧ a = .int .i64 j' ∧ Sh (RW Wb wr G i cap ys)) (fun a _ => i - (intOf a).toNat)
                case atStart => exact ⟨0, by omega, rfl, HR⟩
                case round =>
                  clear HR
                  obtain ⟨j, hj6, rfl, HR⟩ := hrel
                  by_cases hlt6 : j < i
                  · go_wp2
                    go_loopw [15] (fun a wr => ∃ k : Nat, k ≤ (ys.getD j []).length ∧ a = .int .i64 k ∧ Sh (RW Wb wr G i cap ys)) (fun a _ => 557057 - (intOf a).toNat)
                    case atStart => exact ⟨0, by omega, rfl, HR⟩
                    case round =>
                      clear HR
                      obtain ⟨k, hk7, rfl, HR⟩ := hrel
                      obtain ⟨Aj, cj, y0, hcj, hCj, -⟩ := row_at HR.out.s j hlt6
                      have hsm := HF.out.small j
                      by_cases hlt7 : k < (ys.getD j []).length
                      · obtain ⟨ad, rfl, o0, o1⟩ := C_rg hCj k hlt7
                        rw [HF.out.done j hlt6 k hlt7] at o0 o1
                        obtain ⟨m, hm⟩ : ∃ m, m = (ys.getD j []).length := ⟨_, rfl⟩
                        rw [← hm] at y0 hcj hlt7 hsm hk7
                        have HM := Sh.mk hm
                        clear hm hCj
                        go_wp2
                        go_roundw
                        case rel => exact ⟨k + 1, by rw [← HM.out]; omega, by go_num, HR⟩
                        case measure => simp [intOf] <;> omega
                      · obtain ⟨m, hm⟩ : ∃ m, m = (ys.getD j []).length := ⟨_, rfl⟩
                        rw [← hm] at y0 hcj hlt7 hsm hk7
                        clear hm hCj
                        obtain rfl : k = m := by omega
                        go_wp2
                        go_roundw
                        case rel => exact ⟨j + 1, by omega, by go_num, HR⟩
                        case measure => simp [intOf] <;> omega
                  · have hji : j = i := by omega
                    have HZ := Sh.mk (HS.out.below HR.out.b)
                    obtain ⟨z0, z1, z2⟩ := HZ.out.bx.rq.cells
                    obtain ⟨z3, z4⟩ := HZ.out.cells
                    have p1 : IntKind.i64.wrap (64 * (i : Int)) = 64 * (i : Int) := IntWalk.i64_in _ (by omega)
                    have p2 : 64 * (i : Int) ≤ (q : Int) := by omega
                    clear hji HR HF HN
                    go_wp2_with fail
                    refine (same_any A1 A cA1 cA nA nA la la _ HZ.out.pa HZ.out.bx.rq.a hA1 hcA (by omega)).mono ?_
                    rintro e w2 ⟨he, hd⟩
                    rw [decide_eq_true rfl] at he
                    subst he
                    replace HZ := Sh.mk (HZ.out.below hd.below)
                    clear hd z0 z1 z2 z3 z4
                    obtain ⟨z0, z1, z2⟩ := HZ.out.bx.rq.cells
                    obtain ⟨z3, z4⟩ := HZ.out.cells
                    go_wp2_with fail
                    refine (same_any B1 B cB1 cB nB nB lb lb _ HZ.out.pb HZ.out.bx.rq.b hB1 hcB (by omega)).mono ?_
                    rintro e w3 ⟨he, hd⟩
                    rw [decide_eq_true rfl] at he
                    subst he
                    replace HZ := Sh.mk (HZ.out.below hd.below)
                    clear hd z0 z1 z2 z3 z4
                    obtain ⟨z0, z1, z2⟩ := HZ.out.bx.rq.cells
                    obtain ⟨z3, z4⟩ := HZ.out.cells
                    go_wp2_with fail
                    refine (ans_any E A1 B1 cA1 cB1 nA nB la lb pt _ (HE.out.below HZ.out.bx.rq.bel) HZ.out.pa HZ.out.pb hA1 hB1 hna hnb).mono ?_
                    rintro e w4 ⟨rfl, hb⟩
                    replace HZ := Sh.mk (HZ.out.below hb)
                    clear hb z0 z1 z2 z3 z4
                    obtain ⟨z0, z1, z2⟩ := HZ.out.bx.rq.cells
                    obtain ⟨z3, z4⟩ := HZ.out.cells
                    go_wp2_with fail
                    refine (ans_any E A2 B2 c2 d2 2 1 fa fb 5 _ (HE.out.below HZ.out.bx.rq.bel) HZ.out.qa HZ.out.qb hc2 hd2 (by omega) (by omega)).mono ?_
                    rintro e w5 ⟨rfl, hb⟩
                    replace HZ := Sh.mk (HZ.out.below hb)
                    clear hb z0 z1 z2 z3 z4
                    go_wp2
                    go_ret
                    exact ⟨rfl, HZ.out.bx.rq.bel⟩
end Go.Proofs.YthjdjgppghplgaaDoor
