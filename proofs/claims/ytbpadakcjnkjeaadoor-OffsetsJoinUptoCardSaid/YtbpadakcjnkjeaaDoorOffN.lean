/-
Several texts as one: OffLaw, OffNew, OffNewW, OffSearch.
-/
import Derived.Test.YtbpadakcjnkjeaaDoorSplit
import Derived.Deep.QuietTactic
import Derived.BigQuiet
/- The places of a text, counted in four ways: what stands ahead of each unit; all of them rise. No condition. -/
namespace Go.Proofs.YtbpadakcjnkjeaaDoor
open Go Go.RowKit Go.Proofs.YtbpadakcjnkjeaaDoorW.PrintWords Go.Proofs.YtbpadakcjnkjeaaDoorW.PrintLast Go.Proofs.YtbpadakcjnkjeaaDoorW.PrintMore
set_option maxRecDepth 100000
abbrev Pl : Type := Int × Int × Int × Int
abbrev Un : Type := Int × Int × Int
def stepP (p : Pl) (u : Un) : Pl := (u.2.2, (if 65535 < u.1 then p.2.1 + 1 + 1 else p.2.1 + 1), (if u.1 = 10 then p.2.2.1 + 1 else p.2.2.1), (if u.1 = 10 then 1 else p.2.2.2 + 1))
/-- The place ahead of unit k. -/
def plA (us : List Un) (k : Nat) : Pl := (us.take k).foldl stepP (0, 0, 1, 1)
def plL (us : List Un) (k : Nat) : List Pl := (List.range k).map (plA us)
def rdU (us : List Un) (k : Nat) : Un := us.getD k (0, 0, 0)
theorem plA_zero (us : List Un) : plA us 0 = (0, 0, 1, 1) := rfl
theorem plA_succ (us : List Un) (k : Nat) (h : k < us.length) : plA us (k + 1) = stepP (plA us k) (rdU us k) := by
  unfold plA rdU
  rw [List.take_succ_eq_append_getElem h, List.foldl_append]
  simp [List.getD, h]
theorem plL_len (us : List Un) (k : Nat) : (plL us k).length = k := by simp [plL]
theorem plL_succ (us : List Un) (k : Nat) : plL us (k + 1) = plL us k ++ [plA us k] := by simp [plL, List.range_succ]
theorem plL_get (us : List Un) (n k : Nat) (h : k < n) : (plL us n)[k]? = some (plA us k) := by simp [plL, h]
theorem plA_bound (us : List Un) : ∀ k, k ≤ us.length → (0 ≤ (plA us k).2.1 ∧ (plA us k).2.1 ≤ 2 * (k : Int)) ∧ (1 ≤ (plA us k).2.2.1 ∧ (plA us k).2.2.1 ≤ (k : Int) + 1) ∧ (1 ≤ (plA us k).2.2.2 ∧ (plA us k).2.2.2 ≤ (k : Int) + 1) := by
  intro k
  induction k with
  | zero => intro _; simp [plA]
  | succ k ih =>
    intro hk
    obtain ⟨h1, h2, h3⟩ := ih (by omega)
    rw [plA_succ us k (by omega)]
    simp only [stepP]
    refine ⟨?_, ?_, ?_⟩ <;> split <;> omega
/-- Units that follow one another. -/
def Chained : List Un → Int → Prop
  | [], _ => True
  | u :: r, i => u.2.1 = i ∧ u.2.1 < u.2.2 ∧ Chained r u.2.2
theorem chained_units (s : ByteArray) : ∀ f i, Chained (unitsFrom s f i) (i : Int) := by
  intro f
  induction f with
  | zero => intro i; simp [unitsFrom, Chained]
  | succ f ih =>
    intro i
    rw [unitsFrom]
    split
    · have hp := unitLen_pos s i
      refine ⟨rfl, ?_, ?_⟩
      · simp only; omega
      · have := ih (i + unitLen s i)
        simpa using this
    · simp [Chained]
theorem chained_at : ∀ (us : List Un) (p : Pl), Chained us p.1 → ∀ k, (h : k < us.length) → ((us.take k).foldl stepP p).1 = us[k].2.1 ∧ us[k].2.1 < us[k].2.2 := by
  intro us
  induction us with
  | nil => intro p _ k h; simp at h
  | cons u us ih =>
    intro p hc k h
    cases k with
    | zero => exact ⟨hc.1.symm, hc.2.1⟩
    | succ k =>
      rw [List.take_succ_cons, List.foldl_cons]
      have := ih (stepP p u) hc.2.2 k (by simpa using h)
      simpa using this
theorem rises_of {α : Type} (lt : α → α → Prop) (tr : ∀ a b c, lt a b → lt b c → lt a c) (f : Nat → α) (n : Nat) (h : ∀ k, k < n → lt (f k) (f (k + 1))) : ∀ i j, i < j → j ≤ n → lt (f i) (f j) := by
  intro i j hij
  induction j with
  | zero => omega
  | succ j ih =>
    intro hj
    by_cases e : i = j
    · subst e; exact h i (by omega)
    · exact tr _ _ _ (ih (by omega) (by omega)) (h j (by omega))
def lexLt (a b : Int × Int) : Prop := a.1 < b.1 ∨ a.1 = b.1 ∧ a.2 < b.2
theorem at_step {us : List Un} (hc : Chained us 0) (k : Nat) (h : k < us.length) : (plA us k).1 < (plA us (k + 1)).1 := by
  have h1 := chained_at us (0, 0, 1, 1) hc k h
  rw [plA_succ us k h]
  have e : rdU us k = us[k] := by simp [rdU, List.getD, h]
  simp only [stepP, e]
  have h2 : (plA us k).1 = us[k].2.1 := h1.1
  omega
theorem wide_step (us : List Un) (k : Nat) (h : k < us.length) : (plA us k).2.1 < (plA us (k + 1)).2.1 := by
  rw [plA_succ us k h]
  simp only [stepP]
  split <;> omega
theorem line_step (us : List Un) (k : Nat) (h : k < us.length) : lexLt (plA us k).2.2 (plA us (k + 1)).2.2 := by
  rw [plA_succ us k h]
  simp only [stepP, lexLt]
  split <;> omega
theorem lex_trans (a b c : Int × Int) (h : lexLt a b) (k : lexLt b c) : lexLt a c := by unfold lexLt at *; omega
theorem at_rise {us : List Un} (hc : Chained us 0) : ∀ i j, i < j → j ≤ us.length → (plA us i).1 < (plA us j).1 := rises_of (fun a b : Int => a < b) (fun _ _ _ => Int.lt_trans) (fun k => (plA us k).1) us.length (fun k hk => at_step hc k hk)
theorem wide_rise (us : List Un) : ∀ i j, i < j → j ≤ us.length → (plA us i).2.1 < (plA us j).2.1 := rises_of (fun a b : Int => a < b) (fun _ _ _ => Int.lt_trans) (fun k => (plA us k).2.1) us.length (fun k hk => wide_step us k hk)
theorem line_rise (us : List Un) : ∀ i j, i < j → j ≤ us.length → lexLt (plA us i).2.2 (plA us j).2.2 := rises_of lexLt lex_trans (fun k => (plA us k).2.2) us.length (fun k hk => line_step us k hk)
/-- The first place of which q holds. -/
def firstF (n : Nat) (q : Nat → Bool) : Option Nat := (List.range n).find? q
theorem first_some {n : Nat} {q : Nat → Bool} {j : Nat} (h : firstF n q = some j) : j < n ∧ q j = true ∧ ∀ i, i < j → q i = false := by
  unfold firstF at h
  rw [List.find?_range_eq_some] at h
  exact ⟨by simpa using h.2.1, h.1, fun i hi => by simpa using h.2.2 i hi⟩
theorem first_none {n : Nat} {q : Nat → Bool} (h : firstF n q = none) : ∀ i, i < n → q i = false := by
  unfold firstF at h
  rw [List.find?_range_eq_none] at h
  exact fun i hi => by simpa using h i hi
/-- What a search among what rises finds. -/
theorem search_found {n : Nat} (ge eq : Nat → Bool) (c : Nat) (hc : c ≤ n) (h0 : ∀ t, t < c → ge t = false) (h1 : ∀ t, c ≤ t → t < n → ge t = true)
    (hge : ∀ t, t < n → eq t = true → ge t = true) (hone : ∀ t u, t < u → u < n → eq u = true → ge t = false) :
    (∀ j, firstF n eq = some j → c = j) ∧ (firstF n eq = none → c < n → eq c = false) ∧ (∀ j, firstF n eq = some j → j < n ∧ eq j = true) := by
  refine ⟨fun j hj => ?_, fun hn hcn => first_none hn c hcn, fun j hj => ⟨(first_some hj).1, (first_some hj).2.1⟩⟩
  obtain ⟨a, b, _⟩ := first_some hj
  have g := hge j a b
  by_cases h2 : j < c
  · rw [h0 j h2] at g; cases g
  · by_cases h3 : c < j
    · have := hone c j h3 a b
      rw [h1 c (Nat.le_refl _) (by omega)] at this
      cases this
    · omega
end Go.Proofs.YtbpadakcjnkjeaaDoor
/- offsets.New: the places of a text in memory. Conditions: the text's size; the table reads as listed. -/
namespace Go.Proofs.YtbpadakcjnkjeaaDoor
open Go Go.RowKit Go.Proofs.YtbpadakcjnkjeaaDoorW.PrintWords Go.Proofs.YtbpadakcjnkjeaaDoorW.PrintLast Go.Proofs.YtbpadakcjnkjeaaDoorW.PrintMore
set_option maxRecDepth 100000
set_option linter.unusedSimpArgs false
abbrev PlT : TypeId := 57
abbrev MpT : TypeId := 60
abbrev plK : Kd Pl := Kd.pair (Kd.int .i64) (Kd.pair (Kd.int .i64) (Kd.pair (Kd.int .i64) (Kd.int .i64)))
theorem info_pl : (Tryd.prog.info? PlT).map (fun i => (i.zero, i.size, i.bytes)) = some (some (.agg #[.int .i64 0, .int .i64 0, .int .i64 0, .int .i64 0]), 4, 32) := by kernel_rfl
theorem pl_M (w : World) (base : Nat) (ok : Nat → Prop) (x : Pl) : plK.M w base ok x [.int .i64 x.1, .int .i64 x.2.1, .int .i64 x.2.2.1, .int .i64 x.2.2.2] :=
  ⟨[.int .i64 x.1], [.int .i64 x.2.1, .int .i64 x.2.2.1, .int .i64 x.2.2.2], rfl, rfl, [.int .i64 x.2.1], [.int .i64 x.2.2.1, .int .i64 x.2.2.2], rfl, rfl, [.int .i64 x.2.2.1], [.int .i64 x.2.2.2], rfl, rfl, rfl⟩
/-- What an index into a row of units reads. -/
theorem C_un {w : World} {A : Option Addr} {n : Nat} {xs : List Un} (h : unitK.C w A n xs) (i : Nat) (hi : i < n) : ∃ ad, A = some ad ∧ w.cell? (ad.add (i * 3)) = some (.int .i64 (rdU xs i).1) ∧ w.cell? ⟨(ad.add (i * 3)).block, (ad.add (i * 3)).off + 1, none⟩ = some (.int .i64 (rdU xs i).2.1) ∧ w.cell? ⟨(ad.add (i * 3)).block, (ad.add (i * 3)).off + 2, none⟩ = some (.int .i64 (rdU xs i).2.2) := by
  obtain ⟨h1, h2, h3⟩ := h
  obtain ⟨ad, e, hc⟩ := h3 (by omega)
  have hl : i < xs.length := by omega
  obtain ⟨c, hs, hp, hcell⟩ := hc i _ (List.getElem?_eq_getElem hl)
  obtain ⟨c0, c1, rfl, hc0, c2, c3, rfl, hc2, hc3⟩ := hp
  have e0 : rdU xs i = xs[i] := by simp [rdU, List.getD, hl]
  rw [e0]
  have k0 : c0 = [.int .i64 xs[i].1] := hc0
  have k2 : c2 = [.int .i64 xs[i].2.1] := hc2
  have k3 : c3 = [.int .i64 xs[i].2.2] := hc3
  subst k0 k2 k3
  exact ⟨ad, e, hcell 0 _ rfl, by rw [← add_field _ _ 1 (by omega)]; exact hcell 1 _ rfl, by rw [← add_field _ _ 2 (by omega)]; exact hcell 2 _ rfl⟩
/-- A map in memory. -/
structure MapAt (w : World) (B b : Nat) (v : Value) (ps : List Pl) : Prop where
  blk : w.heap[b]? = some (.cells #[v] MpT (0, 0))
  row : Kd.R plK PlT w B (fun _ => True) v ps
theorem MapAt.cell {w : World} {B b : Nat} {v : Value} {ps : List Pl} (h : MapAt w B b v ps) : w.cell? ⟨b, 0, none⟩ = some v := (blk_cell h.blk 0).trans rfl
theorem MapAt.lt {w : World} {B b : Nat} {v : Value} {ps : List Pl} (h : MapAt w B b v ps) : b < w.heap.size := blk_lt h.blk
theorem MapAt.below {w w1 : World} {B b : Nat} {v : Value} {ps : List Pl} (h : MapAt w B b v ps) (hb : Below w.heap.size w w1) : MapAt w1 B b v ps := ⟨blk_below h.blk hb, Kd.R_below h.row hb⟩
theorem MapAt.ne {w : World} {B b : Nat} {v : Value} {ps : List Pl} (h : MapAt w B b v ps) : v.ownBlock ≠ some b := by
  obtain ⟨inner, ho⟩ := Kd.R_own h.row
  intro e
  obtain ⟨cells, hc⟩ := own_typed ho b e
  rw [h.blk] at hc
  simp only [Option.some.injEq, Obj.cells.injEq] at hc
  exact absurd hc.2.1 (by decide)
theorem MapAt.base {w : World} {B b : Nat} {v : Value} {ps : List Pl} (h : MapAt w B b v ps) (g : Nat) (hg : v.ownBlock = some g) : B ≤ g := by
  obtain ⟨inner, ho⟩ := Kd.R_own h.row
  exact own_base ho g hg
theorem MapAt.new (w : World) (B : Nat) : MapAt (w.alloc (.cells #[.slice none 0 0] MpT)) B w.heap.size (.slice none 0 0) [] := ⟨blk_new _ _, Kd.R_nil _ _ _ _ _⟩
/-- A store of the row behind an append. -/
theorem MapAt.put {w w1 : World} {B b : Nat} {v v1 : Value} {l l1 : List Pl} (h : MapAt w B b v l) (hg : w.grownBy w1 v.ownBlock) (hr : Kd.R plK PlT w1 B (fun _ => True) v1 l1) : MapAt (w1.setCell ⟨b, 0, none⟩ v1) B b v1 l1 := by
  have hb1 : w1.heap[b]? = some (.cells #[v] MpT (0, 0)) := (hg.block b h.lt (fun e => h.ne e.symm)).trans h.blk
  refine ⟨?_, Kd.R_set hr hb1 (by intro q hq; simp [plK, Kd.pair, Kd.int, Kd.scalar] at hq; subst hq; decide) 0 _⟩
  have := blk_set hb1 0 v1
  simpa using this
/-- A cell of a block that is not the row's is written. -/
theorem MapAt.set {w : World} {B b : Nat} {v : Value} {l : List Pl} (h : MapAt w B b v l) (pb j : Nat) (x : Value) (h1 : b ≠ pb) (h2 : pb < B) : MapAt (w.setCell ⟨pb, j, none⟩ x) B b v l := by
  refine ⟨(Below.heap_setCell _ _ _ _ (fun e => h1 (by simpa using e))).trans h.blk, ?_⟩
  have ht : Kd.R plK PlT w B (fun i => some i = v.ownBlock) v l := Kd.R_tight rfl h.row
  exact Kd.R_mono (Kd.R_step ht (fun i hi hlt => Below.heap_setCell _ _ _ _ (fun e => by have := h.base i hi.symm; simp at e; omega))) (fun _ _ => trivial)
/-- What lies in memory while New goes along the units. -/
structure NS (w : World) (z pb : Nat) (v : Value) (ps : List Pl) (cs : Array Value) (A : Option Addr) (n c : Nat) (us : List Un) (W : World) : Prop where
  m : MapAt W z (pb + 1) v ps
  p : W.heap[pb]? = some (.cells cs PlT (0, 0))
  bel : Below w.heap.size w W
  row : Kd.R unitK 50 W 0 (fun i => pb + 2 ≤ i ∧ i < z) (.slice A n c) us
  hz : pb + 2 ≤ z
  hzW : z ≤ W.heap.size
  hw : w.heap.size ≤ pb
section
variable {w : World} {z pb : Nat} {v : Value} {ps : List Pl} {cs : Array Value} {A : Option Addr} {n c : Nat} {us : List Un} {W W1 : World}
theorem NS.below (h : NS w z pb v ps cs A n c us W) (hb : Below W.heap.size W W1) : NS w z pb v ps cs A n c us W1 :=
  ⟨h.m.below hb, blk_below h.p hb, below_of h.bel hb, Kd.R_below h.row hb, h.hz, Nat.le_trans h.hzW hb.size, h.hw⟩
theorem NS.setp (h : NS w z pb v ps cs A n c us W) (i : Nat) (x : Value) : NS w z pb v ps (cs.setIfInBounds i x) A n c us (W.setCell ⟨pb, i, none⟩ x) :=
  ⟨h.m.set pb i x (by omega) (by have := h.hz; omega), blk_set h.p i x, h.bel.setCell (p := ⟨pb, i, none⟩) h.hw _, Kd.R_step h.row (fun k hk _ => Below.heap_setCell _ _ _ _ (fun e => by simp at e; omega)), h.hz, by have := h.hzW; simp [World.setCell]; exact this, h.hw⟩
theorem NS.app (h : NS w z pb v ps cs A n c us W) {v1 : Value} {ps1 : List Pl} (hg : W.grownBy W1 v.ownBlock) (hr : Kd.R plK PlT W1 z (fun _ => True) v1 ps1) : NS w z pb v1 ps1 cs A n c us (W1.setCell ⟨pb + 1, 0, none⟩ v1) := by
  have hz := h.hz
  have hbase : ∀ g, v.ownBlock = some g → z ≤ g := h.m.base
  have hk : ∀ k, k < z → k ≠ pb + 1 → (W1.setCell ⟨pb + 1, 0, none⟩ v1).heap[k]? = W.heap[k]? := fun k hk hne => (Below.heap_setCell _ _ _ _ (fun e => hne (by simpa using e))).trans (hg.block k (by have := h.hzW; omega) (fun e => by have := hbase k e.symm; omega))
  refine ⟨h.m.put hg hr, (hk pb (by omega) (by omega)).trans h.p, ?_, Kd.R_step h.row (fun k ho _ => hk k ho.2 (by omega)), hz, ?_, h.hw⟩
  · exact (h.bel.grown hg h.bel.size (fun g e => by have := hbase g e; have := h.hw; omega)).setCell (p := ⟨pb + 1, 0, none⟩) (by have := h.hw; show w.heap.size ≤ pb + 1; omega) _
  · have := h.hzW
    have := hg.size
    simp [World.setCell]
    omega
theorem NS.cells (h : NS w z pb v ps cs A n c us W) (i : Nat) : W.cell? ⟨pb, i, none⟩ = cs[i]? := blk_cell h.p i
end
end Go.Proofs.YtbpadakcjnkjeaaDoor
/- offsets.New, walked. Conditions: the text's size; the table reads as listed. -/
namespace Go.Proofs.YtbpadakcjnkjeaaDoor
open Go Go.RowKit Go.Proofs.YtbpadakcjnkjeaaDoorW.PrintWords Go.Proofs.YtbpadakcjnkjeaaDoorW.PrintLast Go.Proofs.YtbpadakcjnkjeaaDoorW.PrintMore
set_option maxRecDepth 100000
set_option linter.unusedSimpArgs false
set_option maxHeartbeats 8000000 in
set_option maxRecDepth 100000 in
theorem offNew_any (s : ByteArray) (w : World) (hf : FormsAt w) (hs : s.size ≤ 1000000000) :
    Calls Tryd.prog 9 #[.string s] w fun e w' => ∃ b v, e = .returned (.pointer (some ⟨b, 0, none⟩)) ∧ w.heap.size ≤ b ∧ MapAt w' w.heap.size b v (plL (unitsFrom s s.size 0) ((unitsFrom s s.size 0).length + 1)) ∧ Below w.heap.size w w' := by
  have HF := Sh.mk hf
  have hul := unitsFrom_len s s.size 0
  have HC := Sh.mk (chained_units s s.size 0)
  obtain ⟨us, hus⟩ : ∃ us, us = unitsFrom s s.size 0 := ⟨_, rfl⟩
  have HU := Sh.mk hus
  rw [← hus] at hul HC ⊢
  clear hf hus
  go_enter Tryd.func9, Tryd.ntmps9
  go_wp2_with fail
  obtain ⟨pb, hpb⟩ : ∃ pb, pb = w.heap.size := ⟨_, rfl⟩
  obtain ⟨w1, hw1⟩ : ∃ w1, w1 = (w.alloc (.cells #[.int .i64 0, .int .i64 0, .int .i64 1, .int .i64 1] PlT)).alloc (.cells #[.slice none 0 0] MpT) := ⟨_, rfl⟩
  have hb1 : Below w.heap.size w w1 := by rw [hw1]; exact ((Below.refl _ _).alloc (Nat.le_refl _) _).alloc (by simp) _
  have hs1 : w1.heap.size = pb + 2 := by rw [hw1, hpb]; simp
  have HM1 := Sh.mk (show MapAt w1 (pb + 2) (pb + 1) (.slice none 0 0) [] by
    have := MapAt.new (w.alloc (.cells #[.int .i64 0, .int .i64 0, .int .i64 1, .int .i64 1] PlT)) (pb + 2)
    rw [World.size_alloc, ← hpb, ← hw1] at this
    exact this)
  have HP1 := Sh.mk (show w1.heap[pb]? = some (.cells #[.int .i64 0, .int .i64 0, .int .i64 1, .int .i64 1] PlT (0, 0)) by rw [hw1, hpb]; exact blk_alloc (blk_new w _) _)
  have HB1 := Sh.mk hb1
  rw [← hw1, ← hpb]
  have HW := Sh.mk hpb
  clear hb1 hw1 hpb
  refine (split_any s w1 (HF.out.below HB1.out) (by omega)).mono ?_
  rintro e w2 ⟨v, rfl, hr, hb2⟩
  rw [← HU.out] at hr
  obtain ⟨A, c, rfl, hc, hC⟩ := R_open hr us.length rfl
  have hs2 : pb + 2 ≤ w2.heap.size := by rw [← hs1]; exact hb2.size
  have HM2 := Sh.mk (HM1.out.below hb2)
  have HP2 := Sh.mk (blk_below HP1.out hb2)
  have HB2 := Sh.mk (below_of HB1.out hb2)
  have HC2 := Sh.mk hC
  have hru : Kd.R unitK 50 w2 0 (fun i => pb + 2 ≤ i ∧ i < w2.heap.size) (.slice A us.length c) us := by
    obtain ⟨inner, ho⟩ := Kd.R_own hr
    have ht : Kd.R unitK 50 w2 w1.heap.size (fun i => some i = (Value.slice A us.length c).ownBlock) (.slice A us.length c) us := Kd.R_tight rfl hr
    refine Kd.R_lower (Kd.R_mono ht (fun k hk => ⟨?_, own_lt ho k hk.symm⟩)) (Nat.zero_le _)
    have := own_base ho k hk.symm
    omega
  have HS2 := Sh.mk (show NS w w2.heap.size pb (.slice none 0 0) (plL us 0) #[.int .i64 (plA us 0).1, .int .i64 (plA us 0).2.1, .int .i64 (plA us 0).2.2.1, .int .i64 (plA us 0).2.2.2] A us.length c us w2 from
    ⟨⟨HM2.out.blk, Kd.R_nil _ _ _ _ _⟩, HP2.out, HB2.out, hru, hs2, Nat.le_refl _, by have := HW.out; omega⟩)
  obtain ⟨z, hz⟩ : ∃ z, z = w2.heap.size := ⟨_, rfl⟩
  rw [← hz] at HS2
  have HZ := Sh.mk hz
  clear hr hb2 hC HM1 HP1 HB1 HM2 HP2 HB2 HC2 hru hz
  go_wp2
  go_loopw [13, 6] (fun i _ wr => ∃ (k : Nat) (v1 : Value), k ≤ us.length ∧ i = .int .i64 k ∧ Sh (NS w z pb v1 (plL us k) #[.int .i64 (plA us k).1, .int .i64 (plA us k).2.1, .int .i64 (plA us k).2.2.1, .int .i64 (plA us k).2.2.2] A us.length c us wr)) (fun i _ _ => us.length - (intOf i).toNat)
  case atStart => exact ⟨0, _, by omega, rfl, HS2⟩
  case round =>
    obtain ⟨k, v1, hk, rfl, HS⟩ := hrel
    by_cases hlt : k < us.length
    · obtain ⟨ad, e1, y0, y1, y2⟩ := C_un (C_of_R HS.out.row rfl) k hlt
      cases e1
      have hpe0 : plA us (k + 1) = stepP (plA us k) (rdU us k) := plA_succ us k hlt
      obtain ⟨⟨pA, pW, pL, pC⟩, hpe⟩ : ∃ p : Pl, p = plA us k := ⟨_, rfl⟩
      obtain ⟨⟨uP, uA, uE⟩, hue⟩ : ∃ u : Un, u = rdU us k := ⟨_, rfl⟩
      rw [← hpe, ← hue] at hpe0
      have hbd := plA_bound us k hk
      rw [← hpe] at hbd
      obtain ⟨⟨hW0, hW1⟩, ⟨hL0, hL1⟩, ⟨hC0, hC1⟩⟩ := hbd
      simp only [] at hW0 hW1 hL0 hL1 hC0 hC1
      rw [← hpe] at HS
      rw [← hue] at y0 y1 y2
      have HPE := Sh.mk hpe0
      simp only [] at y0 y1 y2 HS
      obtain ⟨W5, hW5⟩ : ∃ W5, W5 = wr.alloc (.cells #[.int .i64 uP, .int .i64 uA, .int .i64 uE] 50) := ⟨_, rfl⟩
      have hbW : Below wr.heap.size wr W5 := by rw [hW5]; exact (Below.refl _ _).alloc (Nat.le_refl _) _
      obtain ⟨ub, hub⟩ : ∃ ub, ub = wr.heap.size := ⟨_, rfl⟩
      have hubz : pb + 2 ≤ ub := by have := HS.out.hz; have := HS.out.hzW; omega
      have HU5 := Sh.mk (show W5.heap[ub]? = some (.cells #[.int .i64 uP, .int .i64 uA, .int .i64 uE] 50 (0, 0)) by rw [hW5, hub]; exact blk_new _ _)
      have HS5 := Sh.mk (HS.out.below hbW)
      have HSd := Sh.mk (HS5.out.below (below_drew (Below.refl _ _)))
      have HW5 := Sh.mk hW5
      have HUB := Sh.mk hub
      clear hW5 hub hbW hpe0 hue HS
      go_wp2_with fail
      rw [← HW5.out, ← HUB.out]
      clear HW5 HUB y0 y1 y2
      refine start_ (n := 11) (S := fun w' => w'.cell? ⟨pb + 1, 0, none⟩ = some v1 ∧ w'.cell? ⟨pb, 0, none⟩ = some (.int .i64 pA) ∧ w'.cell? ⟨pb, 1, none⟩ = some (.int .i64 pW) ∧ w'.cell? ⟨pb, 2, none⟩ = some (.int .i64 pL) ∧ w'.cell? ⟨pb, 3, none⟩ = some (.int .i64 pC)) (ds := [7, 10]) #[false, false, false, false, false, false, false, false, false, false, false] (by kernel_rfl) rfl rfl ⟨HSd.out.m.cell, ((HSd.out.cells 0).trans rfl), ((HSd.out.cells 1).trans rfl), ((HSd.out.cells 2).trans rfl), ((HSd.out.cells 3).trans rfl)⟩ (fun hHeld => ?_)
      refine pure_ (i := 0) (N := some 17) (v := ?_) (a' := ?_) #[true, false, false, false, false, false, false, false, false, false, false] rfl rfl (by kernel_rfl) (fun _ _ _ h => h) (Or.inl ⟨by rfl, ?_⟩) ?_ ?_
      rotate_left
      · intro w'
        go_simp
        with_reducible rfl
      rotate_left
      · simp only [Act.put, List.setIfInBounds_toArray, List.set_cons_zero, List.set_cons_succ, i64_w, i32_w]
        rfl
      refine pure_ (i := 1) (N := some 18) (v := ?_) (a' := ?_) #[true, true, false, false, false, false, false, false, false, false, false] rfl rfl (by kernel_rfl) (fun _ _ _ h => h) (Or.inl ⟨by rfl, ?_⟩) ?_ ?_
      rotate_left
      · intro w'
        go_simp
        with_reducible rfl
      rotate_left
      · simp only [Act.put, List.setIfInBounds_toArray, List.set_cons_zero, List.set_cons_succ, i64_w, i32_w]
        rfl
      refine pure_ (i := 2) (N := some 19) (v := ?_) (a' := ?_) #[true, true, true, false, false, false, false, false, false, false, false] rfl rfl (by kernel_rfl) (fun _ _ _ h => h) (Or.inl ⟨by rfl, ?_⟩) ?_ ?_
      rotate_left
      · intro w'
        go_simp
        with_reducible rfl
      rotate_left
      · simp only [Act.put, List.setIfInBounds_toArray, List.set_cons_zero, List.set_cons_succ, i64_w, i32_w]
        rfl
      refine pure_ (i := 3) (N := some 20) (v := ?_) (a' := ?_) #[true, true, true, true, false, false, false, false, false, false, false] rfl rfl (by kernel_rfl) (fun _ _ _ h => h) (Or.inl ⟨by rfl, ?_⟩) ?_ ?_
      rotate_left
      · intro w'
        go_simp
        with_reducible rfl
      rotate_left
      · simp only [Act.put, List.setIfInBounds_toArray, List.set_cons_zero, List.set_cons_succ, i64_w, i32_w]
        rfl
      refine take_ (i := 4) (N := some 21) (v := ?_) (a' := ?_) #[true, true, true, true, true, false, false, false, false, false, false] rfl rfl (by kernel_rfl) (fun _ _ _ h => h) (Or.inl ⟨by rfl, ?_⟩) hHeld ?_ ?_
      rotate_left
      · rintro w' ⟨s0, s1, s2, s3, s4⟩
        go_simp
        with_reducible rfl
      rotate_left
      · simp only [Act.put, List.setIfInBounds_toArray, List.set_cons_zero, List.set_cons_succ, i64_w, i32_w]
        rfl
      refine take_ (i := 5) (N := some 22) (v := ?_) (a' := ?_) #[true, true, true, true, true, true, false, false, false, false, false] rfl rfl (by kernel_rfl) (fun _ _ _ h => h) (Or.inl ⟨by rfl, ?_⟩) hHeld ?_ ?_
      rotate_left
      · rintro w' ⟨s0, s1, s2, s3, s4⟩
        go_simp
        with_reducible rfl
      rotate_left
      · simp only [Act.put, List.setIfInBounds_toArray, List.set_cons_zero, List.set_cons_succ, i64_w, i32_w]
        rfl
      refine one_ (i := 6) (N := some 23) #[true, true, true, true, true, true, true, false, false, false, false] rfl rfl (by kernel_rfl) (by decide) (fun K hK => ?_)
      refine value_ (w1 := ?_) (v := ?_) (by rfl) rfl ?_ ?_
      rotate_left 2
      · go_simp
        constructor
        · rfl
        · rfl
      refine hK.out _ _ ⟨(HSd.out.m.below (below_alloc (Below.refl _ _) _)).cell, (((HSd.out.below (below_alloc (Below.refl _ _) _)).cells 0).trans rfl), (((HSd.out.below (below_alloc (Below.refl _ _) _)).cells 1).trans rfl), (((HSd.out.below (below_alloc (Below.refl _ _) _)).cells 2).trans rfl), (((HSd.out.below (below_alloc (Below.refl _ _) _)).cells 3).trans rfl)⟩ (fun hHeld => ?_)
      clear hK K
      refine norm_ (a' := ?_) ?_ ?_
      rotate_left
      · show Act.put _ (some 23) _ = _
        simp only [Act.put, List.setIfInBounds_toArray, List.set_cons_zero, List.set_cons_succ, i64_w, i32_w]
        rfl
      refine last_ (i := 7) (N := some 24) #[true, true, true, true, true, true, true, true, false, false, false] rfl rfl (by kernel_rfl) (by decide) (fun K hK => ?_)
      refine Kd.R_append_step plK (w0 := W5.drew) z (by rfl) (.tmp 21) (.tmp 23) 58 PlT (.agg #[.int .i64 0, .int .i64 0, .int .i64 0, .int .i64 0]) 32 rfl Tryd.underlying58 info_pl rfl (by decide) (by decide) _ (plL us k) (pA, pW, pL, pC) [.int .i64 pA, .int .i64 pW, .int .i64 pL, .int .i64 pC] (fun _ => True) (fun _ => False) rfl rfl (pl_M _ _ _ (pA, pW, pL, pC)) (fun _ hk => hk.elim) (fun _ _ => trivial) HSd.out.m.row (Below.refl _ _) HSd.out.hzW (by rw [plL_len]; omega) ?_
      intro v4 w4 hr4 _ hg4 hat4
      rw [hpe, ← plL_succ] at hr4
      obtain ⟨A4, c4, rfl, hc4, _⟩ := Kd.R_reads hr4
      have HS4 := Sh.mk (HSd.out.app hg4 hr4)
      have HU4 := Sh.mk ((Below.heap_setCell _ ⟨pb + 1, 0, none⟩ (Value.slice A4 (plL us (k + 1)).length c4) _ (by show ub ≠ pb + 1; omega)).trans ((hg4.block ub (blk_lt HU5.out) (fun e => (Kd.R_ne HS5.out.m.row HU5.out (by decide)) e)).trans HU5.out))
      have HB4 := Sh.mk ((hg4.block (pb + 1) HSd.out.m.lt (fun e => HSd.out.m.ne e.symm)).trans HSd.out.m.blk)
      have xf4 := blk_frozen HB4.out 0
      have xc4 : w4.cell? ⟨pb + 1, 0, none⟩ = some v1 := (blk_cell HB4.out 0).trans rfl
      clear hr4 hg4 hat4
      refine hK.out _ _ ?_
      clear hK K
      refine norm_ (a' := ?_) ?_ ?_
      rotate_left
      · show Act.put _ (some 24) _ = _
        simp only [Act.put, List.setIfInBounds_toArray, List.set_cons_zero, List.set_cons_succ, i64_w, i32_w]
        rfl
      refine pure_ (i := 8) (N := some 25) (v := ?_) (a' := ?_) #[true, true, true, true, true, true, true, true, true, false, false] rfl rfl (by kernel_rfl) (fun _ _ _ h => h) (Or.inl ⟨by rfl, ?_⟩) ?_ ?_
      rotate_left
      · intro w'
        go_simp
        with_reducible rfl
      rotate_left
      · simp only [Act.put, List.setIfInBounds_toArray, List.set_cons_zero, List.set_cons_succ, i64_w, i32_w]
        rfl
      refine pure_ (i := 9) (N := some 26) (v := ?_) (a' := ?_) #[true, true, true, true, true, true, true, true, true, true, false] rfl rfl (by kernel_rfl) (fun _ _ _ h => h) (Or.inl ⟨by rfl, ?_⟩) ?_ ?_
      rotate_left
      · intro w'
        go_simp
        with_reducible rfl
      rotate_left
      · simp only [Act.put, List.setIfInBounds_toArray, List.set_cons_zero, List.set_cons_succ, i64_w, i32_w]
        rfl
      refine last_ (i := 10) (N := none) #[true, true, true, true, true, true, true, true, true, true, true] rfl rfl (by kernel_rfl) (by decide) (fun K hK => ?_)
      refine skip_ (w1 := ?_) (by rfl) rfl ?_ ?_
      rotate_left
      · go_simp
        rfl
      refine hK.out _ _ ?_
      clear hK K
      refine done_ (by kernel_rfl) ?_
      clear HU5 HS5 HSd HB4 xf4 xc4
      generalize w4.setCell ⟨pb + 1, 0, none⟩ (Value.slice A4 (plL us (k + 1)).length c4) = w6 at HS4 HU4 ⊢
      have z0 := blk_cell HU4.out 0
      have z2 := blk_cell HU4.out 2
      have p0 := HS4.out.cells 0
      have p1 := HS4.out.cells 1
      have p2 := HS4.out.cells 2
      have p3 := HS4.out.cells 3
      have f0 := blk_frozen HS4.out.p 0
      have f1 := blk_frozen HS4.out.p 1
      have f2 := blk_frozen HS4.out.p 2
      have f3 := blk_frozen HS4.out.p 3
      simp only [List.getElem?_toArray, List.getElem?_cons_zero, List.getElem?_cons_succ] at z0 z2 p0 p1 p2 p3
      have hne : pb ≠ ub := by omega
      have hne2 : ub ≠ pb := by omega
      by_cases hgt : 65535 < uP
      · have hg1 : decide (65535 < uP) = true := by simpa using hgt
        have hn1 : (uP == 10) = false := by simp; omega
        have hfin := Sh.mk (((HS4.out.setp 0 (.int .i64 uE)).setp 1 (.int .i64 (pW + 1))).setp 1 (.int .i64 (pW + 1 + 1)) |>.setp 3 (.int .i64 (pC + 1)))
        go_wp2
        go_roundw
        case rel => exact ⟨k + 1, _, by omega, by go_num, ⟨by rw [HPE.out]; simp only [stepP]; rw [if_pos hgt, if_neg (by omega), if_neg (by omega)]; exact hfin.out⟩⟩
        case measure => simp [intOf]; omega
      · have hg1 : decide (65535 < uP) = false := by simpa using hgt
        by_cases hn : uP = 10
        · have hn1 : (uP == 10) = true := by simpa using hn
          have hfin := Sh.mk (((((HS4.out.setp 0 (.int .i64 uE)).setp 1 (.int .i64 (pW + 1))).setp 3 (.int .i64 (pC + 1))).setp 2 (.int .i64 (pL + 1))).setp 3 (.int .i64 1))
          go_wp2
          go_roundw
          case rel => exact ⟨k + 1, _, by omega, by go_num, ⟨by rw [HPE.out]; simp only [stepP]; rw [if_neg hgt, if_pos hn, if_pos hn]; exact hfin.out⟩⟩
          case measure => simp [intOf]; omega
        · have hn1 : (uP == 10) = false := by simpa using hn
          have hfin := Sh.mk (((HS4.out.setp 0 (.int .i64 uE)).setp 1 (.int .i64 (pW + 1))).setp 3 (.int .i64 (pC + 1)))
          go_wp2
          go_roundw
          case rel => exact ⟨k + 1, _, by omega, by go_num, ⟨by rw [HPE.out]; simp only [stepP]; rw [if_neg hgt, if_neg hn, if_neg hn]; exact hfin.out⟩⟩
          case measure => simp [intOf]; omega
    · obtain rfl : k = us.length := by omega
      obtain ⟨⟨pA, pW, pL, pC⟩, hpe⟩ : ∃ p : Pl, p = plA us us.length := ⟨_, rfl⟩
      obtain ⟨k, hkk⟩ : ∃ k, k = us.length := ⟨_, rfl⟩
      rw [← hpe] at HS
      rw [← hkk] at hpe HS ⊢
      simp only [] at HS
      have HSd := Sh.mk (HS.out.below (below_drew (Below.refl _ _)))
      have hkl : k ≤ s.size := by omega
      have hlt : ¬ (k < k) := by omega
      have HKK := Sh.mk hkk
      clear hkk
      go_wp2
      refine start_ (n := 11) (S := fun w' => w'.cell? ⟨pb + 1, 0, none⟩ = some v1 ∧ w'.cell? ⟨pb, 0, none⟩ = some (.int .i64 pA) ∧ w'.cell? ⟨pb, 1, none⟩ = some (.int .i64 pW) ∧ w'.cell? ⟨pb, 2, none⟩ = some (.int .i64 pL) ∧ w'.cell? ⟨pb, 3, none⟩ = some (.int .i64 pC)) (ds := [7, 10]) #[false, false, false, false, false, false, false, false, false, false, false] (by kernel_rfl) rfl rfl ⟨HSd.out.m.cell, ((HSd.out.cells 0).trans rfl), ((HSd.out.cells 1).trans rfl), ((HSd.out.cells 2).trans rfl), ((HSd.out.cells 3).trans rfl)⟩ (fun hHeld => ?_)
      refine pure_ (i := 0) (N := some 54) (v := ?_) (a' := ?_) #[true, false, false, false, false, false, false, false, false, false, false] rfl rfl (by kernel_rfl) (fun _ _ _ h => h) (Or.inl ⟨by rfl, ?_⟩) ?_ ?_
      rotate_left
      · intro w'
        go_simp
        with_reducible rfl
      rotate_left
      · simp only [Act.put, List.setIfInBounds_toArray, List.set_cons_zero, List.set_cons_succ, i64_w, i32_w]
        rfl
      refine pure_ (i := 1) (N := some 55) (v := ?_) (a' := ?_) #[true, true, false, false, false, false, false, false, false, false, false] rfl rfl (by kernel_rfl) (fun _ _ _ h => h) (Or.inl ⟨by rfl, ?_⟩) ?_ ?_
      rotate_left
      · intro w'
        go_simp
        with_reducible rfl
      rotate_left
      · simp only [Act.put, List.setIfInBounds_toArray, List.set_cons_zero, List.set_cons_succ, i64_w, i32_w]
        rfl
      refine pure_ (i := 2) (N := some 56) (v := ?_) (a' := ?_) #[true, true, true, false, false, false, false, false, false, false, false] rfl rfl (by kernel_rfl) (fun _ _ _ h => h) (Or.inl ⟨by rfl, ?_⟩) ?_ ?_
      rotate_left
      · intro w'
        go_simp
        with_reducible rfl
      rotate_left
      · simp only [Act.put, List.setIfInBounds_toArray, List.set_cons_zero, List.set_cons_succ, i64_w, i32_w]
        rfl
      refine pure_ (i := 3) (N := some 57) (v := ?_) (a' := ?_) #[true, true, true, true, false, false, false, false, false, false, false] rfl rfl (by kernel_rfl) (fun _ _ _ h => h) (Or.inl ⟨by rfl, ?_⟩) ?_ ?_
      rotate_left
      · intro w'
        go_simp
        with_reducible rfl
      rotate_left
      · simp only [Act.put, List.setIfInBounds_toArray, List.set_cons_zero, List.set_cons_succ, i64_w, i32_w]
        rfl
      refine take_ (i := 4) (N := some 58) (v := ?_) (a' := ?_) #[true, true, true, true, true, false, false, false, false, false, false] rfl rfl (by kernel_rfl) (fun _ _ _ h => h) (Or.inl ⟨by rfl, ?_⟩) hHeld ?_ ?_
      rotate_left
      · rintro w' ⟨s0, s1, s2, s3, s4⟩
        go_simp
        with_reducible rfl
      rotate_left
      · simp only [Act.put, List.setIfInBounds_toArray, List.set_cons_zero, List.set_cons_succ, i64_w, i32_w]
        rfl
      refine take_ (i := 5) (N := some 59) (v := ?_) (a' := ?_) #[true, true, true, true, true, true, false, false, false, false, false] rfl rfl (by kernel_rfl) (fun _ _ _ h => h) (Or.inl ⟨by rfl, ?_⟩) hHeld ?_ ?_
      rotate_left
      · rintro w' ⟨s0, s1, s2, s3, s4⟩
        go_simp
        with_reducible rfl
      rotate_left
      · simp only [Act.put, List.setIfInBounds_toArray, List.set_cons_zero, List.set_cons_succ, i64_w, i32_w]
        rfl
      refine one_ (i := 6) (N := some 60) #[true, true, true, true, true, true, true, false, false, false, false] rfl rfl (by kernel_rfl) (by decide) (fun K hK => ?_)
      refine value_ (w1 := ?_) (v := ?_) (by rfl) rfl ?_ ?_
      rotate_left 2
      · go_simp
        constructor
        · rfl
        · rfl
      refine hK.out _ _ ⟨(HSd.out.m.below (below_alloc (Below.refl _ _) _)).cell, (((HSd.out.below (below_alloc (Below.refl _ _) _)).cells 0).trans rfl), (((HSd.out.below (below_alloc (Below.refl _ _) _)).cells 1).trans rfl), (((HSd.out.below (below_alloc (Below.refl _ _) _)).cells 2).trans rfl), (((HSd.out.below (below_alloc (Below.refl _ _) _)).cells 3).trans rfl)⟩ (fun hHeld => ?_)
      clear hK K
      refine norm_ (a' := ?_) ?_ ?_
      rotate_left
      · show Act.put _ (some 60) _ = _
        simp only [Act.put, List.setIfInBounds_toArray, List.set_cons_zero, List.set_cons_succ, i64_w, i32_w]
        rfl
      refine last_ (i := 7) (N := some 61) #[true, true, true, true, true, true, true, true, false, false, false] rfl rfl (by kernel_rfl) (by decide) (fun K hK => ?_)
      refine Kd.R_append_step plK (w0 := wr.drew) z (by rfl) (.tmp 58) (.tmp 60) 58 PlT (.agg #[.int .i64 0, .int .i64 0, .int .i64 0, .int .i64 0]) 32 rfl Tryd.underlying58 info_pl rfl (by decide) (by decide) _ (plL us k) (pA, pW, pL, pC) [.int .i64 pA, .int .i64 pW, .int .i64 pL, .int .i64 pC] (fun _ => True) (fun _ => False) rfl rfl (pl_M _ _ _ (pA, pW, pL, pC)) (fun _ hk => hk.elim) (fun _ _ => trivial) HSd.out.m.row (Below.refl _ _) HSd.out.hzW (by rw [plL_len]; omega) ?_
      intro v4 w4 hr4 _ hg4 hat4
      rw [hpe, ← plL_succ] at hr4
      obtain ⟨A4, c4, rfl, hc4, _⟩ := Kd.R_reads hr4
      have HS4 := Sh.mk (HSd.out.app hg4 hr4)
      have HB4 := Sh.mk ((hg4.block (pb + 1) HSd.out.m.lt (fun e => HSd.out.m.ne e.symm)).trans HSd.out.m.blk)
      have xf4 := blk_frozen HB4.out 0
      have xc4 : w4.cell? ⟨pb + 1, 0, none⟩ = some v1 := (blk_cell HB4.out 0).trans rfl
      clear hr4 hg4 hat4
      refine hK.out _ _ ?_
      clear hK K
      refine norm_ (a' := ?_) ?_ ?_
      rotate_left
      · show Act.put _ (some 61) _ = _
        simp only [Act.put, List.setIfInBounds_toArray, List.set_cons_zero, List.set_cons_succ, i64_w, i32_w]
        rfl
      refine pure_ (i := 8) (N := some 62) (v := ?_) (a' := ?_) #[true, true, true, true, true, true, true, true, true, false, false] rfl rfl (by kernel_rfl) (fun _ _ _ h => h) (Or.inl ⟨by rfl, ?_⟩) ?_ ?_
      rotate_left
      · intro w'
        go_simp
        with_reducible rfl
      rotate_left
      · simp only [Act.put, List.setIfInBounds_toArray, List.set_cons_zero, List.set_cons_succ, i64_w, i32_w]
        rfl
      refine pure_ (i := 9) (N := some 63) (v := ?_) (a' := ?_) #[true, true, true, true, true, true, true, true, true, true, false] rfl rfl (by kernel_rfl) (fun _ _ _ h => h) (Or.inl ⟨by rfl, ?_⟩) ?_ ?_
      rotate_left
      · intro w'
        go_simp
        with_reducible rfl
      rotate_left
      · simp only [Act.put, List.setIfInBounds_toArray, List.set_cons_zero, List.set_cons_succ, i64_w, i32_w]
        rfl
      refine last_ (i := 10) (N := none) #[true, true, true, true, true, true, true, true, true, true, true] rfl rfl (by kernel_rfl) (by decide) (fun K hK => ?_)
      refine skip_ (w1 := ?_) (by rfl) rfl ?_ ?_
      rotate_left
      · go_simp
        rfl
      refine hK.out _ _ ?_
      clear hK K
      refine done_ (by kernel_rfl) ?_
      go_wp2
      go_ret
      have hkk2 := HKK.out
      subst hkk2
      exact ⟨pb + 1, _, rfl, by have := HW.out; omega, ⟨HS4.out.m.blk, Kd.R_lower HS4.out.m.row (show w.heap.size ≤ z by have := HW.out; have := HS4.out.hz; omega)⟩, HS4.out.bel⟩
end Go.Proofs.YtbpadakcjnkjeaaDoor
/- cmp.Compare, the keys of a place, sort.Search over a closure that lays blocks alone. Conditions: each contract's own. -/
namespace Go.Proofs.YtbpadakcjnkjeaaDoor
open Go Go.RowKit Go.Proofs.YtbpadakcjnkjeaaDoorW.PrintWords Go.Proofs.YtbpadakcjnkjeaaDoorW.PrintLast Go.Proofs.YtbpadakcjnkjeaaDoorW.PrintMore
set_option maxRecDepth 100000
set_option linter.unusedSimpArgs false
def cmpI (a b : Int) : Int := if a < b then -1 else if b < a then 1 else 0
theorem cmpI_ge (a b : Int) : decide (0 ≤ cmpI a b) = decide (b ≤ a) := by
  unfold cmpI
  by_cases h1 : a < b
  · rw [if_pos h1]; simp; omega
  · rw [if_neg h1]
    by_cases h2 : b < a
    · rw [if_pos h2]; simp; omega
    · rw [if_neg h2]; simp; omega
theorem cmpI_eq (a b : Int) : (cmpI a b == 0) = (a == b) := by
  unfold cmpI
  by_cases h1 : a < b
  · rw [if_pos h1]; have : (a == b) = false := by simp; omega
    rw [this]; decide
  · rw [if_neg h1]
    by_cases h2 : b < a
    · rw [if_pos h2]; have : (a == b) = false := by simp; omega
      rw [this]; decide
    · rw [if_neg h2]; have : (a == b) = true := by simp; omega
      rw [this]; decide
set_option maxRecDepth 100000 in
theorem isNaN_any (a : Int) (w : World) : Calls Tryd.prog 50 #[.int .i64 a] w fun e w' => e = .returned (.bool false) ∧ w = w' := by
  have h : (a != a) = false := by simp
  go_enter Tryd.func50, Tryd.ntmps50
  go_wp2
  go_ret
  exact ⟨rfl, rfl⟩
set_option maxRecDepth 100000 in
theorem cmp_any (a b : Int) (w : World) : Calls Tryd.prog 37 #[.int .i64 a, .int .i64 b] w fun e w' => e = .returned (.int .i64 (cmpI a b)) ∧ w = w' := by
  go_enter Tryd.func37, Tryd.ntmps37
  go_wp2_with fail
  refine (isNaN_any a w).mono ?_
  rintro e w1 ⟨rfl, rfl⟩
  go_wp2_with fail
  refine (isNaN_any b w).mono ?_
  rintro e w1 ⟨rfl, rfl⟩
  by_cases h1 : a < b
  · have h1b : decide (a < b) = true := by simpa using h1
    have HV := Sh.mk (show cmpI a b = -1 by rw [cmpI, if_pos h1])
    go_wp2
    go_ret
    exact ⟨by rw [HV.out]; rfl, rfl⟩
  · have h1b : decide (a < b) = false := by simpa using h1
    by_cases h2 : b < a
    · have h2b : decide (b < a) = true := by simpa using h2
      have HV := Sh.mk (show cmpI a b = 1 by rw [cmpI, if_neg h1, if_pos h2])
      go_wp2
      go_ret
      exact ⟨by rw [HV.out]; rfl, rfl⟩
    · have h2b : decide (b < a) = false := by simpa using h2
      have HV := Sh.mk (show cmpI a b = 0 by rw [cmpI, if_neg h1, if_neg h2])
      go_wp2
      go_ret
      exact ⟨by rw [HV.out]; rfl, rfl⟩
abbrev plV (p : Pl) : Value := .agg #[.int .i64 p.1, .int .i64 p.2.1, .int .i64 p.2.2.1, .int .i64 p.2.2.2]
set_option maxRecDepth 100000 in
theorem kbytes_any (p : Pl) (w : World) : Calls Tryd.prog 42 #[plV p] w fun e w' => e = .returned (.int .i64 p.1) ∧ Below w.heap.size w w' := by
  go_enter Tryd.func42, Tryd.ntmps42
  go_wp2
  go_ret
  exact ⟨rfl, below_alloc (Below.refl _ _) _⟩
set_option maxRecDepth 100000 in
theorem kwidth_any (p : Pl) (w : World) : Calls Tryd.prog 36 #[plV p] w fun e w' => e = .returned (.int .i64 p.2.1) ∧ Below w.heap.size w w' := by
  go_enter Tryd.func36, Tryd.ntmps36
  go_wp2
  go_ret
  exact ⟨rfl, below_alloc (Below.refl _ _) _⟩
set_option maxHeartbeats 4000000 in
set_option maxRecDepth 100000 in
theorem search1_any (cb : Array Value) (n : Nat) (p : Nat → Bool) (w : World) (hn : n < 4611686018427387904)
    (hf : ∀ (W : World) (i : Nat), Below w.heap.size w W → i < n → Calls Tryd.prog 49 (#[.int .i64 i] ++ cb) W fun e w' => e = .returned (.bool (p i)) ∧ Below W.heap.size W w')
    (hmono : ∀ a b, a ≤ b → b < n → p a = true → p b = true) :
    Calls Tryd.prog 48 #[.int .i64 n, .func (.func 49) #[] cb] w fun e w' => (∃ c : Nat, e = .returned (.int .i64 c) ∧ c ≤ n ∧ (∀ t, t < c → p t = false) ∧ (∀ t, c ≤ t → t < n → p t = true)) ∧ Below w.heap.size w w' := by
  have HF := Sh.mk hf
  have HM := Sh.mk hmono
  clear hf hmono
  go_enter Tryd.func48, Tryd.ntmps48
  go_wp2
  go_loopw [5, 6, 7] (fun s5 s6 _ wr => ∃ (lo hi : Nat), s5 = .int .i64 lo ∧ s6 = .int .i64 hi ∧ lo ≤ hi ∧ hi ≤ n ∧ Sh ((∀ t, t < lo → p t = false) ∧ (∀ t, hi ≤ t → t < n → p t = true)) ∧ Sh (Below w.heap.size w wr)) (fun s5 s6 _ _ => (intOf s6).toNat - (intOf s5).toNat)
  case atStart => exact ⟨0, n, rfl, rfl, Nat.zero_le _, Nat.le_refl _, ⟨fun t ht => absurd ht (Nat.not_lt_zero _), fun t h1 h2 => by omega⟩, ⟨Below.refl _ _⟩⟩
  case round =>
    obtain ⟨lo, hi, rfl, rfl, hlh, hin, HI, HB⟩ := hrel
    by_cases hlt : lo < hi
    · obtain ⟨m, hm⟩ : ∃ m, m = (lo + hi) / 2 := ⟨_, rfl⟩
      have HCc := Sh.mk (HF.out wr m HB.out (by omega))
      have hmlo : lo ≤ m := by omega
      have hmhi : m < hi := by omega
      have hmi : ((lo : Int) + (hi : Int)) / 2 = (m : Int) := by omega
      cases hp : p m with
      | false =>
        rw [hp] at HCc
        have HP := Sh.mk hp
        clear hp hm
        go_wp2_with fail
        refine HCc.out.mono ?_
        rintro e w1 ⟨rfl, hb⟩
        have HB1 := Sh.mk (below_of HB.out hb)
        clear hb HCc HB
        go_wp2
        go_roundw
        case rel => exact ⟨m + 1, hi, by go_num, rfl, by omega, hin, ⟨fun t ht => (by
            cases h : p t with
            | false => rfl
            | true => have := HM.out t m (by omega) (by omega) h; rw [HP.out] at this; cases this), HI.out.2⟩, HB1⟩
        case measure => simp [intOf]; omega
      | true =>
        rw [hp] at HCc
        have HP := Sh.mk hp
        clear hp hm
        go_wp2_with fail
        refine HCc.out.mono ?_
        rintro e w1 ⟨rfl, hb⟩
        have HB1 := Sh.mk (below_of HB.out hb)
        clear hb HCc HB
        go_wp2
        go_roundw
        case rel => exact ⟨lo, m, rfl, rfl, hmlo, by omega, ⟨HI.out.1, fun t ht htn => HM.out m t ht htn HP.out⟩, HB1⟩
        case measure => simp [intOf]; omega
    · obtain rfl : hi = lo := by omega
      go_wp2
      go_ret
      exact ⟨⟨hi, rfl, hin, HI.out⟩, HB.out⟩
set_option maxHeartbeats 4000000 in
set_option maxRecDepth 100000 in
theorem search2_any (cb : Array Value) (n : Nat) (p : Nat → Bool) (w : World) (hn : n < 4611686018427387904)
    (hf : ∀ (W : World) (i : Nat), Below w.heap.size w W → i < n → Calls Tryd.prog 51 (#[.int .i64 i] ++ cb) W fun e w' => e = .returned (.bool (p i)) ∧ Below W.heap.size W w')
    (hmono : ∀ a b, a ≤ b → b < n → p a = true → p b = true) :
    Calls Tryd.prog 48 #[.int .i64 n, .func (.func 51) #[] cb] w fun e w' => (∃ c : Nat, e = .returned (.int .i64 c) ∧ c ≤ n ∧ (∀ t, t < c → p t = false) ∧ (∀ t, c ≤ t → t < n → p t = true)) ∧ Below w.heap.size w w' := by
  have HF := Sh.mk hf
  have HM := Sh.mk hmono
  clear hf hmono
  go_enter Tryd.func48, Tryd.ntmps48
  go_wp2
  go_loopw [5, 6, 7] (fun s5 s6 _ wr => ∃ (lo hi : Nat), s5 = .int .i64 lo ∧ s6 = .int .i64 hi ∧ lo ≤ hi ∧ hi ≤ n ∧ Sh ((∀ t, t < lo → p t = false) ∧ (∀ t, hi ≤ t → t < n → p t = true)) ∧ Sh (Below w.heap.size w wr)) (fun s5 s6 _ _ => (intOf s6).toNat - (intOf s5).toNat)
  case atStart => exact ⟨0, n, rfl, rfl, Nat.zero_le _, Nat.le_refl _, ⟨fun t ht => absurd ht (Nat.not_lt_zero _), fun t h1 h2 => by omega⟩, ⟨Below.refl _ _⟩⟩
  case round =>
    obtain ⟨lo, hi, rfl, rfl, hlh, hin, HI, HB⟩ := hrel
    by_cases hlt : lo < hi
    · obtain ⟨m, hm⟩ : ∃ m, m = (lo + hi) / 2 := ⟨_, rfl⟩
      have HCc := Sh.mk (HF.out wr m HB.out (by omega))
      have hmlo : lo ≤ m := by omega
      have hmhi : m < hi := by omega
      have hmi : ((lo : Int) + (hi : Int)) / 2 = (m : Int) := by omega
      cases hp : p m with
      | false =>
        rw [hp] at HCc
        have HP := Sh.mk hp
        clear hp hm
        go_wp2_with fail
        refine HCc.out.mono ?_
        rintro e w1 ⟨rfl, hb⟩
        have HB1 := Sh.mk (below_of HB.out hb)
        clear hb HCc HB
        go_wp2
        go_roundw
        case rel => exact ⟨m + 1, hi, by go_num, rfl, by omega, hin, ⟨fun t ht => (by
            cases h : p t with
            | false => rfl
            | true => have := HM.out t m (by omega) (by omega) h; rw [HP.out] at this; cases this), HI.out.2⟩, HB1⟩
        case measure => simp [intOf]; omega
      | true =>
        rw [hp] at HCc
        have HP := Sh.mk hp
        clear hp hm
        go_wp2_with fail
        refine HCc.out.mono ?_
        rintro e w1 ⟨rfl, hb⟩
        have HB1 := Sh.mk (below_of HB.out hb)
        clear hb HCc HB
        go_wp2
        go_roundw
        case rel => exact ⟨lo, m, rfl, rfl, hmlo, by omega, ⟨HI.out.1, fun t ht htn => HM.out m t ht htn HP.out⟩, HB1⟩
        case measure => simp [intOf]; omega
    · obtain rfl : hi = lo := by omega
      go_wp2
      go_ret
      exact ⟨⟨hi, rfl, hin, HI.out⟩, HB.out⟩
end Go.Proofs.YtbpadakcjnkjeaaDoor
