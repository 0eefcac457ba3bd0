/-
A range over a function whose iterator keeps state in cells of its own: the law for a body that always goes on. Conditions: the wide fence; each named below.
-/
import Derived.RangeFuncNested
import Derived.RangeFuncBound
import Derived.RangeFuncCalls
import Derived.RangeFuncLeaves
import Derived.RangeFuncBox
import Derived.Shelf.Abstract
import Derived.Shelf.RegionOpen
import Derived.WalkKit
import Derived.OwnWalkIn
import Derived.TacticsInMore
import Derived.LoopNIn
import Derived.LoopIn
namespace Go.Proofs.YtbpadakcjnkjeaaDoor
open Go Go.RowKit
set_option maxRecDepth 100000
section
variable {n : Nat} {P : Program}
/-- What of a loop's book-keeping lies as it lay. -/
def KeepsBook (B : Nat) (A C : World) : Prop := A.heap.size ≤ C.heap.size ∧ ∀ (k : Nat) (o : Obj), B ≤ k → A.heap[k]? = some o → o.isCells = false → C.heap[k]? = some o
/-- All cells lie as they lay. -/
def KeepsCells (A C : World) : Prop := ∀ (k : Nat) (o : Obj), A.heap[k]? = some o → o.isCells = true → C.heap[k]? = some o
/-- All cells lie as they lay, but for box X and for the row that it held. -/
def KeepsBut (X : Nat) (A C : World) : Prop := ∀ (k : Nat) (o : Obj), A.heap[k]? = some o → o.isCells = true → k ≠ X → (∀ v, A.cell? ⟨X, 0, none⟩ = some v → v.ownBlock ≠ some k) → C.heap[k]? = some o
/-- The row in box X lies at or beyond B. -/
def OwnAt (B X : Nat) (A : World) : Prop := ∀ v k, A.cell? ⟨X, 0, none⟩ = some v → v.ownBlock = some k → B ≤ k ∧ k < A.heap.size
theorem putObj_cells {A : World} {l : Nat} {o : Obj} (o' : Obj) (hl : A.heap[l]? = some o) (ho : o.isCells = false) : KeepsCells A (A.putObj l o') := by
  intro k q hk hq
  have hne : k ≠ l := by
    rintro rfl
    rw [hl] at hk
    cases hk
    rw [ho] at hq
    cases hq
  rw [World.putObj_heap_other hne]
  exact hk
theorem cells_cell {A C : World} {X : Nat} {o : Obj} (hX : A.heap[X]? = some o) (ho : o.isCells = true) (h : KeepsCells A C) : C.cell? ⟨X, 0, none⟩ = A.cell? ⟨X, 0, none⟩ :=
  World.cell?_of_block ((h X o hX ho).trans hX.symm)
/-- The iterator's contract: it hands over all of xs, for whatever J its own moves Mv leave alone. -/
def GivesAll {α : Type} (n : Nat) (P : Program) (gf : Nat) (lb : Array Value) (encs : α → Array Value) (Mv : World → World → Prop) (X : Nat) (xs : List α) (w : World) : Prop :=
  ∀ (l : Nat) (J : List α → World → Prop) (W : World), Below w.heap.size w W → (∀ s A C, J s A → Mv A C → J s C) →
    (∀ pre x rest A, xs = pre ++ x :: rest → J pre A → YieldAt Fence.wide (n - 1) P l (encs x) A fun e C => e = .returned (.bool true) ∧ J (pre ++ [x]) C ∧ KeepsBut X A C) →
    (∀ pre A, J pre A → OwnAt w.heap.size X A) →
    J [] W → CallsIn Fence.wide n P gf (#[.func (.yield l) #[] #[]] ++ lb) W fun e C => (∃ v, e = .returned v) ∧ J xs C
theorem wpIn_rangeFunc_all {α : Type} {g : Operand} {ps : Array Tmp} {assign body : Code} {Q : Exit → Act → World → Prop} {a : Act} {w w0 : World}
    (h1 : 1 ≤ n) {gf : Nat} {lb : Array Value} (hg : a.eval g = .func (.func gf) #[] lb) (eg : ∀ args w, (callFunc gf args).run P w = .ok (.enter gf args) w)
    {encs : α → Array Value} {Mv : World → World → Prop} {X : Nat} {xs : List α} (hseq : GivesAll (n - 1) P gf lb encs Mv X xs w0) (hb0 : Below w0.heap.size w0 w)
    (hMv : ∀ A C, Mv A C → KeepsBook w.heap.size A C) (hps : ∀ x, (encs x).size = ps.size)
    (I : List α → World → Prop) (hI1 : ∀ s A C, I s A → Mv A C → I s C) (hI2 : ∀ s A o, I s A → w.heap.size ≤ A.heap.size → I s (A.alloc o))
    (hI3 : ∀ s A l o o', I s A → w.heap.size ≤ l → A.heap[l]? = some o → o.isCells = false → I s (A.putObj l o')) (h0 : I [] w) (hIX : ∀ s A, I s A → ∃ o, A.heap[X]? = some o ∧ o.isCells = true) (hIO : ∀ s A, I s A → OwnAt w0.heap.size X A)
    (Ax : List α → α → Act → World → Prop) (hAx : ∀ s x a' A l o o', Ax s x a' A → w.heap.size ≤ l → A.heap[l]? = some o → o.isCells = false → Ax s x a' (A.putObj l o'))
    (hassign : ∀ (l : Nat) (pre : List α) (x : α) (W : World) (K : Act → World → Prop), I pre W → w.heap.size ≤ W.heap.size → (∀ a' W', KeepsBook w.heap.size W W' → KeepsCells W W' → Ax pre x a' W' → K a' W') →
      assign.wpIn (Fence.wide.inRound l) (n - 1 - 1) P (Exit.then K (fun _ _ _ => False)) { tmps := (ps.zip (encs x)).foldl (fun t (p, v) => t.setIfInBounds p v) a.tmps, defers := [] } W)
    (hbody : ∀ (l : Nat) (pre : List α) (x : α) (rest : List α) (a' : Act) (W : World), xs = pre ++ x :: rest → Ax pre x a' W → body.wpIn (Fence.wide.inRound l) (n - 1 - 1) P (fun e _ W' => e = .normal ∧ KeepsBook w.heap.size W W' ∧ KeepsBut X W W' ∧ I (pre ++ [x]) W') a' W)
    (hdone : ∀ (D : Nat) (W : World), w.heap.size ≤ D → I xs W → W.heap[D]? = some (.deferred (some [])) → Q .normal { a with defers := { target := .collected D, args := #[] } :: a.defers } W) :
    (Code.rangeFunc g ps assign body).wpIn Fence.wide n P Q a w := by
  refine wpIn_rangeFunc ?_
  intro fn hfn
  obtain ⟨rec, hrec⟩ : ∃ rec : LoopState → Option Code → Loop, rec = fun st pe => { state := st, pending := pe, fn, tmps := a.tmps, params := ps, assign, body, defers := w.heap.size } := ⟨_, rfl⟩
  obtain ⟨W1, hW1⟩ : ∃ W1, (w.alloc (.deferred (some []))).alloc (.loop (rec .ready none)) = W1 := ⟨_, rfl⟩
  have hL1 : W1.heap[w.heap.size + 1]? = some (.loop (rec .ready none)) := by
    rw [← hW1]; have := World.alloc_heap_new (w.alloc (.deferred (some []))) (.loop (rec .ready none)); rwa [World.size_alloc] at this
  have hK1 : W1.heap[w.heap.size]? = some (.deferred (some [])) := by
    rw [← hW1]; exact (Below.heap_alloc _ _ _ (by simp)).trans (World.alloc_heap_new w _)
  have hI1' : I [] W1 := by rw [← hW1]; exact hI2 _ _ _ (hI2 _ _ _ h0 (Nat.le_refl _)) (by simp)
  have hb1 : Below w0.heap.size w0 W1 := by
    rw [← hW1]; exact hb0.trans ((((Below.refl _ w).alloc (Nat.le_refl _) _).alloc (by simp) _).mono hb0.size)
  refine ⟨w.heap.size + 1, [{ target := .collected w.heap.size, args := #[] }], W1, { target := .fn (.func gf) lb, args := #[.func (.yield (w.heap.size + 1)) #[] #[]] }, W1, gf,
    #[.func (.yield (w.heap.size + 1)) #[] #[]] ++ lb, W1, ?_, ?_, ?_, ?_, fun _ => h1, ?_⟩
  · rw [← hW1, hrec]; exact run_enterLoop_outer _ _ _ _ _
  · simp only [resolve, hg]
    simp [go_sem]
  · intro f' _; trivial
  · simp [invoke, go_sem, eg]
  · refine (hseq (w.heap.size + 1)
      (fun pre W => I pre W ∧ W.heap[w.heap.size + 1]? = some (.loop (rec .ready none)) ∧ W.heap[w.heap.size]? = some (.deferred (some [])))
      W1 hb1
      (fun s A C hs hm => ⟨hI1 s A C hs.1 hm, (hMv A C hm).2 _ _ (by omega) hs.2.1 rfl, (hMv A C hm).2 _ _ (Nat.le_refl _) hs.2.2 rfl⟩)
      ?_ (fun pre A hs => hIO pre A hs.1) ⟨hI1', hL1, hK1⟩).mono ?_
    · rintro pre x rest A hx ⟨hi, hl, hk⟩
      have hlt : w.heap.size + 1 < A.heap.size := (Array.getElem?_eq_some_iff.1 hl).1
      have hy := run_yield (P := P) (args := encs x) hl (by rw [hrec]; exact hps x)
      rw [hrec] at hy
      refine ⟨fn, _, assign, body, hy, roundIn_of_wpIn hfn (hassign _ pre x A _ hi (by omega) ?_)⟩
      intro a' Wa hka hlow hax
      have hla := hka.2 _ _ (by omega) hl rfl
      have hlta : w.heap.size + 1 < Wa.heap.size := (Array.getElem?_eq_some_iff.1 hla).1
      refine ⟨_, run_beginRound hla (by rw [hrec]), ?_⟩
      have hl2 : (Wa.putObj (w.heap.size + 1) (.loop { rec .ready none with state := .busy })).heap[w.heap.size + 1]? = some (.loop { rec .ready none with state := .busy }) := World.putObj_heap_same hlta
      have hk2 : (Wa.putObj (w.heap.size + 1) (.loop { rec .ready none with state := .busy })).heap[w.heap.size]? = some (.deferred (some [])) := (World.putObj_heap_other (by omega)).trans (hka.2 _ _ (Nat.le_refl _) hk rfl)
      refine wpIn_mono (hbody _ pre x rest a' _ hx (hAx _ _ _ _ _ _ _ hax (by omega) hla rfl)) ?_
      rintro e a3 W3 ⟨rfl, hk3, hlow3, hi3⟩
      have hl3 := hk3.2 _ _ (by omega) hl2 rfl
      have hr := run_endRound (P := P) none hl3
      rw [hrec] at hr hl3 ⊢
      refine ⟨_, _, hr, rfl, ⟨hI3 _ _ _ _ _ hi3 (by omega) hl3 rfl, ?_, ?_⟩, fun k o hk1 hk2 hk3' hk4 => ?_⟩
      · exact World.putObj_heap_same (Array.getElem?_eq_some_iff.1 hl3).1
      · exact (World.putObj_heap_other (by omega)).trans (hk3.2 _ _ (Nat.le_refl _) hk2 rfl)
      · obtain ⟨oX, hX1, hX2⟩ := hIX _ _ hi
        have k1 : KeepsCells Wa (Wa.putObj (w.heap.size + 1) (.loop { rec .ready none with state := .busy })) := putObj_cells _ hla rfl
        have k2 : KeepsCells A (Wa.putObj (w.heap.size + 1) (.loop { rec .ready none with state := .busy })) := fun j q hj hq => k1 j q (hlow j q hj hq) hq
        have h3 := hlow3 k o (k2 k o hk1 hk2) hk2 hk3' (fun v hv => hk4 v (by rw [← cells_cell hX1 hX2 k2]; exact hv))
        exact putObj_cells _ hl3 rfl k o h3 hk2
    · rintro e W2 ⟨⟨v, rfl⟩, hi, hl, hk⟩
      exact ⟨none, _, by have := run_endLoop (P := P) hl (by rw [hrec]; simp); rw [hrec] at this; exact this, hdone _ _ (Nat.le_refl _) (hI3 _ _ _ _ _ hi (by omega) hl rfl) ((World.putObj_heap_other (by omega)).trans hk)⟩
end
end Go.Proofs.YtbpadakcjnkjeaaDoor
