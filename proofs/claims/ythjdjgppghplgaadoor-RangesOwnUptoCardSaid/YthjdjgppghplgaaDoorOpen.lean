/-
Readings opened: from what a place reads as to the model's own kinds, with the sizes that the weights or the bulk give.
-/
import Derived.Test.YthjdjgppghplgaaDoorRows
import Derived.Test.YthjdjgppghplgaaDoorWWords
import Derived.Deep.Slices
import Derived.Lib.SmallJoins
import Derived.WideShapes
namespace Go.Proofs.YthjdjgppghplgaaDoor
open Go Go.RowKit Go.Deep Go.ChangeShapes Go.WideShapes Go.Proofs.YthjdjgppghplgaaDoorW.PrintWords
/-- What reads as type t is a value of kind d; S: what the weights give; B: what the bulk bounds. -/
structure Opens (P : Program) (t : TypeId) {α : Type} (d : Kd α) (S : α → Prop) (B : α → Nat) : Prop where
  op : ∀ {H : Type} {enc : TypeId × Value → H} {w : World} {base : Nat} {spare : Nat → Bool} {held : Bool} {fuel : Nat} {cs : List Value} {x : DataW H × List MemPlace},
    DataW.trod enc P w base spare held fuel t cs = some x → ∃ a : α, d.K w a cs ∧ ((∀ n ∈ DataW.weights P t x.1, n ≤ reachBytes) → S a) ∧ B a ≤ Rows.uptoBulk x.1
theorem uptoAll_mem {H : Type} : ∀ {ds : List (DataW H)} {d : DataW H}, d ∈ ds → Rows.uptoBulk d ≤ Rows.uptoBulkAll ds
  | _ :: _, _, h => by
    rcases List.mem_cons.1 h with rfl | h
    · simp [Rows.uptoBulkAll]
    · have := uptoAll_mem h; simp [Rows.uptoBulkAll]; omega
theorem weightsAll_mem {H : Type} {P : Program} {e : TypeId} {n : Nat} : ∀ {ds : List (DataW H)} {d : DataW H}, d ∈ ds → n ∈ DataW.weights P e d → n ∈ DataW.weightsAll P e ds
  | _ :: _, _, h, hn => by
    rcases List.mem_cons.1 h with rfl | h
    · simp [DataW.weightsAll, hn]
    · simp [DataW.weightsAll, weightsAll_mem h hn]
theorem Opens.int {P : Program} {t : TypeId} {k : IntKind} (ht : P.underlying t = some (.int k)) : Opens P t (Kd.int k) (fun a => (Lit.int k a).wf = true) (fun _ => 1) where
  op := fun h => by
    obtain ⟨n, rfl, rfl, hw⟩ := DataW.trod_int ht h
    exact ⟨n, rfl, fun _ => hw, by simp [Rows.uptoBulk]⟩
theorem Opens.bool {P : Program} {t : TypeId} (ht : P.underlying t = some .bool) : Opens P t Kd.bool (fun _ => True) (fun _ => 1) where
  op := fun h => by
    obtain ⟨n, rfl, rfl⟩ := DataW.trod_bool ht h
    exact ⟨n, rfl, fun _ => trivial, by simp [Rows.uptoBulk]⟩
theorem Opens.string {P : Program} {t : TypeId} (ht : P.underlying t = some .string) : Opens P t Kd.string (fun a => a.size ≤ reachBytes) (fun a => a.size + 1) where
  op := fun h => by
    obtain ⟨s, rfl, rfl, hw⟩ := DataW.trod_string ht h
    exact ⟨s, rfl, fun h => h s.data.toList.length (List.mem_singleton.2 rfl), Nat.le_refl _⟩
theorem sum_le_bulk {H : Type} {α : Type} (B : α → Nat) : ∀ (ds : List (DataW H)) (xs : List α), ds.length = xs.length → (∀ (i : Nat) (a : α) (d : DataW H), xs[i]? = some a → ds[i]? = some d → B a ≤ Rows.uptoBulk d) → (xs.map B).sum ≤ Rows.uptoBulkAll ds
  | [], [], _, _ => by simp [Rows.uptoBulkAll]
  | d :: ds, a :: xs, hl, h => by
    have h0 := h 0 a d rfl rfl
    have h1 := sum_le_bulk B ds xs (by simpa using hl) (fun i a d ha hd => h (i + 1) a d (by simpa using ha) (by simpa using hd))
    simp [Rows.uptoBulkAll]
    omega
  | [], _ :: _, hl, _ => by simp at hl
  | _ :: _, [], hl, _ => by simp at hl
theorem choose_list {β : Type} {p : Nat → β → Prop} : ∀ (n : Nat), (∀ i, i < n → ∃ v, p i v) → ∃ xs : List β, xs.length = n ∧ ∀ (i : Nat) (v : β), xs[i]? = some v → p i v
  | 0, _ => ⟨[], rfl, fun i v h => by simp at h⟩
  | n + 1, h => by
    obtain ⟨xs, hl, hx⟩ := choose_list n (fun i hi => h i (by omega))
    obtain ⟨v, hv⟩ := h n (by omega)
    refine ⟨xs ++ [v], by simp [hl], fun i u hu => ?_⟩
    by_cases hi : i < n
    · rw [List.getElem?_append_left (by omega)] at hu
      exact hx i u hu
    · have hlt := (List.getElem?_eq_some_iff.1 hu).1
      simp only [List.length_append, List.length_singleton] at hlt
      obtain rfl : i = n := by omega
      rw [List.getElem?_append_right (by omega), hl, Nat.sub_self] at hu
      simp only [List.getElem?_cons_zero, Option.some.injEq] at hu
      exact hu ▸ hv
theorem Opens.slice {P : Program} {t e : TypeId} {α : Type} {d : Kd α} {S : α → Prop} {B : α → Nat} (ht : P.underlying t = some (.slice e)) (hc : P.cellsOf e = d.sz) (he : Opens P e d S B) :
    Opens P t (Kd.slice e d) (fun xs => xs.length * P.bytesOf e ≤ reachBytes ∧ ∀ a ∈ xs, S a) (fun xs => (xs.map B).sum + 1) where
  op := fun {H enc w base spare held fuel cs x} h => by
    rcases open_slice ht h with ⟨rfl, rfl⟩ | ⟨a, len, cap, m, n, D, Pl, rfl, hb, hl, hm, hmm, rfl, hx⟩
    · exact ⟨[], ⟨none, 0, rfl, Nat.le_refl _, rfl, by simp, fun h => absurd h (by simp)⟩, fun _ => ⟨by simp, by simp⟩, by simp [Rows.uptoBulk]⟩
    have hlm : len ≤ m := by rw [hmm]; split <;> omega
    have hml : len ≤ 9223372036854775807 := by unfold maxLen at hm; omega
    obtain ⟨V, hVl, hV⟩ := choose_list (β := α × List Value) (p := fun i v => w.cells? base (a.add (i * P.cellsOf e)) (P.cellsOf e) = some v.2 ∧ d.K w v.1 v.2 ∧ ((∀ n ∈ DataW.weights P e (D i), n ≤ reachBytes) → S v.1) ∧ B v.1 ≤ Rows.uptoBulk (D i)) len (fun i hi => by
      obtain ⟨cs', h1, h2⟩ := hx i (by omega)
      obtain ⟨y, hy⟩ := he.op h2
      exact ⟨(y, cs'), h1, hy⟩)
    have hlen : (V.map (·.1)).length = len := by rw [List.length_map, hVl]
    refine ⟨V.map (·.1), ⟨some a, cap, by rw [hlen], by rw [hlen]; exact hl, rfl, by rw [hlen]; exact hml, fun _ => ⟨a, rfl, fun j p hj => ?_⟩⟩, fun hW => ⟨?_, ?_⟩, ?_⟩
    · rw [List.getElem?_map] at hj
      obtain ⟨v, hv, rfl⟩ := Option.map_eq_some_iff.1 hj
      obtain ⟨h1, h2, _, _⟩ := hV j v hv
      obtain ⟨_, h4, h5⟩ := World.cells?_some h1
      refine ⟨v.2, by rw [h4, hc], h2, fun i u hu => ?_⟩
      have hi : i < P.cellsOf e := by rw [← h4]; exact (List.getElem?_eq_some_iff.1 hu).1
      have := h5 i hi
      rw [hu] at this
      rw [← this, ← hc, Addr.add_add]
    · have h0 := hW ((((List.range len).map D).length + ((List.range (m - len)).map fun j => D (len + j)).length) * P.bytesOf e) (by simp [DataW.weights, ht])
      simp only [List.length_map, List.length_range] at h0
      rw [hlen]
      exact Nat.le_trans (Nat.mul_le_mul_right _ (by omega)) h0
    · intro y hy
      obtain ⟨v, hv, rfl⟩ := List.mem_map.1 hy
      obtain ⟨i, hi⟩ := List.mem_iff_getElem?.1 hv
      have hi' : i < len := by rw [← hVl]; exact (List.getElem?_eq_some_iff.1 hi).1
      refine (hV i v hi).2.2.1 (fun n hn => hW n ?_)
      simp only [DataW.weights, ht, List.mem_cons, List.mem_append]
      exact Or.inr (Or.inl (weightsAll_mem (d := D i) (List.mem_map.2 ⟨i, by simpa using hi', rfl⟩) hn))
    · simp only [Rows.uptoBulk]
      have := sum_le_bulk B ((List.range len).map D) (V.map (·.1)) (by simp [hVl]) (fun i a d' ha hd => by
        rw [List.getElem?_map] at ha hd
        obtain ⟨v, hv, rfl⟩ := Option.map_eq_some_iff.1 ha
        have hi' : i < len := by rw [← hVl]; exact (List.getElem?_eq_some_iff.1 hv).1
        rw [List.getElem?_range hi'] at hd
        simp only [Option.map_some, Option.some.injEq] at hd
        subst hd
        exact (hV i v hv).2.2.2)
      omega
/-- A parameter of slice type. -/
theorem open_param_slice {P : Program} {t e : TypeId} {α : Type} {d : Kd α} {S : List α → Prop} {B : List α → Nat} {H : Type} {enc : TypeId × Value → H} {w : World} {r : Reach} {b0 base : Nat} {spare : Nat → Bool} {held : Bool} {v : Value} {dd : DataW H} {p : List MemPlace}
    (ho : Opens P t (Kd.slice e d) S B) (ht : P.underlying t = some (.slice e)) (hv : Value.okWide P w r b0 t v) (h : DataW.Trod enc P w base spare held t v dd p) :
    ∃ A c l, v = .slice A l.length c ∧ l.length ≤ c ∧ d.C w A l.length l ∧ ((∀ n ∈ DataW.weights P t dd, n ≤ reachBytes) → S l) ∧ B l ≤ Rows.uptoBulk dd := by
  obtain ⟨a, len, cap, rfl⟩ := okWide_slice ht hv
  obtain ⟨fuel, hf⟩ := h
  obtain ⟨l, ⟨A, c, e1, hc, hC⟩, h1, h2⟩ := ho.op hf
  have e2 : Value.slice a len cap = .slice A l.length c := by simpa [Value.cells] using e1
  exact ⟨A, c, l, e2, hc, hC, h1, h2⟩
/-- Weights of a law's only parameter. -/
theorem weights_one {P : Program} {t : TypeId} {ts : List TypeId} {H : Type} {d : DataW H} {ds : List (DataW H)} (h : (DataW.weightsEach P (t :: ts) (d :: ds)).all (· ≤ reachBytes) = true) : ∀ n ∈ DataW.weights P t d, n ≤ reachBytes := by
  intro n hn
  have := List.all_eq_true.1 h n (by simp [DataW.weightsEach, hn])
  simpa using this
theorem bulk_one {H : Type} {d : DataW H} {ds : List (DataW H)} (h : Rows.uptoSmall H (d :: ds) = true) : Rows.uptoBulk d ≤ 1048576 := by
  have : Rows.uptoBulkAll (d :: ds) ≤ 1048576 := by simpa [Rows.uptoSmall] using h
  simp only [Rows.uptoBulkAll] at this
  omega
end Go.Proofs.YthjdjgppghplgaaDoor
