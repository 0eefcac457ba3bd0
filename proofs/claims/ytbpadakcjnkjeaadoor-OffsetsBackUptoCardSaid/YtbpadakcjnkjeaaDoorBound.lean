/-
Where units begin and end: a place is one where no unit of more than one byte goes on over it. Plain Lean.
-/
import Derived.Test.YtbpadakcjnkjeaaDoorSplit
namespace Go.Proofs.YtbpadakcjnkjeaaDoor
open Go Go.RowKit Go.Proofs.YtbpadakcjnkjeaaDoorW.PrintWords Go.Proofs.YtbpadakcjnkjeaaDoorW.PrintLast Go.Proofs.YtbpadakcjnkjeaaDoorW.PrintMore
set_option maxRecDepth 100000
/-- A unit, whole. -/
def unitTr (s : ByteArray) (i : Nat) : Int × Int × Int := (unitPt s i, (i : Int), (i : Int) + (unitLen s i : Int))
theorem form_lohi (k : Nat) (hk : k < 8) : 128 ≤ formAt k 2 ∧ formAt k 3 ≤ 191 ∧ 194 ≤ formAt k 0 := by
  have h : k = 0 ∨ k = 1 ∨ k = 2 ∨ k = 3 ∨ k = 4 ∨ k = 5 ∨ k = 6 ∨ k = 7 := by omega
  rcases h with rfl | rfl | rfl | rfl | rfl | rfl | rfl | rfl <;> decide
/-- What a good unit's bytes are. -/
theorem good_bytes {s : ByteArray} {i n : Nat} {p : Int} (h : unitO s i = some (p, n)) (hi : i < s.size) : 0 ≤ p ∧ 1 ≤ n ∧ n ≤ 4 ∧ i + n ≤ s.size ∧ (∀ j, 1 ≤ j → j < n → 128 ≤ bt s (i + j : Nat) ∧ bt s (i + j : Nat) ≤ 191) ∧ (2 ≤ n → 194 ≤ bt s i) := by
  have hb := bt_range s i
  by_cases h128 : bt s i < 128
  · rw [unit_ascii h128] at h
    cases h
    exact ⟨hb.1, by omega, by omega, by omega, fun j h1 h2 => by omega, fun h => by omega⟩
  · cases hl : leadF (bt s i) with
    | none => rw [unit_none (by omega) hl] at h; cases h
    | some k =>
      have hk := leadF_lt hl
      have hf := form_facts k hk
      have hlo := form_lohi k hk
      have hls := lead_some hl
      have hz : formAt k 4 = 2 ∨ formAt k 4 = 3 ∨ formAt k 4 = 4 := by omega
      have hm : 0 ≤ bt s i % (formAt k 5 + 1) := Int.emod_nonneg _ (by omega)
      rcases hz with hz | hz | hz
      · rw [unit_form2 (by omega) hl hz] at h
        split at h
        · rename_i hc
          cases h
          refine ⟨by omega, by omega, by omega, by omega, fun j h1 h2 => ?_, fun _ => by omega⟩
          obtain rfl : j = 1 := by omega
          omega
        · cases h
      · rw [unit_form3 (by omega) hl hz] at h
        split at h
        · rename_i hc
          cases h
          refine ⟨by omega, by omega, by omega, by omega, fun j h1 h2 => ?_, fun _ => by omega⟩
          have : j = 1 ∨ j = 2 := by omega
          rcases this with rfl | rfl <;> omega
        · cases h
      · rw [unit_form4 (by omega) hl hz] at h
        split at h
        · rename_i hc
          cases h
          refine ⟨by omega, by omega, by omega, by omega, fun j h1 h2 => ?_, fun _ => by omega⟩
          have : j = 1 ∨ j = 2 ∨ j = 3 := by omega
          rcases this with rfl | rfl | rfl <;> omega
        · cases h
theorem pt_good {s : ByteArray} {i : Nat} (hi : i < s.size) : unitPt s i ≠ -1 ↔ ∃ p n, unitO s i = some (p, n) := by
  unfold unitPt
  cases h : unitO s i with
  | none => simp
  | some x =>
    obtain ⟨p, n⟩ := x
    have := (good_bytes h hi).1
    simp
    omega
/-- A place over which a good unit goes on. -/
def cov (s : ByteArray) (q at_ : Nat) : Prop := unitPt s q ≠ -1 ∧ q < at_ ∧ at_ < q + unitLen s q
theorem len_one {s : ByteArray} {i : Nat} (hi : i < s.size) (h : 2 ≤ unitLen s i) : unitPt s i ≠ -1 := by
  rw [pt_good hi]
  unfold unitLen at h
  cases hu : unitO s i with
  | none => rw [hu] at h; exact absurd h (by decide)
  | some x => exact ⟨x.1, x.2, rfl⟩
theorem cov_bytes {s : ByteArray} {q at_ : Nat} (hq : q < s.size) (h : cov s q at_) : 128 ≤ bt s at_ ∧ bt s at_ ≤ 191 ∧ 194 ≤ bt s q ∧ q + unitLen s q ≤ s.size := by
  obtain ⟨h1, h2, h3⟩ := h
  obtain ⟨p, n, hu⟩ := (pt_good hq).1 h1
  have hl : unitLen s q = n := by unfold unitLen; rw [hu]
  rw [hl] at h3
  obtain ⟨_, _, _, g4, g5, g6⟩ := good_bytes hu hq
  have := g5 (at_ - q) (by omega) (by omega)
  rw [show q + (at_ - q) = at_ by omega] at this
  rw [hl]
  exact ⟨this.1, this.2, g6 (by omega), g4⟩
/-- From place i on, a unit begins at j. -/
inductive Begins (s : ByteArray) (i : Nat) : Nat → Prop
  | here : Begins s i i
  | next {j : Nat} : Begins s i j → j < s.size → Begins s i (j + unitLen s j)
theorem Begins.le {s : ByteArray} {i j : Nat} (h : Begins s i j) : i ≤ j := by
  induction h with
  | here => exact Nat.le_refl _
  | next _ _ ih => omega
theorem Begins.apart {s : ByteArray} {i j k : Nat} (hj : Begins s i j) (hk : Begins s i k) (hlt : j < k) : j + unitLen s j ≤ k := by
  induction hk with
  | here => have := hj.le; omega
  | next h1 h2 ih =>
    rename_i k'
    have := (unitLen_pos s k').1
    by_cases h : j < k'
    · have := ih h; omega
    · by_cases h3 : j = k'
      · subst h3; exact Nat.le_refl _
      · -- k' < j < k' + len: j would lie inside
        exfalso
        have : ∀ m, Begins s i m → k' < m → k' + unitLen s k' ≤ m := by
          intro m hm
          induction hm with
          | here => intro h4; have := h1.le; omega
          | next h5 h6 ih2 =>
            rename_i m'
            intro h4
            by_cases h7 : k' < m'
            · have := ih2 h7; omega
            · by_cases h8 : k' = m'
              · subst h8; exact Nat.le_refl _
              · -- m' < k' < m' + len m'
                have hm' : m' < k' := by omega
                exact absurd (Begins.apart h5 h1 hm') (by omega)
        have := this j hj (by omega)
        omega
theorem Begins.trans {s : ByteArray} {i j k : Nat} (h : Begins s i j) (h2 : Begins s j k) : Begins s i k := by
  induction h2 with
  | here => exact h
  | next _ hlt ih => exact ih.next hlt
theorem begins_cons {s : ByteArray} {i k : Nat} : Begins s i k ↔ k = i ∨ (i < s.size ∧ Begins s (i + unitLen s i) k) := by
  constructor
  · intro h
    induction h with
    | here => exact Or.inl rfl
    | next h hlt ih =>
      rcases ih with rfl | ⟨h1, h2⟩
      · exact Or.inr ⟨hlt, Begins.here⟩
      · exact Or.inr ⟨h1, h2.next hlt⟩
  · rintro (rfl | ⟨h1, h2⟩)
    · exact Begins.here
    · exact (Begins.here.next h1).trans h2
/-- Each place lies in a unit. -/
theorem in_unit (s : ByteArray) (i : Nat) : ∀ d, i + d < s.size → ∃ q, Begins s i q ∧ q ≤ i + d ∧ i + d < q + unitLen s q
  | 0, h => ⟨i, Begins.here, by omega, by have := (unitLen_pos s i).1; omega⟩
  | d + 1, h => by
    obtain ⟨q, h1, h2, h3⟩ := in_unit s i d (by omega)
    by_cases hlt : i + (d + 1) < q + unitLen s q
    · exact ⟨q, h1, by omega, hlt⟩
    · exact ⟨q + unitLen s q, h1.next (by omega), by omega, by have := (unitLen_pos s (q + unitLen s q)).1; omega⟩
theorem in_unit0 (s : ByteArray) (a : Nat) (h : a < s.size) : ∃ q, Begins s 0 q ∧ q ≤ a ∧ a < q + unitLen s q := by
  have := in_unit s 0 a (by omega)
  simpa using this
theorem begins_iff {s : ByteArray} {a : Nat} (ha : a < s.size) : Begins s 0 a ↔ ¬ ∃ q, q < a ∧ cov s q a := by
  constructor
  · rintro hB ⟨q, hq, hc⟩
    obtain ⟨r, h1, h2, h3⟩ := in_unit0 s q (by omega)
    by_cases hr : r = q
    · subst hr
      have := h1.apart hB hq
      have := hc.2.2
      omega
    · have hcr : cov s r q := ⟨len_one (by omega) (by omega), by omega, h3⟩
      have g1 := cov_bytes (by omega) hcr
      have g2 := cov_bytes (by omega) hc
      omega
  · intro h
    obtain ⟨q, h1, h2, h3⟩ := in_unit0 s a ha
    by_cases hq : q = a
    · exact hq ▸ h1
    · exact absurd ⟨q, by omega, len_one (by omega) (by omega), by omega, h3⟩ h
theorem unit_end {s : ByteArray} {q : Nat} (hq : q < s.size) : q + unitLen s q ≤ s.size := by
  unfold unitLen
  cases hu : unitO s q with
  | none => exact hq
  | some x =>
    obtain ⟨p, n⟩ := x
    exact (good_bytes hu hq).2.2.2.1
/-- A unit ends at a place. -/
theorem ends_of {s : ByteArray} {a : Nat} (h0 : 0 < a) (ha : a ≤ s.size) (h : a = s.size ∨ Begins s 0 a) : ∃ q, q < s.size ∧ Begins s 0 q ∧ q + unitLen s q = a := by
  rcases h with rfl | h
  · obtain ⟨q, h1, h2, h3⟩ := in_unit0 s (s.size - 1) (by omega)
    have := unit_end (s := s) (q := q) (by omega)
    exact ⟨q, by omega, h1, by omega⟩
  · cases h with
    | here => omega
    | next h1 h2 => exact ⟨_, h2, h1, rfl⟩
theorem ends_begins {s : ByteArray} {q : Nat} (hq : q < s.size) (hB : Begins s 0 q) : Begins s 0 (q + unitLen s q) := hB.next hq
theorem find_start (s : ByteArray) (a : Nat) : ∀ (f i : Nat), s.size ≤ i + f →
    ((Begins s i a ∧ a < s.size) → (unitsFrom s f i).find? (fun u => u.2.1 == (a : Int)) = some (unitTr s a)) ∧ (¬ (Begins s i a ∧ a < s.size) → (unitsFrom s f i).find? (fun u => u.2.1 == (a : Int)) = none)
  | 0, i, h => ⟨fun ⟨h1, h2⟩ => by have := h1.le; omega, fun _ => rfl⟩
  | f + 1, i, h => by
    have hl := unitLen_pos s i
    have ih := find_start s a f (i + unitLen s i) (by omega)
    rw [unitsFrom]
    by_cases hlt : i < s.size
    · rw [if_pos hlt, List.find?_cons]
      by_cases hia : i = a
      · subst hia
        simp only [beq_self_eq_true]
        exact ⟨fun _ => rfl, fun h => absurd ⟨Begins.here, hlt⟩ h⟩
      · have hne : ((i : Int) == (a : Int)) = false := by simp; omega
        simp only [hne]
        have hc : Begins s i a ↔ Begins s (i + unitLen s i) a := by
          rw [begins_cons (k := a) (i := i)]
          exact ⟨fun h => h.elim (fun e => absurd e.symm hia) (fun h => h.2), fun h => Or.inr ⟨hlt, h⟩⟩
        rw [hc]
        exact ih
    · rw [if_neg hlt]
      exact ⟨fun ⟨h1, h2⟩ => by have := h1.le; omega, fun _ => rfl⟩
theorem find_end (s : ByteArray) (a : Nat) : ∀ (f i : Nat), s.size ≤ i + f →
    (∀ q, Begins s i q → q < s.size → q + unitLen s q = a → (unitsFrom s f i).find? (fun u => u.2.2 == (a : Int)) = some (unitTr s q)) ∧ ((¬ ∃ q, Begins s i q ∧ q < s.size ∧ q + unitLen s q = a) → (unitsFrom s f i).find? (fun u => u.2.2 == (a : Int)) = none)
  | 0, i, h => ⟨fun q h1 h2 _ => by have := h1.le; omega, fun _ => rfl⟩
  | f + 1, i, h => by
    have hl := unitLen_pos s i
    have ih := find_end s a f (i + unitLen s i) (by omega)
    rw [unitsFrom]
    by_cases hlt : i < s.size
    · rw [if_pos hlt, List.find?_cons]
      by_cases hia : i + unitLen s i = a
      · have he : ((i : Int) + (unitLen s i : Int) == (a : Int)) = true := by simp; omega
        simp only [he]
        refine ⟨fun q h1 h2 h3 => ?_, fun h => absurd ⟨i, Begins.here, hlt, hia⟩ h⟩
        rcases begins_cons.1 h1 with rfl | ⟨_, h4⟩
        · rfl
        · have := h4.le; have := (unitLen_pos s q).1; omega
      · have hne : ((i : Int) + (unitLen s i : Int) == (a : Int)) = false := by simp; omega
        simp only [hne]
        refine ⟨fun q h1 h2 h3 => ?_, fun h => ih.2 (fun ⟨q, h1, h2, h3⟩ => h ⟨q, begins_cons.2 (Or.inr ⟨hlt, h1⟩), h2, h3⟩)⟩
        rcases begins_cons.1 h1 with rfl | ⟨_, h4⟩
        · exact absurd h3 hia
        · exact ih.1 q h4 h2 h3
    · rw [if_neg hlt]
      exact ⟨fun q h1 h2 _ => by have := h1.le; omega, fun _ => rfl⟩
end Go.Proofs.YtbpadakcjnkjeaaDoor
