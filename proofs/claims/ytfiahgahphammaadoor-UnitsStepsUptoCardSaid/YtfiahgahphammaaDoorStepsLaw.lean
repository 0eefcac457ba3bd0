/-
Next and Prev: what the program finds is what the document finds in the list. Plain Lean.
-/
import Derived.Test.YtfiahgahphammaaDoorBound
namespace Go.Proofs.YtfiahgahphammaaDoor
open Go Go.RowKit Go.Proofs.YtfiahgahphammaaDoorW.PrintWords Go.Proofs.YtfiahgahphammaaDoorW.PrintLast Go.Proofs.YtfiahgahphammaaDoorW.PrintMore
def covB (s : ByteArray) (q a : Nat) : Bool := decide (unitPt s q ≠ -1) && decide (a < q + unitLen s q)
def insideR (s : ByteArray) (a : Nat) : Bool := (List.range 3).any fun b => decide (b + 1 ≤ a) && covB s (a - (b + 1)) a
theorem inside_iff {s : ByteArray} {a : Nat} : insideR s a = true ↔ ∃ q, q < a ∧ cov s q a := by
  simp only [insideR, covB, List.any_eq_true, List.mem_range, Bool.and_eq_true, decide_eq_true_eq]
  constructor
  · rintro ⟨b, hb, h1, h2, h3⟩
    exact ⟨a - (b + 1), by omega, h2, by omega, h3⟩
  · rintro ⟨q, hq, h1, h2, h3⟩
    have := (unitLen_pos s q).2
    exact ⟨a - q - 1, by omega, by omega, by rw [show a - (a - q - 1 + 1) = q by omega]; exact h1, by rw [show a - (a - q - 1 + 1) = q by omega]; exact h3⟩
/-- What Next answers. -/
def nextR (s : ByteArray) (a : Int) : Option (Int × Int × Int) := if a < 0 ∨ (s.size : Int) ≤ a then none else if insideR s a.toNat then none else some (unitTr s a.toNat)
theorem starts_nonneg (s : ByteArray) : ∀ (f i : Nat) (u : Int × Int × Int), u ∈ unitsFrom s f i → 0 ≤ u.2.1 ∧ 0 < u.2.2
  | 0, _, u, h => by simp [unitsFrom] at h
  | f + 1, i, u, h => by
    have hl := unitLen_pos s i
    rw [unitsFrom] at h
    split at h
    · rcases List.mem_cons.1 h with rfl | h
      · exact ⟨by simp, by simp; omega⟩
      · exact starts_nonneg s f _ u h
    · simp at h
theorem next_eq (s : ByteArray) (a : Int) : (unitsFrom s s.size 0).find? (fun u => u.2.1 == a) = nextR s a := by
  unfold nextR
  by_cases h0 : a < 0
  · rw [if_pos (Or.inl h0), List.find?_eq_none]
    intro u hu he
    have := (starts_nonneg s _ _ u hu).1
    simp at he
    omega
  · obtain ⟨k, rfl⟩ := Int.eq_ofNat_of_zero_le (show 0 ≤ a by omega)
    have hfs := find_start s k s.size 0 (by omega)
    by_cases hk : s.size ≤ k
    · rw [if_pos (Or.inr (by exact Int.ofNat_le.2 hk))]
      exact hfs.2 (fun h => by omega)
    · rw [if_neg (fun h => by rcases h with h | h <;> omega)]
      have hlt : k < s.size := by omega
      simp only [Int.toNat_natCast]
      cases hin : insideR s k with
      | true => exact hfs.2 (fun h => (begins_iff hlt).1 h.1 (inside_iff.1 hin))
      | false => exact hfs.1 ⟨(begins_iff hlt).2 (fun h => by have := inside_iff.2 h; rw [hin] at this; cases this), hlt⟩
/-- What Prev answers. -/
def prevAux (s : ByteArray) (a : Nat) : Nat → Int × Int × Int
  | 0 => unitTr s (a - 1)
  | 1 => unitTr s (a - 1)
  | b + 2 => if unitPt s (a - (b + 2)) ≠ -1 ∧ a - (b + 2) + unitLen s (a - (b + 2)) = a then unitTr s (a - (b + 2)) else prevAux s a (b + 1)
def prevR (s : ByteArray) (a : Int) : Option (Int × Int × Int) := if a ≤ 0 ∨ (s.size : Int) < a then none else if a < s.size ∧ insideR s a.toNat = true then none else some (prevAux s a.toNat (min 4 a.toNat))
theorem prevAux_eq {s : ByteArray} {a q : Nat} (hq : q < s.size) (hB : Begins s 0 q) (he : q + unitLen s q = a) (ha : a ≤ s.size) : ∀ b, a - q ≤ b → b ≤ a → prevAux s a b = unitTr s q
  | 0, h, _ => by have := (unitLen_pos s q).1; omega
  | 1, h, _ => by have := (unitLen_pos s q).1; rw [prevAux, show a - 1 = q by omega]
  | b + 2, h, hba => by
    have hl := unitLen_pos s q
    rw [prevAux]
    by_cases hbq : a - (b + 2) = q
    · rw [hbq, if_pos ⟨len_one hq (by omega), he⟩]
    · rw [if_neg ?_]
      · exact prevAux_eq hq hB he ha (b + 1) (by omega) (by omega)
      · rintro ⟨h1, h2⟩
        exact (begins_iff hq).1 hB ⟨a - (b + 2), by omega, h1, by omega, by omega⟩
theorem prev_eq (s : ByteArray) (a : Int) : (unitsFrom s s.size 0).find? (fun u => u.2.2 == a) = prevR s a := by
  unfold prevR
  by_cases h0 : a ≤ 0
  · rw [if_pos (Or.inl h0), List.find?_eq_none]
    intro u hu he
    have := (starts_nonneg s _ _ u hu).2
    simp at he
    omega
  · obtain ⟨k, rfl⟩ := Int.eq_ofNat_of_zero_le (show 0 ≤ a by omega)
    have hfe := find_end s k s.size 0 (by omega)
    by_cases hk : s.size < k
    · rw [if_pos (Or.inr (by exact Int.ofNat_lt.2 hk))]
      exact hfe.2 (fun ⟨q, h1, h2, h3⟩ => by have := unit_end h2; omega)
    · rw [if_neg (fun h => by rcases h with h | h <;> omega)]
      simp only [Int.toNat_natCast]
      by_cases hin : (k : Int) < s.size ∧ insideR s k = true
      · rw [if_pos hin]
        refine hfe.2 (fun ⟨q, h1, h2, h3⟩ => ?_)
        have hb := ends_begins h2 h1
        rw [h3] at hb
        exact (begins_iff (by omega)).1 hb (inside_iff.1 hin.2)
      · rw [if_neg hin]
        obtain ⟨q, h1, h2, h3⟩ := ends_of (s := s) (a := k) (by omega) (by omega) (by
          by_cases hks : k = s.size
          · exact Or.inl hks
          · refine Or.inr ((begins_iff (by omega)).2 (fun h => hin ⟨by omega, inside_iff.2 h⟩)))
        have hl := unitLen_pos s q
        rw [prevAux_eq h1 h2 h3 (by omega) (min 4 k) (by omega) (by omega)]
        exact hfe.1 q h2 h1 h3
end Go.Proofs.YtfiahgahphammaaDoor
