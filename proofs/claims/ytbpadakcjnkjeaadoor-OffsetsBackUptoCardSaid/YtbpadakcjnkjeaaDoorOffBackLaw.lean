/-
What is asked at each edge of a text leads there and back; where the last unit ends. Plain Lean.
-/
import Derived.Test.YtbpadakcjnkjeaaDoorOffC
import Derived.Test.YtbpadakcjnkjeaaDoorBound
namespace Go.Proofs.YtbpadakcjnkjeaaDoor
open Go Go.RowKit Go.Proofs.YtbpadakcjnkjeaaDoorW.PrintWords Go.Proofs.YtbpadakcjnkjeaaDoorW.PrintLast Go.Proofs.YtbpadakcjnkjeaaDoorW.PrintMore
set_option maxRecDepth 100000
theorem end_from (s : ByteArray) : ∀ (f i : Nat) (p : Pl), p.1 = (i : Int) → i ≤ s.size → s.size ≤ i + f → ((unitsFrom s f i).foldl stepP p).1 = (s.size : Int)
  | 0, i, p, hp, h1, h2 => by simp [unitsFrom]; omega
  | f + 1, i, p, hp, h1, h2 => by
    rw [unitsFrom]
    split
    · rename_i h
      have h3 := unit_end h
      have h4 := unitLen_pos s i
      rw [List.foldl_cons]
      exact end_from s f _ _ (by simp [stepP]) h3 (by omega)
    · rw [List.foldl_nil]; omega
theorem end_units (s : ByteArray) : (plA (unitsFrom s s.size 0) (unitsFrom s s.size 0).length).1 = (s.size : Int) := by
  unfold plA
  rw [List.take_length]
  exact end_from s s.size 0 _ rfl (by omega) (by omega)
theorem first_at {n i : Nat} {q : Nat → Bool} (hi : i < n) (hq : q i = true) (h1 : ∀ j, j < i → q j = false) : firstF n q = some i := by
  unfold firstF
  rw [List.find?_range_eq_some]
  exact ⟨hq, by simpa using hi, fun j hj => by simpa using h1 j hj⟩
theorem keyB_at {us : List Un} (hc : Chained us 0) {i : Nat} (hi : i ≤ us.length) : keyB us (plA us i).1 = some i :=
  first_at (by omega) (by simp) (fun j hj => by have := at_rise hc j i hj hi; simp; omega)
theorem keyW_at {us : List Un} {i : Nat} (hi : i ≤ us.length) : keyW us (plA us i).2.1 = some i :=
  first_at (by omega) (by simp) (fun j hj => by have := wide_rise us j i hj hi; simp; omega)
theorem keyL_at {us : List Un} {i : Nat} (hi : i ≤ us.length) : keyL us (plA us i).2.2.1 (plA us i).2.2.2 = some i :=
  first_at (by omega) (by simp) (fun j hj => by have := line_rise us j i hj hi; unfold lexLt at this; simp; omega)
/-- What stood last: the width, the line, the column. -/
def pv (us : List Un) : Nat → Int × Int × Int
  | 0 => (-1, 0, 0)
  | k + 1 => (plA us k).2
theorem pv_lt (us : List Un) : ∀ k, k ≤ us.length → (pv us k).1 < (plA us k).2.1 ∧ lexLt (pv us k).2 (plA us k).2.2
  | 0, _ => by simp [pv, plA, lexLt]
  | k + 1, h => ⟨wide_step us k h, line_step us k h⟩
theorem start_at {us : List Un} (hc : Chained us 0) {i : Nat} (hi : i < us.length) : (rdU us i).2.1 = (plA us i).1 := by
  have := (chained_at us (0, 0, 1, 1) hc i hi).1
  have e : rdU us i = us[i] := by simp [rdU, List.getD, hi]
  rw [e]
  exact this.symm
theorem at_le {us : List Un} (hc : Chained us 0) {i : Nat} (hi : i ≤ us.length) : 0 ≤ (plA us i).1 ∧ (plA us i).1 ≤ (plA us us.length).1 := by
  constructor
  · by_cases h : i = 0
    · subst h; exact Int.le_refl _
    · have := at_rise hc 0 i (by omega) hi
      rw [plA_zero] at this
      omega
  · by_cases h : i = us.length
    · rw [h]; exact Int.le_refl _
    · have := at_rise hc i us.length (by omega) (Nat.le_refl _)
      omega
end Go.Proofs.YtbpadakcjnkjeaaDoor
