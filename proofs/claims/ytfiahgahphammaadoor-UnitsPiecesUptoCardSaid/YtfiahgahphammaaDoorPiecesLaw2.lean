/-
The units of a whole are those of the beginning that Cut leaves and, moved, those of the rest. Plain Lean.
-/
import Derived.Test.YtfiahgahphammaaDoorPiecesLaw
namespace Go.Proofs.YtfiahgahphammaaDoor
open Go Go.RowKit Go.Proofs.YtfiahgahphammaaDoorW.PrintWords Go.Proofs.YtfiahgahphammaaDoorW.PrintLast Go.Proofs.YtfiahgahphammaaDoorW.PrintMore
theorem unitsFrom_fuel (s : ByteArray) : ∀ (f g i : Nat), s.size ≤ i + f → s.size ≤ i + g → unitsFrom s f i = unitsFrom s g i
  | 0, g, i, h1, _ => by
    cases g with
    | zero => rfl
    | succ g => rw [unitsFrom, unitsFrom, if_neg (by omega)]
  | f + 1, 0, i, _, h2 => by rw [show unitsFrom s 0 i = [] from rfl, unitsFrom, if_neg (by omega)]
  | f + 1, g + 1, i, h1, h2 => by
    have hl := (unitLen_pos s i).1
    rw [unitsFrom, unitsFrom]
    split
    · rw [unitsFrom_fuel s f g _ (by omega) (by omega)]
    · rfl
def shiftU (d : Int) (u : Int × Int × Int) : Int × Int × Int := (u.1, u.2.1 + d, u.2.2 + d)
section
variable {A H D T : ByteArray} {i0 : Nat}
/-- The same unit in the beginning and in the whole. -/
theorem head_unit (hi0 : i0 = A.size - cutR A) (hH : H.size = i0) (hAT : A.size ≤ T.size) (hbA : ∀ m, m < A.size → bt T m = bt A m) (hbH : ∀ m, m < i0 → bt H m = bt T m) {i : Nat} (hi : i < i0) : unitO T i = unitO H i := by
  have hc := cut_le A
  cases hu : unitO H i with
  | some x =>
    obtain ⟨p, n⟩ := x
    have hg := good_bytes hu (by omega)
    exact good_ext hu (by omega) (fun m hm => (hbH (i + m) (by omega)).symm) (by omega)
  | none =>
    cases ht : unitO T i with
    | none => rfl
    | some x =>
      exfalso
      obtain ⟨p, n⟩ := x
      have hg := good_bytes ht (by omega)
      by_cases h1 : i + n ≤ i0
      · have := good_ext (t := H) (j := i) ht (by omega) (fun m hm => hbH (i + m) (by omega)) (by omega)
        rw [hu] at this
        cases this
      · by_cases h2 : i + n ≤ A.size
        · have hc0 : 0 < cutR A := by omega
          have hl := cutAux_longer A (min 3 A.size) hc0
          have hl' : longer A i0 := by rw [hi0]; exact hl
          have hld := longer_lead (by omega) (by omega) hl'
          have := hg.2.2.2.2.1 (i0 - i) (by omega) (by omega)
          rw [show i + (i0 - i) = i0 by omega, hbA i0 (by omega)] at this
          omega
        · have hl := longer_of ht (by omega) hAT hbA (by omega)
          have hn := cutAux_not A (min 3 A.size) (A.size - i) (by show cutR A < _; omega) (by omega)
          rw [show A.size - (A.size - i) = i by omega] at hn
          exact hn hl
theorem whole_head (hi0 : i0 = A.size - cutR A) (hH : H.size = i0) (hAT : A.size ≤ T.size) (hbA : ∀ m, m < A.size → bt T m = bt A m) (hbH : ∀ m, m < i0 → bt H m = bt T m) :
    ∀ (f i F : Nat), i ≤ i0 → i0 ≤ i + f → T.size ≤ i + F → unitsFrom T F i = unitsFrom H f i ++ unitsFrom T T.size i0
  | 0, i, F, h1, h2, h3 => by
    obtain rfl : i = i0 := by omega
    rw [unitsFrom, List.nil_append]
    exact unitsFrom_fuel T _ _ _ h3 (by omega)
  | f + 1, i, F, h1, h2, h3 => by
    rw [unitsFrom]
    by_cases hlt : i < i0
    · have hT : i < T.size := by omega
      obtain ⟨G, rfl⟩ : ∃ G, F = G + 1 := ⟨F - 1, by omega⟩
      have hs := same_unit (head_unit hi0 hH hAT hbA hbH hlt)
      have he := unit_end (s := H) (q := i) (by omega)
      have hl := (unitLen_pos H i).1
      rw [unitsFrom, if_pos hT, if_pos (by omega), hs.1, hs.2, List.cons_append, whole_head hi0 hH hAT hbA hbH f (i + unitLen H i) G (by omega) (by omega) (by omega)]
    · obtain rfl : i = i0 := by omega
      rw [if_neg (by omega), List.nil_append]
      exact unitsFrom_fuel T _ _ _ h3 (by omega)
theorem whole_rest (hD : D.size = T.size - i0) (hbD : ∀ m, i0 + m < T.size → bt D m = bt T (i0 + m : Nat)) : ∀ (f j : Nat), unitsFrom T f (i0 + j) = (unitsFrom D f j).map (shiftU i0)
  | 0, j => rfl
  | f + 1, j => by
    rw [unitsFrom, unitsFrom]
    by_cases hlt : i0 + j < T.size
    · have hs := same_unit (unitO_same (s := D) (t := T) (i := j) (j := i0 + j) (by omega) hlt (by omega) (fun m hm => by rw [hbD (j + m) (by omega)]; congr 2; omega))
      rw [if_pos hlt, if_pos (by omega), hs.1, hs.2, List.map_cons, Nat.add_assoc, whole_rest hD hbD f (j + unitLen D j)]
      congr 1
      simp only [shiftU, Prod.mk.injEq, true_and]
      omega
    · rw [if_neg hlt, if_neg (by omega)]
      rfl
end
theorem bt_append_left {A B : ByteArray} {m : Nat} (h : m < A.size) : bt (A ++ B) m = bt A m := by
  rw [bt_of (bytesOf_append A B) m, bt_of (u := A) rfl m]
  simp [List.getD, List.getElem?_append_left (by rw [bytesOf_length]; exact h)]
theorem bt_append_right {A B : ByteArray} {m : Nat} : bt (A ++ B) (A.size + m : Nat) = bt B m := by
  rw [bt_of (bytesOf_append A B), bt_of (u := B) rfl m]
  simp [List.getD, List.getElem?_append_right, bytesOf_length]
theorem bt_take {A : ByteArray} {i m : Nat} (h : m < i) (hi : i ≤ A.size) : bt (A.extract 0 i) m = bt A m := by
  have := bytesOf_extract A 0 i (by omega)
  rw [Nat.zero_add] at this
  rw [bt_of this m]
  simp [List.getD, List.getElem?_map, List.getElem?_range h]
/-- THE LAW OF PIECES. -/
theorem pieces (A B : ByteArray) : unitsFrom (A ++ B) (A ++ B).size 0 = unitsFrom (A.extract 0 (A.size - cutR A)) (A.extract 0 (A.size - cutR A)).size 0 ++
    (unitsFrom (A.extract (A.size - cutR A) A.size ++ B) (A.extract (A.size - cutR A) A.size ++ B).size 0).map (shiftU ((A.size - cutR A : Nat) : Int)) := by
  have hc := cut_le A
  obtain ⟨i0, hi0⟩ : ∃ i0, i0 = A.size - cutR A := ⟨_, rfl⟩
  rw [← hi0]
  have hT : (A ++ B).size = A.size + B.size := ByteArray.size_append
  have hH : (A.extract 0 i0).size = i0 := by rw [ByteArray.size_extract]; omega
  have hE : (A.extract i0 A.size).size = A.size - i0 := size_drop A i0
  have hD : (A.extract i0 A.size ++ B).size = (A ++ B).size - i0 := by rw [ByteArray.size_append, hE, hT]; omega
  have hbA : ∀ m, m < A.size → bt (A ++ B) m = bt A m := fun m hm => bt_append_left hm
  have hbH : ∀ m, m < i0 → bt (A.extract 0 i0) m = bt (A ++ B) m := fun m hm => by rw [hbA m (by omega), bt_take hm (by omega)]
  have hbD : ∀ m, i0 + m < (A ++ B).size → bt (A.extract i0 A.size ++ B) m = bt (A ++ B) (i0 + m : Nat) := by
    intro m hm
    by_cases h : i0 + m < A.size
    · rw [hbA (i0 + m) h, bt_append_left (by rw [hE]; omega), bt_drop A i0 m h]
    · have h1 := bt_append_right (A := A) (B := B) (m := i0 + m - A.size)
      have h2 := bt_append_right (A := A.extract i0 A.size) (B := B) (m := i0 + m - A.size)
      rw [show A.size + (i0 + m - A.size) = i0 + m by omega] at h1
      rw [hE, show A.size - i0 + (i0 + m - A.size) = m by omega] at h2
      rw [h1, h2]
  have h1 := whole_head hi0 hH (by omega) hbA hbH i0 0 (A ++ B).size (by omega) (by omega) (by omega)
  have h2 := whole_rest hD hbD (A ++ B).size 0
  rw [Nat.add_zero] at h2
  rw [h1, h2, hH]
  congr 2
  exact unitsFrom_fuel _ _ _ _ (by omega) (by omega)
end Go.Proofs.YtfiahgahphammaaDoor
