/-
The document's Scalar, One, Encode. Conditions: at most 2^44 points.
-/
import Derived.Test.YtbpadakcjnkjeaaDoorEnc2
import Derived.Test.YtbpadakcjnkjeaaDoorNum
namespace Go.Proofs.YtbpadakcjnkjeaaDoor
open Go Go.RowKit Go.Proofs.YtbpadakcjnkjeaaDoorW.PrintWords Go.Proofs.YtbpadakcjnkjeaaDoorW.PrintLast Go.Proofs.YtbpadakcjnkjeaaDoorW.PrintMore
set_option maxRecDepth 100000
set_option maxRecDepth 100000 in
theorem refScalar_any (p : Int) (w : World) :
    Calls Tryd.prog 54 #[.int .i64 p] w fun e w' => e = .returned (.bool (isSc p)) ∧ w = w' := by
  by_cases h1 : 0 ≤ p
  · by_cases h2 : p ≤ 1114111
    · by_cases h3 : p < 55296
      · have e : isSc p = true := by simp [isSc]; omega
        rw [e]
        clear e
        have b1 : decide (0 ≤ p) = true := by simpa using h1
        have b2 : decide (p ≤ 1114111) = true := by simpa using h2
        have b3 : decide (p < 55296) = true := by simpa using h3
        clear h1 h2 h3
        go_enter Tryd.func54, Tryd.ntmps54
        go_wp2
        go_ret
        exact ⟨rfl, rfl⟩
      · by_cases h4 : 57343 < p
        · have e : isSc p = true := by simp [isSc]; omega
          rw [e]
          clear e
          have b1 : decide (0 ≤ p) = true := by simpa using h1
          have b2 : decide (p ≤ 1114111) = true := by simpa using h2
          have b3 : decide (p < 55296) = false := by simpa using h3
          have b4 : decide (57343 < p) = true := by simpa using h4
          clear h1 h2 h3 h4
          go_enter Tryd.func54, Tryd.ntmps54
          go_wp2
          go_ret
          exact ⟨rfl, rfl⟩
        · have e : isSc p = false := by simp [isSc]; omega
          rw [e]
          clear e
          have b1 : decide (0 ≤ p) = true := by simpa using h1
          have b2 : decide (p ≤ 1114111) = true := by simpa using h2
          have b3 : decide (p < 55296) = false := by simpa using h3
          have b4 : decide (57343 < p) = false := by simpa using h4
          clear h1 h2 h3 h4
          go_enter Tryd.func54, Tryd.ntmps54
          go_wp2
          go_ret
          exact ⟨rfl, rfl⟩
    · have e : isSc p = false := by simp [isSc]; omega
      rw [e]
      clear e
      have b1 : decide (0 ≤ p) = true := by simpa using h1
      have b2 : decide (p ≤ 1114111) = false := by simpa using h2
      clear h1 h2
      go_enter Tryd.func54, Tryd.ntmps54
      go_wp2
      go_ret
      exact ⟨rfl, rfl⟩
  · have e : isSc p = false := by simp [isSc]; omega
    rw [e]
    clear e
    have b1 : decide (0 ≤ p) = false := by simpa using h1
    clear h1
    go_enter Tryd.func54, Tryd.ntmps54
    go_wp2
    go_ret
    exact ⟨rfl, rfl⟩
/-- A literal's row as text. -/
theorem lit_str (W : World) (xs : List Int) (hm : xs.length ≤ 9223372036854775807) : (convert 53 9 (.slice (some ⟨W.heap.size, 0, none⟩) xs.length xs.length)).run Tryd.prog (W.alloc (.cells (nums .u8 xs).toArray 5)) = .ok (.string (strOfNums xs)) (W.alloc (.cells (nums .u8 xs).toArray 5)) :=
  own_string (P := Tryd.prog) Tryd.underlying53 Tryd.underlying5 Tryd.underlying9 (own_lit W W.heap.size 5 .u8 xs (Nat.le_refl _) hm)
set_option maxRecDepth 100000 in
set_option maxHeartbeats 2000000 in
theorem one_any (p : Int) (w : World) (hp : 0 ≤ p) (hp2 : p ≤ 1114111) :
    Calls Tryd.prog 55 #[.int .i64 p] w fun e w' => e = .returned (.string (strOfNums (encP p))) ∧ Below w.heap.size w w' := by
  have hB := Below.refl w.heap.size w
  by_cases h1 : p < 128
  · have e : encP p = [p] := by unfold encP; rw [if_pos h1]
    rw [e]
    clear e
    have b1 : decide (p < 128) = true := by simpa using h1
    have hcv := lit_str w [p] (by simp)
    simp only [nums, List.map_cons, List.map_nil, List.length_cons, List.length_nil, Nat.zero_add] at hcv
    go_enter Tryd.func55, Tryd.ntmps55
    go_wp2
    go_ret
    exact ⟨rfl, hB.alloc (Nat.le_refl _) _⟩
  · have b1 : decide (p < 128) = false := by simpa using h1
    by_cases h2 : p < 2048
    · have e : encP p = [192 + p / 64, 128 + p % 64] := by unfold encP; rw [if_neg h1, if_pos h2]
      rw [e]
      clear e
      have b2 : decide (p < 2048) = true := by simpa using h2
      have hcv := lit_str w [192 + p / 64, 128 + p % 64] (by simp)
      simp only [nums, List.map_cons, List.map_nil, List.length_cons, List.length_nil, Nat.zero_add, Nat.reduceAdd] at hcv
      go_enter Tryd.func55, Tryd.ntmps55
      go_wp2
      go_ret
      exact ⟨rfl, hB.alloc (Nat.le_refl _) _⟩
    · have b2 : decide (p < 2048) = false := by simpa using h2
      by_cases h3 : p < 65536
      · have e : encP p = [224 + p / 4096, 128 + p / 64 % 64, 128 + p % 64] := by unfold encP; rw [if_neg h1, if_neg h2, if_pos h3]
        rw [e]
        clear e
        have b3 : decide (p < 65536) = true := by simpa using h3
        have hcv := lit_str w [224 + p / 4096, 128 + p / 64 % 64, 128 + p % 64] (by simp)
        simp only [nums, List.map_cons, List.map_nil, List.length_cons, List.length_nil, Nat.zero_add, Nat.reduceAdd] at hcv
        go_enter Tryd.func55, Tryd.ntmps55
        go_wp2
        go_ret
        exact ⟨rfl, hB.alloc (Nat.le_refl _) _⟩
      · have e : encP p = [240 + p / 262144, 128 + p / 4096 % 64, 128 + p / 64 % 64, 128 + p % 64] := by unfold encP; rw [if_neg h1, if_neg h2, if_neg h3]
        rw [e]
        clear e
        have b3 : decide (p < 65536) = false := by simpa using h3
        have hcv := lit_str w [240 + p / 262144, 128 + p / 4096 % 64, 128 + p / 64 % 64, 128 + p % 64] (by simp)
        simp only [nums, List.map_cons, List.map_nil, List.length_cons, List.length_nil, Nat.zero_add, Nat.reduceAdd] at hcv
        go_enter Tryd.func55, Tryd.ntmps55
        go_wp2
        go_ret
        exact ⟨rfl, hB.alloc (Nat.le_refl _) _⟩
theorem encP_byte {p : Int} (h : isSc p = true) : ∀ x ∈ encP p, 0 ≤ x ∧ x < 256 := by
  have := isSc_ge h
  unfold encP
  intro x hx
  repeat' (first | split at hx)
  all_goals
    simp only [List.mem_cons, List.not_mem_nil, or_false] at hx
    omega
end Go.Proofs.YtbpadakcjnkjeaaDoor
