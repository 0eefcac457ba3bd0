/-
What a writer's steps put, and what a reader's steps read of it. No condition.
-/
import Derived.Test.YtlhnajgckdeedaaDoorVlaw
import Derived.Test.YtlhnajgckdeedaaDoorRtext
import Derived.Test.YtlhnajgckdeedaaDoorKnown
namespace Go.Proofs.YtlhnajgckdeedaaDoor
open Go Go.RowKit Go.Proofs.YtlhnajgckdeedaaDoorW.PrintWords Go.Proofs.YtlhnajgckdeedaaDoorW.PrintLast Go.Proofs.YtlhnajgckdeedaaDoorW.PrintMore
abbrev Stp : Type := Bool × Int × ByteArray
/-- What a step puts. -/
def putS (s : Stp) : List UInt8 := if s.1 then vnum s.2.2.size ++ s.2.2.data.toList else if 0 ≤ s.2.1 then vnum s.2.1.toNat else []
def puts (l : List Stp) (k : Nat) : List UInt8 := (l.take k).flatMap putS
def rdS (l : List Stp) (k : Nat) : Stp := l.getD k (false, 0, ByteArray.empty)
theorem rdS_mem (l : List Stp) (k : Nat) (h : k < l.length) : rdS l k ∈ l := by
  unfold rdS
  rw [List.getD_eq_getElem?_getD, List.getElem?_eq_getElem h, Option.getD_some]
  exact List.getElem_mem h
theorem puts_zero (l : List Stp) : puts l 0 = [] := rfl
theorem puts_succ (l : List Stp) (k : Nat) (h : k < l.length) : puts l (k + 1) = puts l k ++ putS (rdS l k) := by
  unfold puts rdS
  rw [List.take_succ_eq_append_getElem h, List.flatMap_append]
  simp [List.getD, h]
theorem puts_all (l : List Stp) : puts l l.length = l.flatMap putS := by unfold puts; rw [List.take_length]
theorem puts_split (l : List Stp) (k : Nat) (h : k < l.length) : ∃ r, puts l l.length = puts l k ++ (putS (rdS l k) ++ r) := by
  refine ⟨(l.drop (k + 1)).flatMap putS, ?_⟩
  rw [← List.append_assoc, ← puts_succ l k h, puts_all]
  unfold puts
  rw [← List.flatMap_append, List.take_append_drop]
theorem drop_ints (a b : List UInt8) : (ints (a ++ b)).drop a.length = ints b := by
  rw [ints_append, ← ints_len a, List.drop_left]
theorem strOf_ints (s : ByteArray) : strOfNums (ints s.data.toList) = s := by
  have h := str_of s.data.toList
  rw [ints_bytes] at h
  simpa only [Array.toArray_toList] using h
/-- A number that was put is read. -/
theorem read_num (a r : List UInt8) (n : Nat) (h : n < 9223372036854775808) : rnum 9 0 0 ((ints (a ++ (vnum n ++ r))).drop a.length) = .ok (n, (vnum n).length) := by
  rw [drop_ints, ints_append, rnum_vnum 9 0 0 n (ints r) (vnum_nine n h) (by omega)]
  simp
/-- A text that was put is read. -/
theorem read_text (a r : List UInt8) (s : ByteArray) (h : s.size < 9223372036854775808) :
    rtext (s.size : Int) (ints (a ++ ((vnum s.size ++ s.data.toList) ++ r))) a.length = .ok (ints s.data.toList, a.length + (vnum s.size ++ s.data.toList).length) := by
  have hl := data_length s
  unfold rtext
  rw [show a ++ ((vnum s.size ++ s.data.toList) ++ r) = a ++ (vnum s.size ++ (s.data.toList ++ r)) by simp, read_num a _ s.size h]
  simp only
  rw [if_neg (by omega), if_neg (by simp only [ints_len, List.length_append]; omega)]
  have e1 : ints (a ++ (vnum s.size ++ (s.data.toList ++ r))) = ints (a ++ vnum s.size) ++ (ints s.data.toList ++ ints r) := by simp [ints_append]
  have e2 : a.length + (vnum s.size).length = (ints (a ++ vnum s.size)).length := by simp [ints_len]
  rw [e1, e2]
  have e3 : (ints (a ++ vnum s.size)).length + s.size = (ints (a ++ vnum s.size) ++ ints s.data.toList).length := by rw [List.length_append, ints_len s.data.toList, hl]
  rw [e3, ← List.append_assoc, List.take_left, List.drop_left]
  congr 2
  simp [ints_len]
  omega
theorem putS_len (s : Stp) (h : s.2.1 ≤ 9223372036854775807) (hs : s.2.2.size ≤ 1048576) : (putS s).length ≤ 9 + s.2.2.size := by
  have hl := data_length s.2.2
  unfold putS
  split
  · have := vnum_nine s.2.2.size (by omega)
    rw [List.length_append]
    omega
  · split
    · have := vnum_nine s.2.1.toNat (by omega)
      omega
    · simp
theorem puts_bound (xs : List Stp) (hN : ∀ s ∈ xs, -9223372036854775808 ≤ s.2.1 ∧ s.2.1 ≤ 9223372036854775807) (hsum : (xs.map fun x : Stp => 1 + (1 + (x.2.2.size + 1)) + 1).sum ≤ 1048576) : ∀ k, k ≤ xs.length → (puts xs k).length ≤ 16777216 := by
  have gen : ∀ l : List Stp, (∀ s ∈ l, s.2.1 ≤ 9223372036854775807) → (l.map fun x : Stp => 1 + (1 + (x.2.2.size + 1)) + 1).sum ≤ 1048576 → (l.flatMap putS).length ≤ 9 * (l.map fun x : Stp => 1 + (1 + (x.2.2.size + 1)) + 1).sum := by
    intro l
    induction l with
    | nil => intro _ _; simp
    | cons s l ih =>
      intro h1 h2
      rw [List.map_cons, List.sum_cons] at h2 ⊢
      have h3 := ih (fun t ht => h1 t (List.mem_cons_of_mem _ ht)) (by omega)
      have h4 := putS_len s (h1 s (List.mem_cons_self ..)) (by omega)
      rw [List.flatMap_cons, List.length_append]
      omega
  intro k hk
  have h5 := gen xs (fun s hs => (hN s hs).2) hsum
  have h6 : puts xs xs.length = puts xs k ++ (xs.drop k).flatMap putS := by
    rw [puts_all]
    unfold puts
    rw [← List.flatMap_append, List.take_append_drop]
  have h7 := congrArg List.length h6
  rw [puts_all, List.length_append] at h7
  omega
end Go.Proofs.YtlhnajgckdeedaaDoor
