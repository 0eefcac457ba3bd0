/-
What is encoded is split into just these points. Plain Lean.
-/
import Derived.Test.YtfiahgahphammaaDoorSplit
import Derived.Test.YtfiahgahphammaaDoorEnc2
import Derived.Test.YtfiahgahphammaaDoorCutLaw
namespace Go.Proofs.YtfiahgahphammaaDoor
open Go Go.RowKit Go.Proofs.YtfiahgahphammaaDoorW.PrintWords Go.Proofs.YtfiahgahphammaaDoorW.PrintLast Go.Proofs.YtfiahgahphammaaDoorW.PrintMore
theorem opt_some {o : Option (Int × Nat)} {p : Int} {n : Nat} (h : (p, (n : Int)) = optPair o) (hn : 0 < n) : o = some (p, n) := by
  cases o with
  | none => simp [optPair] at h; omega
  | some x =>
    obtain ⟨p', n'⟩ := x
    simp [optPair] at h
    obtain ⟨rfl, h2⟩ := h
    obtain rfl : n = n' := by omega
    rfl
theorem enc_pos (p : Int) : 1 ≤ (encP p).length := by
  unfold encP
  repeat' split
  all_goals simp
/-- Where a point's bytes lie, there is its unit. -/
theorem enc_unit {T : ByteArray} {i : Nat} {p : Int} (hsc : isSc p = true) (hlen : i + (encP p).length ≤ T.size) (hb : bytesAt T i (encP p).length = encP p) : unitO T i = some (p, (encP p).length) := by
  have hp := (isSc_iff p).1 hsc
  have hl := enc_pos p
  have h := good_unit T i (by omega)
  unfold goodC at h
  rw [if_neg (by omega)] at h
  by_cases h1 : p < 128
  · have e : encP p = [p] := by unfold encP; rw [if_pos h1]
    rw [e] at hb hlen ⊢
    rw [show [p].length = 1 from rfl, bytesAt1] at hb
    simp only [List.cons.injEq, and_true] at hb
    rw [unit_ascii (by rw [hb]; exact h1), hb]
    rfl
  · by_cases h2 : p < 2048
    · have e : encP p = [192 + p / 64, 128 + p % 64] := by unfold encP; rw [if_neg h1, if_pos h2]
      rw [e] at hb hlen ⊢
      rw [show [192 + p / 64, 128 + p % 64].length = 2 from rfl] at hb hlen ⊢
      have hb' := hb
      rw [bytesAt2] at hb
      simp only [List.cons.injEq, and_true] at hb
      rw [hb.1, size_2 (by omega) (by omega), if_neg (by omega), show (2 : Int).toNat = 2 from rfl] at h
      simp only [foldP, leadR, Nat.reduceEqDiff, Nat.reduceSub, if_true, if_false, hb.2] at h
      rw [show (192 + p / 64 - 192) * 64 + (128 + p % 64) - 128 = p by omega, finP_some ⟨hsc, by rw [hb', e]⟩] at h
      exact opt_some h (by omega)
    · by_cases h3 : p < 65536
      · have e : encP p = [224 + p / 4096, 128 + p / 64 % 64, 128 + p % 64] := by unfold encP; rw [if_neg h1, if_neg h2, if_pos h3]
        rw [e] at hb hlen ⊢
        rw [show [224 + p / 4096, 128 + p / 64 % 64, 128 + p % 64].length = 3 from rfl] at hb hlen ⊢
        have hb' := hb
        rw [bytesAt3] at hb
        simp only [List.cons.injEq, and_true] at hb
        rw [hb.1, size_3 (by omega) (by omega), if_neg (by omega), show (3 : Int).toNat = 3 from rfl] at h
        simp only [foldP, leadR, Nat.reduceEqDiff, Nat.reduceSub, Nat.reduceAdd, if_true, if_false, hb.2.1, hb.2.2] at h
        rw [show ((224 + p / 4096 - 224) * 64 + (128 + p / 64 % 64) - 128) * 64 + (128 + p % 64) - 128 = p by omega, finP_some ⟨hsc, by rw [hb', e]⟩] at h
        exact opt_some h (by omega)
      · have e : encP p = [240 + p / 262144, 128 + p / 4096 % 64, 128 + p / 64 % 64, 128 + p % 64] := by unfold encP; rw [if_neg h1, if_neg h2, if_neg h3]
        rw [e] at hb hlen ⊢
        rw [show [240 + p / 262144, 128 + p / 4096 % 64, 128 + p / 64 % 64, 128 + p % 64].length = 4 from rfl] at hb hlen ⊢
        have hb' := hb
        rw [bytesAt4] at hb
        simp only [List.cons.injEq, and_true] at hb
        rw [hb.1, size_4 (by omega) (by omega), if_neg (by omega), show (4 : Int).toNat = 4 from rfl] at h
        simp only [foldP, leadR, Nat.reduceEqDiff, Nat.reduceSub, Nat.reduceAdd, if_true, if_false, hb.2.1, hb.2.2.1, hb.2.2.2] at h
        rw [show (((240 + p / 262144 - 240) * 64 + (128 + p / 4096 % 64) - 128) * 64 + (128 + p / 64 % 64) - 128) * 64 + (128 + p % 64) - 128 = p by omega, finP_some ⟨hsc, by rw [hb', e]⟩] at h
        exact opt_some h (by omega)
theorem bytesAt_of {T : ByteArray} {pre m rest : List Int} (h : bytesOf T = pre ++ (m ++ rest)) : bytesAt T pre.length m.length = m ∧ pre.length + m.length ≤ T.size := by
  have hs := size_of h
  simp only [List.length_append] at hs
  refine ⟨?_, by omega⟩
  apply List.ext_getElem
  · simp [bytesAt]
  · intro j h1 h2
    have e : bt T ((pre.length + j : Nat) : Int) = (pre ++ (m ++ rest)).getD (pre.length + j) 0 := bt_of h _
    simp only [bytesAt, List.getElem_map, List.getElem_range, e]
    simp [List.getD, List.getElem?_append_right, List.getElem?_append_left h2, List.getElem?_eq_getElem h2]
theorem back {T : ByteArray} : ∀ (q pre : List Int), bytesOf T = pre ++ q.flatMap encP → q.all isSc = true → ∀ f, T.size ≤ pre.length + f → (unitsFrom T f pre.length).map (·.1) = q
  | [], pre, h, _, f, hf => by
    have hs := size_of h
    simp at hs
    cases f with
    | zero => rfl
    | succ f => rw [unitsFrom, if_neg (by omega)]; rfl
  | p :: q, pre, h, ha, f, hf => by
    rw [List.flatMap_cons] at h
    rw [List.all_cons, Bool.and_eq_true] at ha
    have hb := bytesAt_of h
    have hp := enc_pos p
    have hu := enc_unit ha.1 hb.2 hb.1
    obtain ⟨g, rfl⟩ : ∃ g, f = g + 1 := ⟨f - 1, by omega⟩
    have hl : unitPt T pre.length = p ∧ unitLen T pre.length = (encP p).length := by unfold unitPt unitLen; rw [hu]; exact ⟨rfl, rfl⟩
    rw [unitsFrom, if_pos (by omega), List.map_cons, hl.1, hl.2]
    have ih := back q (pre ++ encP p) (by rw [List.append_assoc]; exact h) ha.2 g (by rw [List.length_append]; omega)
    rw [List.length_append] at ih
    rw [ih]
/-- A scalar value, out of any number. -/
def scalarF (x : Int) : Int := if 55296 ≤ x % 1114112 ∧ x % 1114112 ≤ 57343 then x % 1114112 - 55296 else x % 1114112
theorem scalarF_sc (x : Int) : isSc (scalarF x) = true := by
  have h1 := Int.emod_nonneg x (by omega : (1114112 : Int) ≠ 0)
  have h2 := Int.emod_lt_of_pos x (show (0 : Int) < 1114112 by omega)
  rw [isSc_iff]
  unfold scalarF
  split <;> omega
theorem back_enc (q : List Int) (h : q.all isSc = true) : (unitsFrom (encS q) (encS q).size 0).map (·.1) = q := by
  have e : encS q = strOfNums (q.flatMap encP) := by unfold encS; rw [if_pos h]
  have hb : bytesOf (encS q) = [] ++ q.flatMap encP := by
    rw [e, List.nil_append]
    refine bytesOf_str (fun x hx => ?_)
    obtain ⟨p, hp, hx⟩ := List.mem_flatMap.1 hx
    exact encP_byte (List.all_eq_true.1 h p hp) x hx
  exact back q [] hb h _ (by simp)
end Go.Proofs.YtfiahgahphammaaDoor
