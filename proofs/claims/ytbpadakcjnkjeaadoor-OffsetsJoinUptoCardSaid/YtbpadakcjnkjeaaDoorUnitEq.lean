/-
The program's unit at a place is the document's. Plain Lean.
-/
import Derived.Test.YtbpadakcjnkjeaaDoorUnitLaw
namespace Go.Proofs.YtbpadakcjnkjeaaDoor
open Go Go.RowKit Go.Proofs.YtbpadakcjnkjeaaDoorW.PrintWords Go.Proofs.YtbpadakcjnkjeaaDoorW.PrintLast Go.Proofs.YtbpadakcjnkjeaaDoorW.PrintMore Go.Proofs.YtbpadakcjnkjeaaDoor.POffsetsPlay
set_option maxRecDepth 100000
/-- The good unit at a place: point and length. -/
def unitO (s : ByteArray) (i : Nat) : Option (Int × Nat) :=
  if (runR s i).1 = 0 ∨ (runR s i).1 < (runR s i).2.1 then none else some ((runR s i).2.2, (runR s i).1)
theorem enc1 {q a : Int} : encP q = [a] ↔ q < 128 ∧ q = a := by
  unfold encP
  repeat' split
  all_goals simp
  all_goals omega
theorem enc2 {q a b : Int} : encP q = [a, b] ↔ 128 ≤ q ∧ q < 2048 ∧ 192 + q / 64 = a ∧ 128 + q % 64 = b := by
  unfold encP
  repeat' split
  all_goals simp
  all_goals omega
theorem enc3 {q a b c : Int} : encP q = [a, b, c] ↔ 2048 ≤ q ∧ q < 65536 ∧ 224 + q / 4096 = a ∧ 128 + q / 64 % 64 = b ∧ 128 + q % 64 = c := by
  unfold encP
  repeat' split
  all_goals simp
  all_goals omega
theorem enc4 {q a b c d : Int} : encP q = [a, b, c, d] ↔ 65536 ≤ q ∧ 240 + q / 262144 = a ∧ 128 + q / 4096 % 64 = b ∧ 128 + q / 64 % 64 = c ∧ 128 + q % 64 = d := by
  unfold encP
  repeat' split
  all_goals simp
  all_goals omega
theorem isSc_iff (q : Int) : isSc q = true ↔ 0 ≤ q ∧ q ≤ 1114111 ∧ (q < 55296 ∨ 57343 < q) := by simp [isSc]
theorem lead_none {c : Int} (h : leadF c = none) : c < 194 ∨ 244 < c := by
  have h2 := List.find?_eq_none.1 h
  have a0 := h2 0 (by decide); have a1 := h2 1 (by decide); have a2 := h2 2 (by decide); have a3 := h2 3 (by decide)
  have a4 := h2 4 (by decide); have a5 := h2 5 (by decide); have a6 := h2 6 (by decide); have a7 := h2 7 (by decide)
  simp [formAt, formTab] at a0 a1 a2 a3 a4 a5 a6 a7
  omega
theorem lead_some {c : Int} {k : Nat} (h : leadF c = some k) : formAt k 0 ≤ c ∧ c ≤ formAt k 1 := by
  have := List.find?_some h
  simpa using this
theorem size_2 {c : Int} (h0 : 192 ≤ c) (h1 : c < 224) : sizeR c = 2 := by unfold sizeR; rw [if_neg (by omega), if_neg (by omega), if_pos h1]
theorem size_3 {c : Int} (h0 : 224 ≤ c) (h1 : c < 240) : sizeR c = 3 := by unfold sizeR; rw [if_neg (by omega), if_neg (by omega), if_neg (by omega), if_pos h1]
theorem size_4 {c : Int} (h0 : 240 ≤ c) (h1 : c < 248) : sizeR c = 4 := by unfold sizeR; rw [if_neg (by omega), if_neg (by omega), if_neg (by omega), if_neg (by omega), if_pos h1]
theorem size_0 {c : Int} (h0 : 128 ≤ c) (h : c < 192 ∨ 248 ≤ c) : sizeR c = 0 := by unfold sizeR; rw [if_neg (by omega)]; repeat' split; all_goals omega
theorem finP_none {s : ByteArray} {i n : Nat} {q : Int} (h : ¬ (isSc q = true ∧ encP q = bytesAt s i n)) : finP s i n q = (0, 0) := by rw [finP, if_neg h]
theorem finP_some {s : ByteArray} {i n : Nat} {q : Int} (h : isSc q = true ∧ encP q = bytesAt s i n) : finP s i n q = (q, (n : Int)) := by rw [finP, if_pos h]
theorem tail1 (s : ByteArray) (i n : Nat) (lo hi p : Int) : tailR s i 1 n lo hi p = if i + n < s.size ∧ lo ≤ bt s (i + n : Nat) ∧ bt s (i + n : Nat) ≤ hi then (n + 1, p * 64 + bt s (i + n : Nat) % 64) else (n, p) := rfl
theorem tailS (s : ByteArray) (i m n : Nat) (lo hi p : Int) : tailR s i (m + 1) n lo hi p = if i + n < s.size ∧ lo ≤ bt s (i + n : Nat) ∧ bt s (i + n : Nat) ≤ hi then tailR s i m (n + 1) 128 191 (p * 64 + bt s (i + n : Nat) % 64) else (n, p) := rfl
def optPair : Option (Int × Nat) → Int × Int
  | some (p, n) => (p, (n : Int))
  | none => (0, 0)
/-- What unit answers in each form: whole or not. -/
theorem run_some {s : ByteArray} {i k : Nat} (h : 128 ≤ bt s i) (hl : leadF (bt s i) = some k) : runR s i = ((tailR s i ((formAt k 4).toNat - 1) 1 (formAt k 2) (formAt k 3) (bt s i % (formAt k 5 + 1))).1, (formAt k 4).toNat, (tailR s i ((formAt k 4).toNat - 1) 1 (formAt k 2) (formAt k 3) (bt s i % (formAt k 5 + 1))).2) := by
  unfold runR; rw [if_neg (by omega), hl]
theorem run_none {s : ByteArray} {i : Nat} (h : 128 ≤ bt s i) (hl : leadF (bt s i) = none) : runR s i = (0, 0, 0) := by
  unfold runR; rw [if_neg (by omega), hl]
theorem run_ascii {s : ByteArray} {i : Nat} (h : bt s i < 128) : runR s i = (1, 1, bt s i) := by
  unfold runR; rw [if_pos h]
theorem unit_form2 {s : ByteArray} {i k : Nat} (h : 128 ≤ bt s i) (hl : leadF (bt s i) = some k) (hz : formAt k 4 = 2) :
    unitO s i = if i + 1 < s.size ∧ formAt k 2 ≤ bt s (i + 1 : Nat) ∧ bt s (i + 1 : Nat) ≤ formAt k 3 then some (bt s i % (formAt k 5 + 1) * 64 + bt s (i + 1 : Nat) % 64, 2) else none := by
  unfold unitO
  rw [run_some h hl]
  simp only [hz, show (2 : Int).toNat - 1 = 1 from rfl, tail1]
  by_cases hc : i + 1 < s.size ∧ formAt k 2 ≤ bt s (i + 1 : Nat) ∧ bt s (i + 1 : Nat) ≤ formAt k 3
  · simp only [if_pos hc]; simp
  · simp only [if_neg hc]; simp
theorem unit_form3 {s : ByteArray} {i k : Nat} (h : 128 ≤ bt s i) (hl : leadF (bt s i) = some k) (hz : formAt k 4 = 3) :
    unitO s i = if (i + 1 < s.size ∧ formAt k 2 ≤ bt s (i + 1 : Nat) ∧ bt s (i + 1 : Nat) ≤ formAt k 3) ∧ (i + 2 < s.size ∧ 128 ≤ bt s (i + 2 : Nat) ∧ bt s (i + 2 : Nat) ≤ 191) then some ((bt s i % (formAt k 5 + 1) * 64 + bt s (i + 1 : Nat) % 64) * 64 + bt s (i + 2 : Nat) % 64, 3) else none := by
  unfold unitO
  rw [run_some h hl]
  simp only [hz, show (3 : Int).toNat - 1 = 1 + 1 from rfl, tailS s i 1, tail1]
  by_cases hc : i + 1 < s.size ∧ formAt k 2 ≤ bt s (i + 1 : Nat) ∧ bt s (i + 1 : Nat) ≤ formAt k 3
  · simp only [if_pos hc]
    by_cases hd : i + (1 + 1) < s.size ∧ 128 ≤ bt s (i + (1 + 1) : Nat) ∧ bt s (i + (1 + 1) : Nat) ≤ 191
    · simp only [if_pos hd]; rw [if_neg (by decide), if_pos ⟨hc, hd⟩]
    · simp only [if_neg hd]; rw [if_pos (by decide), if_neg (fun h => hd h.2)]
  · simp only [if_neg hc]; rw [if_pos (by decide), if_neg (fun h => hc h.1)]
theorem unit_form4 {s : ByteArray} {i k : Nat} (h : 128 ≤ bt s i) (hl : leadF (bt s i) = some k) (hz : formAt k 4 = 4) :
    unitO s i = if (i + 1 < s.size ∧ formAt k 2 ≤ bt s (i + 1 : Nat) ∧ bt s (i + 1 : Nat) ≤ formAt k 3) ∧ (i + 2 < s.size ∧ 128 ≤ bt s (i + 2 : Nat) ∧ bt s (i + 2 : Nat) ≤ 191) ∧ (i + 3 < s.size ∧ 128 ≤ bt s (i + 3 : Nat) ∧ bt s (i + 3 : Nat) ≤ 191) then some (((bt s i % (formAt k 5 + 1) * 64 + bt s (i + 1 : Nat) % 64) * 64 + bt s (i + 2 : Nat) % 64) * 64 + bt s (i + 3 : Nat) % 64, 4) else none := by
  unfold unitO
  rw [run_some h hl]
  simp only [hz, show (4 : Int).toNat - 1 = 1 + 1 + 1 from rfl, tailS s i (1 + 1), tailS s i 1, tail1]
  by_cases hc : i + 1 < s.size ∧ formAt k 2 ≤ bt s (i + 1 : Nat) ∧ bt s (i + 1 : Nat) ≤ formAt k 3
  · simp only [if_pos hc]
    by_cases hd : i + (1 + 1) < s.size ∧ 128 ≤ bt s (i + (1 + 1) : Nat) ∧ bt s (i + (1 + 1) : Nat) ≤ 191
    · simp only [if_pos hd]
      by_cases he : i + (1 + 1 + 1) < s.size ∧ 128 ≤ bt s (i + (1 + 1 + 1) : Nat) ∧ bt s (i + (1 + 1 + 1) : Nat) ≤ 191
      · simp only [if_pos he]; rw [if_neg (by decide), if_pos ⟨hc, hd, he⟩]
      · simp only [if_neg he]; rw [if_pos (by decide), if_neg (fun h => he h.2.2)]
    · simp only [if_neg hd]; rw [if_pos (by decide), if_neg (fun h => hd h.2.1)]
  · simp only [if_neg hc]; rw [if_pos (by decide), if_neg (fun h => hc h.1)]
theorem unit_none {s : ByteArray} {i : Nat} (h : 128 ≤ bt s i) (hl : leadF (bt s i) = none) : unitO s i = none := by
  unfold unitO
  rw [run_none h hl]
  simp
theorem unit_ascii {s : ByteArray} {i : Nat} (h : bt s i < 128) : unitO s i = some (bt s i, 1) := by
  unfold unitO
  rw [run_ascii h]
  simp
theorem bytesAt1 (s : ByteArray) (i : Nat) : bytesAt s i 1 = [bt s i] := rfl
theorem bytesAt2 (s : ByteArray) (i : Nat) : bytesAt s i 2 = [bt s i, bt s (i + 1 : Nat)] := rfl
theorem bytesAt3 (s : ByteArray) (i : Nat) : bytesAt s i 3 = [bt s i, bt s (i + 1 : Nat), bt s (i + 2 : Nat)] := rfl
theorem bytesAt4 (s : ByteArray) (i : Nat) : bytesAt s i 4 = [bt s i, bt s (i + 1 : Nat), bt s (i + 2 : Nat), bt s (i + 3 : Nat)] := rfl
set_option maxHeartbeats 4000000 in
theorem good_unit (s : ByteArray) (i : Nat) (hi : i < s.size) : goodC s i = optPair (unitO s i) := by
  have b0 := bt_range s i
  have b1 := bt_range s (i + 1 : Nat)
  have b2 := bt_range s (i + 2 : Nat)
  have b3 := bt_range s (i + 3 : Nat)
  unfold goodC
  rw [if_neg (by omega)]
  by_cases h128 : bt s i < 128
  · rw [unit_ascii h128]
    have hz : sizeR (bt s i) = 1 := by unfold sizeR; rw [if_pos h128]
    rw [hz, if_neg (by omega), show (1 : Int).toNat = 1 from rfl]
    refine finP_some ⟨?_, ?_⟩
    · rw [isSc_iff]; show 0 ≤ bt s i ∧ bt s i ≤ 1114111 ∧ (bt s i < 55296 ∨ 57343 < bt s i); omega
    · rw [bytesAt1, enc1]; exact ⟨h128, rfl⟩
  · have h128' : 128 ≤ bt s i := by omega
    cases hl : leadF (bt s i) with
    | none =>
      rw [unit_none h128' hl]
      have hr := lead_none hl
      show _ = ((0, 0) : Int × Int)
      by_cases h1 : bt s i < 192 ∨ 248 ≤ bt s i
      · rw [size_0 h128' h1, if_pos (Or.inl rfl)]
      · by_cases h2 : bt s i < 194
        · rw [size_2 (by omega) (by omega)]
          by_cases hlt : (s.size : Int) < (i : Int) + 2
          · rw [if_pos (Or.inr hlt)]
          · rw [if_neg (by omega), show (2 : Int).toNat = 2 from rfl]
            refine finP_none (fun h => ?_)
            rw [bytesAt2, enc2, isSc_iff] at h
            simp only [foldP, leadR, if_pos] at h
            omega
        · rw [size_4 (by omega) (by omega)]
          by_cases hlt : (s.size : Int) < (i : Int) + 4
          · rw [if_pos (Or.inr hlt)]
          · rw [if_neg (by omega), show (4 : Int).toNat = 4 from rfl]
            refine finP_none (fun h => ?_)
            rw [bytesAt4, enc4, isSc_iff] at h
            simp only [foldP, leadR] at h
            simp at h
            omega
    | some k =>
      have hk := leadF_lt hl
      have hr := lead_some hl
      have h : k = 0 ∨ k = 1 ∨ k = 2 ∨ k = 3 ∨ k = 4 ∨ k = 5 ∨ k = 6 ∨ k = 7 := by omega
      rcases h with rfl | rfl | rfl | rfl | rfl | rfl | rfl | rfl
      · have f0 : formAt 0 0 = 194 := rfl
        have f1 : formAt 0 1 = 223 := rfl
        have f2 : formAt 0 2 = 128 := rfl
        have f3 : formAt 0 3 = 191 := rfl
        have f5 : formAt 0 5 = 31 := rfl
        rw [f0, f1] at hr
        rw [unit_form2 h128' hl rfl, f2, f3, f5, size_2 (by omega) (by omega), show (2 : Int).toNat = 2 from rfl]
        simp only [foldP, leadR, Nat.reduceEqDiff, Nat.reduceSub, if_true, if_false]
        by_cases hlt : (s.size : Int) < (i : Int) + 2
        · rw [if_pos (Or.inr hlt), if_neg (fun h => by omega)]
          rfl
        · rw [if_neg (by omega)]
          split
          · rename_i hc
            refine (finP_some ⟨?_, ?_⟩).trans ?_
            · rw [isSc_iff]
              omega
            · rw [bytesAt2, enc2]
              omega
            · refine Prod.ext ?_ rfl
              simp only [optPair]
              omega
          · rename_i hc
            refine finP_none (fun h => hc ?_)
            rw [bytesAt2, enc2, isSc_iff] at h
            omega
      · have f0 : formAt 1 0 = 224 := rfl
        have f1 : formAt 1 1 = 224 := rfl
        have f2 : formAt 1 2 = 160 := rfl
        have f3 : formAt 1 3 = 191 := rfl
        have f5 : formAt 1 5 = 15 := rfl
        rw [f0, f1] at hr
        rw [unit_form3 h128' hl rfl, f2, f3, f5, size_3 (by omega) (by omega), show (3 : Int).toNat = 3 from rfl]
        simp only [foldP, leadR, Nat.reduceEqDiff, Nat.reduceSub, Nat.reduceAdd, if_true, if_false]
        by_cases hlt : (s.size : Int) < (i : Int) + 3
        · rw [if_pos (Or.inr hlt), if_neg (fun h => by omega)]
          rfl
        · rw [if_neg (by omega)]
          split
          · rename_i hc
            refine (finP_some ⟨?_, ?_⟩).trans ?_
            · rw [isSc_iff]
              omega
            · rw [bytesAt3, enc3]
              omega
            · refine Prod.ext ?_ rfl
              simp only [optPair]
              omega
          · rename_i hc
            refine finP_none (fun h => hc ?_)
            rw [bytesAt3, enc3, isSc_iff] at h
            omega
      · have f0 : formAt 2 0 = 225 := rfl
        have f1 : formAt 2 1 = 236 := rfl
        have f2 : formAt 2 2 = 128 := rfl
        have f3 : formAt 2 3 = 191 := rfl
        have f5 : formAt 2 5 = 15 := rfl
        rw [f0, f1] at hr
        rw [unit_form3 h128' hl rfl, f2, f3, f5, size_3 (by omega) (by omega), show (3 : Int).toNat = 3 from rfl]
        simp only [foldP, leadR, Nat.reduceEqDiff, Nat.reduceSub, Nat.reduceAdd, if_true, if_false]
        by_cases hlt : (s.size : Int) < (i : Int) + 3
        · rw [if_pos (Or.inr hlt), if_neg (fun h => by omega)]
          rfl
        · rw [if_neg (by omega)]
          split
          · rename_i hc
            refine (finP_some ⟨?_, ?_⟩).trans ?_
            · rw [isSc_iff]
              omega
            · rw [bytesAt3, enc3]
              omega
            · refine Prod.ext ?_ rfl
              simp only [optPair]
              omega
          · rename_i hc
            refine finP_none (fun h => hc ?_)
            rw [bytesAt3, enc3, isSc_iff] at h
            omega
      · have f0 : formAt 3 0 = 237 := rfl
        have f1 : formAt 3 1 = 237 := rfl
        have f2 : formAt 3 2 = 128 := rfl
        have f3 : formAt 3 3 = 159 := rfl
        have f5 : formAt 3 5 = 15 := rfl
        rw [f0, f1] at hr
        rw [unit_form3 h128' hl rfl, f2, f3, f5, size_3 (by omega) (by omega), show (3 : Int).toNat = 3 from rfl]
        simp only [foldP, leadR, Nat.reduceEqDiff, Nat.reduceSub, Nat.reduceAdd, if_true, if_false]
        by_cases hlt : (s.size : Int) < (i : Int) + 3
        · rw [if_pos (Or.inr hlt), if_neg (fun h => by omega)]
          rfl
        · rw [if_neg (by omega)]
          split
          · rename_i hc
            refine (finP_some ⟨?_, ?_⟩).trans ?_
            · rw [isSc_iff]
              omega
            · rw [bytesAt3, enc3]
              omega
            · refine Prod.ext ?_ rfl
              simp only [optPair]
              omega
          · rename_i hc
            refine finP_none (fun h => hc ?_)
            rw [bytesAt3, enc3, isSc_iff] at h
            omega
      · have f0 : formAt 4 0 = 238 := rfl
        have f1 : formAt 4 1 = 239 := rfl
        have f2 : formAt 4 2 = 128 := rfl
        have f3 : formAt 4 3 = 191 := rfl
        have f5 : formAt 4 5 = 15 := rfl
        rw [f0, f1] at hr
        rw [unit_form3 h128' hl rfl, f2, f3, f5, size_3 (by omega) (by omega), show (3 : Int).toNat = 3 from rfl]
        simp only [foldP, leadR, Nat.reduceEqDiff, Nat.reduceSub, Nat.reduceAdd, if_true, if_false]
        by_cases hlt : (s.size : Int) < (i : Int) + 3
        · rw [if_pos (Or.inr hlt), if_neg (fun h => by omega)]
          rfl
        · rw [if_neg (by omega)]
          split
          · rename_i hc
            refine (finP_some ⟨?_, ?_⟩).trans ?_
            · rw [isSc_iff]
              omega
            · rw [bytesAt3, enc3]
              omega
            · refine Prod.ext ?_ rfl
              simp only [optPair]
              omega
          · rename_i hc
            refine finP_none (fun h => hc ?_)
            rw [bytesAt3, enc3, isSc_iff] at h
            omega
      · have f0 : formAt 5 0 = 240 := rfl
        have f1 : formAt 5 1 = 240 := rfl
        have f2 : formAt 5 2 = 144 := rfl
        have f3 : formAt 5 3 = 191 := rfl
        have f5 : formAt 5 5 = 7 := rfl
        rw [f0, f1] at hr
        rw [unit_form4 h128' hl rfl, f2, f3, f5, size_4 (by omega) (by omega), show (4 : Int).toNat = 4 from rfl]
        simp only [foldP, leadR, Nat.reduceEqDiff, Nat.reduceSub, Nat.reduceAdd, if_true, if_false]
        by_cases hlt : (s.size : Int) < (i : Int) + 4
        · rw [if_pos (Or.inr hlt), if_neg (fun h => by omega)]
          rfl
        · rw [if_neg (by omega)]
          split
          · rename_i hc
            refine (finP_some ⟨?_, ?_⟩).trans ?_
            · rw [isSc_iff]
              omega
            · rw [bytesAt4, enc4]
              omega
            · refine Prod.ext ?_ rfl
              simp only [optPair]
              omega
          · rename_i hc
            refine finP_none (fun h => hc ?_)
            rw [bytesAt4, enc4, isSc_iff] at h
            omega
      · have f0 : formAt 6 0 = 241 := rfl
        have f1 : formAt 6 1 = 243 := rfl
        have f2 : formAt 6 2 = 128 := rfl
        have f3 : formAt 6 3 = 191 := rfl
        have f5 : formAt 6 5 = 7 := rfl
        rw [f0, f1] at hr
        rw [unit_form4 h128' hl rfl, f2, f3, f5, size_4 (by omega) (by omega), show (4 : Int).toNat = 4 from rfl]
        simp only [foldP, leadR, Nat.reduceEqDiff, Nat.reduceSub, Nat.reduceAdd, if_true, if_false]
        by_cases hlt : (s.size : Int) < (i : Int) + 4
        · rw [if_pos (Or.inr hlt), if_neg (fun h => by omega)]
          rfl
        · rw [if_neg (by omega)]
          split
          · rename_i hc
            refine (finP_some ⟨?_, ?_⟩).trans ?_
            · rw [isSc_iff]
              omega
            · rw [bytesAt4, enc4]
              omega
            · refine Prod.ext ?_ rfl
              simp only [optPair]
              omega
          · rename_i hc
            refine finP_none (fun h => hc ?_)
            rw [bytesAt4, enc4, isSc_iff] at h
            omega
      · have f0 : formAt 7 0 = 244 := rfl
        have f1 : formAt 7 1 = 244 := rfl
        have f2 : formAt 7 2 = 128 := rfl
        have f3 : formAt 7 3 = 143 := rfl
        have f5 : formAt 7 5 = 7 := rfl
        rw [f0, f1] at hr
        rw [unit_form4 h128' hl rfl, f2, f3, f5, size_4 (by omega) (by omega), show (4 : Int).toNat = 4 from rfl]
        simp only [foldP, leadR, Nat.reduceEqDiff, Nat.reduceSub, Nat.reduceAdd, if_true, if_false]
        by_cases hlt : (s.size : Int) < (i : Int) + 4
        · rw [if_pos (Or.inr hlt), if_neg (fun h => by omega)]
          rfl
        · rw [if_neg (by omega)]
          split
          · rename_i hc
            refine (finP_some ⟨?_, ?_⟩).trans ?_
            · rw [isSc_iff]
              omega
            · rw [bytesAt4, enc4]
              omega
            · refine Prod.ext ?_ rfl
              simp only [optPair]
              omega
          · rename_i hc
            refine finP_none (fun h => hc ?_)
            rw [bytesAt4, enc4, isSc_iff] at h
            omega
end Go.Proofs.YtbpadakcjnkjeaaDoor
