/-
The document's begins and Cut over the printed functions: what the program's run says. Plain Lean.
-/
import Derived.Test.YtfiahgahphammaaDoorUnitEq
namespace Go.Proofs.YtfiahgahphammaaDoor
open Go Go.RowKit Go.Proofs.YtfiahgahphammaaDoorW.PrintWords Go.Proofs.YtfiahgahphammaaDoorW.PrintLast Go.Proofs.YtfiahgahphammaaDoorW.PrintMore Go.Proofs.YtfiahgahphammaaDoor.PUnitsCuts
theorem size_of {u : ByteArray} {l : List Int} (h : bytesOf u = l) : u.size = l.length := by rw [← h, bytesOf_length]
theorem bt_of {u : ByteArray} {l : List Int} (h : bytesOf u = l) (j : Nat) : bt u j = l.getD j 0 := by rw [← rd_bytesOf, h]; rfl
theorem lead_size {a : Int} {k : Nat} (h : leadF a = some k) : sizeR a = formAt k 4 ∧ 128 ≤ a := by
  have hk := leadF_lt h
  have hr := lead_some h
  have h : k = 0 ∨ k = 1 ∨ k = 2 ∨ k = 3 ∨ k = 4 ∨ k = 5 ∨ k = 6 ∨ k = 7 := by omega
  rcases h with rfl | rfl | rfl | rfl | rfl | rfl | rfl | rfl <;> simp only [formAt, formTab, List.getD_cons_zero, List.getD_cons_succ] at hr ⊢
  · exact ⟨size_2 (by omega) (by omega), by omega⟩
  · exact ⟨size_3 (by omega) (by omega), by omega⟩
  · exact ⟨size_3 (by omega) (by omega), by omega⟩
  · exact ⟨size_3 (by omega) (by omega), by omega⟩
  · exact ⟨size_3 (by omega) (by omega), by omega⟩
  · exact ⟨size_4 (by omega) (by omega), by omega⟩
  · exact ⟨size_4 (by omega) (by omega), by omega⟩
  · exact ⟨size_4 (by omega) (by omega), by omega⟩
theorem opt_ne {c : Prop} [Decidable c] {p : Int} {n : Nat} {m : Int} (h : (n : Int) ≠ m) (h0 : 0 ≠ m) : (optPair (if c then some (p, n) else none)).2 ≠ m := by
  split
  · exact h
  · exact h0
theorem tail_stop {s : ByteArray} {i n : Nat} {lo hi p : Int} (h : ¬ (i + n < s.size ∧ lo ≤ bt s (i + n : Nat) ∧ bt s (i + n : Nat) ≤ hi)) : ∀ m, tailR s i m n lo hi p = (n, p)
  | 0 => rfl
  | m + 1 => by rw [tailR, if_neg h]
theorem tail_go {s : ByteArray} {i n m : Nat} {lo hi p : Int} (h : i + n < s.size ∧ lo ≤ bt s (i + n : Nat) ∧ bt s (i + n : Nat) ≤ hi) : tailR s i (m + 1) n lo hi p = tailR s i m (n + 1) 128 191 (p * 64 + bt s (i + n : Nat) % 64) := by rw [tailR, if_pos h]
theorem tail_le {s : ByteArray} {i : Nat} : ∀ (m n : Nat) (lo hi p : Int), (tailR s i m n lo hi p).1 ≤ n + m ∧ n ≤ (tailR s i m n lo hi p).1
  | 0, n, _, _, _ => by simp [tailR]
  | m + 1, n, lo, hi, p => by
    rw [tailR]
    split
    · have := tail_le (s := s) (i := i) m (n + 1) 128 191 (p * 64 + bt s (i + n : Nat) % 64)
      omega
    · simp
/-- A padded beginning is good where its bytes are those of its lead's form. -/
def okRest (k : Nat) : List Int → Bool
  | [] => true
  | b :: r => decide (formAt k 2 ≤ b ∧ b ≤ formAt k 3) && r.all fun c => decide (128 ≤ c ∧ c ≤ 191)
theorem pad_good {u : ByteArray} {a : Int} {r : List Int} (h : bytesOf u = a :: r) (hr1 : 1 ≤ r.length) (hr3 : r.length ≤ 3) (h128 : 128 ≤ a) :
    (goodC u 0).2 = r.length + 1 ↔ ∃ k, leadF a = some k ∧ formAt k 4 = r.length + 1 ∧ okRest k r = true := by
  have hs := size_of h
  have e0 := bt_of h 0
  have e1 := bt_of h 1
  have e2 := bt_of h 2
  have e3 := bt_of h 3
  simp only [List.length_cons] at hs
  simp only [List.getD_cons_zero, List.getD_cons_succ] at e0 e1 e2 e3
  rw [good_unit u 0 (by omega)]
  cases hl : leadF a with
  | none =>
    rw [unit_none (by rw [e0]; exact h128) (by rw [e0]; exact hl)]
    simp [optPair]
    omega
  | some k =>
    have hf := form_facts k (leadF_lt hl)
    have hz : formAt k 4 = 2 ∨ formAt k 4 = 3 ∨ formAt k 4 = 4 := by omega
    have l0 : leadF (bt u (0 : Nat)) = some k := by rw [e0]; exact hl
    have g0 : 128 ≤ bt u (0 : Nat) := by rw [e0]; exact h128
    rcases hz with hz | hz | hz
    · rw [unit_form2 g0 l0 hz]
      match r, hr1, hr3, hs, e1, e2, e3 with
      | [b], _, _, hs, e1, _, _ =>
        simp only [Nat.zero_add, e1, List.getD_cons_zero]
        simp only [List.length_cons, List.length_nil] at hs
        by_cases hc : formAt k 2 ≤ b ∧ b ≤ formAt k 3
        · rw [if_pos ⟨by omega, hc⟩]
          simp [optPair, hz, okRest, hc]
        · rw [if_neg (fun h => hc h.2)]
          simp [optPair, hz, okRest]
          omega
      | [b, c], _, _, hs, e1, _, _ => exact ⟨fun h' => absurd h' (opt_ne (by simp) (by simp)), by simp [hz]⟩
      | [b, c, d], _, _, hs, e1, _, _ => exact ⟨fun h' => absurd h' (opt_ne (by simp) (by simp)), by simp [hz]⟩
    · rw [unit_form3 g0 l0 hz]
      match r, hr1, hr3, hs, e1, e2, e3 with
      | [b], _, _, hs, e1, e2, _ =>
        simp only [List.length_cons, List.length_nil] at hs
        rw [if_neg (fun h => by omega)]
        simp [optPair, hz]
      | [b, c], _, _, hs, e1, e2, _ =>
        simp only [Nat.zero_add, e1, e2, List.getD_cons_zero, List.getD_cons_succ]
        simp only [List.length_cons, List.length_nil] at hs
        by_cases hc : (formAt k 2 ≤ b ∧ b ≤ formAt k 3) ∧ (128 ≤ c ∧ c ≤ 191)
        · rw [if_pos ⟨⟨by omega, hc.1⟩, by omega, hc.2⟩]
          simp [optPair, hz, okRest, hc]
        · rw [if_neg (fun h => hc ⟨h.1.2, h.2.2⟩)]
          simp [optPair, hz, okRest]
          omega
      | [b, c, d], _, _, hs, e1, _, _ => exact ⟨fun h' => absurd h' (opt_ne (by simp) (by simp)), by simp [hz]⟩
    · rw [unit_form4 g0 l0 hz]
      match r, hr1, hr3, hs, e1, e2, e3 with
      | [b], _, _, hs, e1, e2, _ =>
        simp only [List.length_cons, List.length_nil] at hs
        rw [if_neg (fun h => by omega)]
        simp [optPair, hz]
      | [b, c], _, _, hs, e1, e2, _ =>
        simp only [List.length_cons, List.length_nil] at hs
        rw [if_neg (fun h => by omega)]
        simp [optPair, hz]
      | [b, c, d], _, _, hs, e1, e2, e3 =>
        simp only [Nat.zero_add, e1, e2, e3, List.getD_cons_zero, List.getD_cons_succ]
        simp only [List.length_cons, List.length_nil] at hs
        by_cases hc : (formAt k 2 ≤ b ∧ b ≤ formAt k 3) ∧ (128 ≤ c ∧ c ≤ 191) ∧ (128 ≤ d ∧ d ≤ 191)
        · rw [if_pos ⟨⟨by omega, hc.1⟩, ⟨by omega, hc.2.1⟩, by omega, hc.2.2⟩]
          simp [optPair, hz, okRest, hc]
        · rw [if_neg (fun h => hc ⟨h.1.2, h.2.1.2, h.2.2.2⟩)]
          simp [optPair, hz, okRest]
          omega
/-- What run says of a whole text: it is the beginning of a longer sequence. -/
def longer (t : ByteArray) (i : Nat) : Prop := (runR t i).1 = t.size - i ∧ (runR t i).1 < (runR t i).2.1
theorem run_longer {t : ByteArray} {a : Int} {r : List Int} (h : bytesOf t = a :: r) (hr : r.length ≤ 2) :
    longer t 0 ↔ ∃ k, leadF a = some k ∧ (r.length : Int) + 1 < formAt k 4 ∧ 128 ≤ a ∧ okRest k r = true := by
  have hs := size_of h
  have e0 := bt_of h 0
  have e1 := bt_of h 1
  have e2 := bt_of h 2
  simp only [List.length_cons] at hs
  simp only [List.getD_cons_zero, List.getD_cons_succ] at e0 e1 e2
  unfold longer
  by_cases h128 : a < 128
  · rw [run_ascii (by rw [e0]; exact h128)]
    simp
    intro k hk h1 h2
    omega
  · cases hl : leadF a with
    | none =>
      rw [run_none (by rw [e0]; omega) (by rw [e0]; exact hl)]
      simp
    | some k =>
      have hf := form_facts k (leadF_lt hl)
      rw [run_some (by rw [e0]; omega) (by rw [e0]; exact hl)]
      obtain ⟨z, hz⟩ : ∃ z : Nat, formAt k 4 = z := ⟨(formAt k 4).toNat, by omega⟩
      rw [hz] at hf
      simp only [hz, Int.toNat_natCast, Nat.sub_zero, hs]
      obtain ⟨m, rfl⟩ : ∃ m, z = m + 2 := ⟨z - 2, by omega⟩
      rw [show m + 2 - 1 = m + 1 by omega]
      match r, hr, hs, e1, e2 with
      | [], _, hs, _, _ =>
        simp only [List.length_nil] at hs
        rw [tail_stop (fun h => by omega)]
        simp [hz, okRest]
        omega
      | [b], _, hs, e1, _ =>
        simp only [List.length_cons, List.length_nil, List.getD_cons_zero] at hs e1
        by_cases hc : formAt k 2 ≤ b ∧ b ≤ formAt k 3
        · rw [tail_go ⟨by omega, by rw [Nat.zero_add, e1]; exact hc⟩, tail_stop (fun h => by omega)]
          simp [hz, okRest, hc]
          omega
        · rw [tail_stop (fun h => hc (by rw [Nat.zero_add, e1] at h; exact h.2))]
          simp [hz, okRest]
          omega
      | [b, c], _, hs, e1, e2 =>
        simp only [List.length_cons, List.length_nil, List.getD_cons_zero, List.getD_cons_succ] at hs e1 e2
        by_cases hc : formAt k 2 ≤ b ∧ b ≤ formAt k 3
        · rw [tail_go ⟨by omega, by rw [Nat.zero_add, e1]; exact hc⟩]
          by_cases hd : 128 ≤ c ∧ c ≤ 191
          · match m, hz, hf with
            | 0, hz, hf =>
              simp [tailR, hz]
            | m + 1, hz, hf =>
              rw [tail_go ⟨by omega, by rw [Nat.zero_add, e2]; exact hd⟩, tail_stop (fun h => by omega)]
              simp [hz, okRest, hc, hd]
              omega
          · rw [tail_stop (fun h => hd (by rw [Nat.zero_add, e2] at h; exact h.2))]
            simp [hz, okRest]
            omega
        · rw [tail_stop (fun h => hc (by rw [Nat.zero_add, e1] at h; exact h.2))]
          simp [hz, okRest]
          omega
end Go.Proofs.YtfiahgahphammaaDoor
