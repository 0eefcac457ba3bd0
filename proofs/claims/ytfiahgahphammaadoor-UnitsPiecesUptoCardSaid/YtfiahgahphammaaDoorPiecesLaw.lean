/-
Pieces of a text: the units of a beginning, but for what Cut says of its end, are units of the whole. Plain Lean.
-/
import Derived.Test.YtfiahgahphammaaDoorBound
import Derived.Test.YtfiahgahphammaaDoorCutLaw2
namespace Go.Proofs.YtfiahgahphammaaDoor
open Go Go.RowKit Go.Proofs.YtfiahgahphammaaDoorW.PrintWords Go.Proofs.YtfiahgahphammaaDoorW.PrintLast Go.Proofs.YtfiahgahphammaaDoorW.PrintMore
/-- A good unit stays one wherever its bytes lie. -/
theorem good_ext {s t : ByteArray} {i j n : Nat} {p : Int} (h : unitO s i = some (p, n)) (hi : i < s.size) (hb : ∀ m, m < n → bt t (j + m : Nat) = bt s (i + m : Nat)) (hn : j + n ≤ t.size) : unitO t j = some (p, n) := by
  have hgb := good_bytes h hi
  have b0 := hb 0 (by omega)
  simp only [Nat.add_zero] at b0
  by_cases h128 : bt s i < 128
  · rw [unit_ascii h128] at h
    cases h
    rw [unit_ascii (by rw [b0]; exact h128), b0]
  · cases hl : leadF (bt s i) with
    | none => rw [unit_none (by omega) hl] at h; cases h
    | some k =>
      have hk := leadF_lt hl
      have hf := form_facts k hk
      have hlt : leadF (bt t j) = some k := by rw [b0]; exact hl
      have h128t : 128 ≤ bt t j := by rw [b0]; omega
      have hz : formAt k 4 = 2 ∨ formAt k 4 = 3 ∨ formAt k 4 = 4 := by omega
      rcases hz with hz | hz | hz
      · rw [unit_form2 (by omega) hl hz] at h
        split at h
        · rename_i hc
          cases h
          have b1 := hb 1 (by omega)
          rw [unit_form2 h128t hlt hz, b0, b1, if_pos ⟨by omega, hc.2⟩]
        · cases h
      · rw [unit_form3 (by omega) hl hz] at h
        split at h
        · rename_i hc
          cases h
          have b1 := hb 1 (by omega)
          have b2 := hb 2 (by omega)
          rw [unit_form3 h128t hlt hz, b0, b1, b2, if_pos ⟨⟨by omega, hc.1.2⟩, by omega, hc.2.2⟩]
        · cases h
      · rw [unit_form4 (by omega) hl hz] at h
        split at h
        · rename_i hc
          cases h
          have b1 := hb 1 (by omega)
          have b2 := hb 2 (by omega)
          have b3 := hb 3 (by omega)
          rw [unit_form4 h128t hlt hz, b0, b1, b2, b3, if_pos ⟨⟨by omega, hc.1.2⟩, ⟨by omega, hc.2.1.2⟩, by omega, hc.2.2.2⟩]
        · cases h
/-- The same bytes, the same unit; both ends being where they are. -/
theorem unitO_same {s t : ByteArray} {i j : Nat} (hi : i < s.size) (hj : j < t.size) (hz : s.size - i = t.size - j) (hb : ∀ m, i + m < s.size → bt t (j + m : Nat) = bt s (i + m : Nat)) : unitO t j = unitO s i := by
  cases hs : unitO s i with
  | some x =>
    obtain ⟨p, n⟩ := x
    have hg := good_bytes hs hi
    exact good_ext hs hi (fun m hm => hb m (by omega)) (by omega)
  | none =>
    cases ht : unitO t j with
    | none => rfl
    | some x =>
      obtain ⟨p, n⟩ := x
      have hg := good_bytes ht hj
      have := good_ext (t := s) (j := i) ht hj (fun m hm => (hb m (by omega)).symm) (by omega)
      rw [hs] at this
      cases this
theorem same_unit {s t : ByteArray} {i j : Nat} (h : unitO t j = unitO s i) : unitPt t j = unitPt s i ∧ unitLen t j = unitLen s i := by
  unfold unitPt unitLen
  rw [h]
  exact ⟨rfl, rfl⟩
/-- Cut's answer. -/
theorem cutAux_le (s : ByteArray) : ∀ b, cutAux s b ≤ b
  | 0 => Nat.le_refl _
  | b + 1 => by
    rw [cutAux]
    split
    · exact Nat.le_refl _
    · have := cutAux_le s b; omega
theorem cutAux_longer (s : ByteArray) : ∀ b, 0 < cutAux s b → longer s (s.size - cutAux s b)
  | 0, h => by simp [cutAux] at h
  | b + 1, h => by
    rw [cutAux] at h ⊢
    split
    · rename_i hl; exact hl
    · rename_i hl; rw [if_neg hl] at h; exact cutAux_longer s b h
theorem cutAux_not (s : ByteArray) : ∀ b d, cutAux s b < d → d ≤ b → ¬ longer s (s.size - d)
  | 0, d, h1, h2 => by omega
  | b + 1, d, h1, h2 => by
    rw [cutAux] at h1
    split at h1
    · omega
    · rename_i hl
      by_cases hd : d = b + 1
      · subst hd; exact hl
      · exact cutAux_not s b d h1 (by omega)
theorem cut_le (s : ByteArray) : cutR s ≤ 3 ∧ cutR s ≤ s.size := by
  have := cutAux_le s (min 3 s.size)
  unfold cutR
  omega
/-- Bytes of a text from a place on, as a list. -/
theorem bytes_from (s : ByteArray) (i : Nat) (h : i < s.size) : bytesOf (s.extract i s.size) = bt s i :: (List.range (s.size - i - 1)).map fun j => bt s (i + 1 + j : Nat) := by
  rw [bytesOf_drop s i (by omega), show s.size - i = (s.size - i - 1) + 1 by omega, List.range_succ_eq_map, List.map_cons, List.map_map]
  congr 1
  apply List.map_congr_left
  intro j _
  simp only [Function.comp, Nat.succ_eq_add_one]
  congr 2
  omega
theorem longer_lead {s : ByteArray} {i : Nat} (hi : i < s.size) (h3 : s.size - i ≤ 3) (h : longer s i) : 194 ≤ bt s i := by
  rw [← longer_drop s i hi, run_longer (bytes_from s i hi) (by simp; omega)] at h
  obtain ⟨k, hk, _⟩ := h
  have := lead_some hk
  have := form_lohi k (leadF_lt hk)
  omega
/-- A good unit that goes on over the end of a beginning: the beginning's end is that of a longer one. -/
theorem longer_of {s t : ByteArray} {i n : Nat} {p : Int} (h : unitO t i = some (p, n)) (hi : i < s.size) (ht : s.size ≤ t.size) (hb : ∀ m, m < s.size → bt t m = bt s m) (hn : s.size < i + n) : longer s i := by
  have hit : i < t.size := by omega
  have hg := good_bytes h hit
  have hbi : ∀ m, i + m < s.size → bt t (i + m : Nat) = bt s (i + m : Nat) := fun m hm => hb (i + m) hm
  have b0 := hb i hi
  by_cases h128 : bt t i < 128
  · rw [unit_ascii h128] at h
    cases h
    omega
  · cases hl : leadF (bt t i) with
    | none => rw [unit_none (by omega) hl] at h; cases h
    | some k =>
      have hk := leadF_lt hl
      have hf := form_facts k hk
      rw [← longer_drop s i hi, run_longer (bytes_from s i hi) (by simp; omega)]
      have hz : formAt k 4 = 2 ∨ formAt k 4 = 3 ∨ formAt k 4 = 4 := by omega
      have hd : s.size - i = 1 ∨ s.size - i = 2 ∨ s.size - i = 3 := by omega
      refine ⟨k, by rw [← b0]; exact hl, ?_, by rw [← b0]; omega, ?_⟩
      · simp only [List.length_map, List.length_range]
        rcases hz with hz | hz | hz
        · rw [unit_form2 (by omega) hl hz] at h
          split at h
          · cases h; omega
          · cases h
        · rw [unit_form3 (by omega) hl hz] at h
          split at h
          · cases h; omega
          · cases h
        · rw [unit_form4 (by omega) hl hz] at h
          split at h
          · cases h; omega
          · cases h
      · have c1 : 2 ≤ s.size - i → bt s (i + 1 : Nat) = bt t (i + 1 : Nat) := fun h => (hbi 1 (by omega)).symm
        have c2 : 3 ≤ s.size - i → bt s (i + 2 : Nat) = bt t (i + 2 : Nat) := fun h => (hbi 2 (by omega)).symm
        have e1 : s.size - i = 1 → (List.range (s.size - i - 1)).map (fun j => bt s (i + 1 + j : Nat)) = [] := fun e => by rw [e]; rfl
        have e2 : s.size - i = 2 → (List.range (s.size - i - 1)).map (fun j => bt s (i + 1 + j : Nat)) = [bt s (i + 1 : Nat)] := fun e => by rw [e]; rfl
        have e3 : s.size - i = 3 → (List.range (s.size - i - 1)).map (fun j => bt s (i + 1 + j : Nat)) = [bt s (i + 1 : Nat), bt s (i + 2 : Nat)] := fun e => by rw [e]; rfl
        rcases hz with hz | hz | hz
        · rw [unit_form2 (by omega) hl hz] at h
          split at h
          · cases h
            rw [e1 (by omega)]; rfl
          · cases h
        · rw [unit_form3 (by omega) hl hz] at h
          split at h
          · rename_i hc
            cases h
            rcases hd with hd | hd | hd
            · rw [e1 hd]; rfl
            · rw [e2 hd, c1 (by omega)]
              simp only [okRest, List.all_nil, Bool.and_true, decide_eq_true_eq]
              exact hc.1.2
            · omega
          · cases h
        · rw [unit_form4 (by omega) hl hz] at h
          split at h
          · rename_i hc
            cases h
            rcases hd with hd | hd | hd
            · rw [e1 hd]; rfl
            · rw [e2 hd, c1 (by omega)]
              simp only [okRest, List.all_nil, Bool.and_true, decide_eq_true_eq]
              exact hc.1.2
            · rw [e3 hd, c1 (by omega), c2 (by omega)]
              simp only [okRest, List.all_nil, List.all_cons, Bool.and_true, Bool.and_eq_true, decide_eq_true_eq]
              exact ⟨hc.1.2, hc.2.1.2⟩
          · cases h
end Go.Proofs.YtfiahgahphammaaDoor
