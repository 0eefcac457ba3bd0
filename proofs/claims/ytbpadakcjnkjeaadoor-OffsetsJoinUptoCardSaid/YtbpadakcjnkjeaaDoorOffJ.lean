/-
Several texts as one: Bound, CutLaw, BackLaw, OffBackLaw, OffKnown, OffJoinLaw, OffPoints, OffJoinW.
-/
import Derived.Test.YtbpadakcjnkjeaaDoorSplit
import Derived.Test.YtbpadakcjnkjeaaDoorUnitEq
import Derived.Test.YtbpadakcjnkjeaaDoorEnc2
import Derived.Test.YtbpadakcjnkjeaaDoorOffC
import Derived.Test.YtbpadakcjnkjeaaDoorPick
/- Where units begin and end: a place is one where no unit of more than one byte goes on over it. Plain Lean. -/
namespace Go.Proofs.YtbpadakcjnkjeaaDoor
open Go Go.RowKit Go.Proofs.YtbpadakcjnkjeaaDoorW.PrintWords Go.Proofs.YtbpadakcjnkjeaaDoorW.PrintLast Go.Proofs.YtbpadakcjnkjeaaDoorW.PrintMore
set_option maxRecDepth 100000
/-- A unit, whole. -/
def unitTr (s : ByteArray) (i : Nat) : Int × Int × Int := (unitPt s i, (i : Int), (i : Int) + (unitLen s i : Int))
theorem form_lohi (k : Nat) (hk : k < 8) : 128 ≤ formAt k 2 ∧ formAt k 3 ≤ 191 ∧ 194 ≤ formAt k 0 := by
  have h : k = 0 ∨ k = 1 ∨ k = 2 ∨ k = 3 ∨ k = 4 ∨ k = 5 ∨ k = 6 ∨ k = 7 := by omega
  rcases h with rfl | rfl | rfl | rfl | rfl | rfl | rfl | rfl <;> decide
/-- What a good unit's bytes are. -/
theorem good_bytes {s : ByteArray} {i n : Nat} {p : Int} (h : unitO s i = some (p, n)) (hi : i < s.size) : 0 ≤ p ∧ 1 ≤ n ∧ n ≤ 4 ∧ i + n ≤ s.size ∧ (∀ j, 1 ≤ j → j < n → 128 ≤ bt s (i + j : Nat) ∧ bt s (i + j : Nat) ≤ 191) ∧ (2 ≤ n → 194 ≤ bt s i) := by
  have hb := bt_range s i
  by_cases h128 : bt s i < 128
  · rw [unit_ascii h128] at h
    cases h
    exact ⟨hb.1, by omega, by omega, by omega, fun j h1 h2 => by omega, fun h => by omega⟩
  · cases hl : leadF (bt s i) with
    | none => rw [unit_none (by omega) hl] at h; cases h
    | some k =>
      have hk := leadF_lt hl
      have hf := form_facts k hk
      have hlo := form_lohi k hk
      have hls := lead_some hl
      have hz : formAt k 4 = 2 ∨ formAt k 4 = 3 ∨ formAt k 4 = 4 := by omega
      have hm : 0 ≤ bt s i % (formAt k 5 + 1) := Int.emod_nonneg _ (by omega)
      rcases hz with hz | hz | hz
      · rw [unit_form2 (by omega) hl hz] at h
        split at h
        · rename_i hc
          cases h
          refine ⟨by omega, by omega, by omega, by omega, fun j h1 h2 => ?_, fun _ => by omega⟩
          obtain rfl : j = 1 := by omega
          omega
        · cases h
      · rw [unit_form3 (by omega) hl hz] at h
        split at h
        · rename_i hc
          cases h
          refine ⟨by omega, by omega, by omega, by omega, fun j h1 h2 => ?_, fun _ => by omega⟩
          have : j = 1 ∨ j = 2 := by omega
          rcases this with rfl | rfl <;> omega
        · cases h
      · rw [unit_form4 (by omega) hl hz] at h
        split at h
        · rename_i hc
          cases h
          refine ⟨by omega, by omega, by omega, by omega, fun j h1 h2 => ?_, fun _ => by omega⟩
          have : j = 1 ∨ j = 2 ∨ j = 3 := by omega
          rcases this with rfl | rfl | rfl <;> omega
        · cases h
theorem pt_good {s : ByteArray} {i : Nat} (hi : i < s.size) : unitPt s i ≠ -1 ↔ ∃ p n, unitO s i = some (p, n) := by
  unfold unitPt
  cases h : unitO s i with
  | none => simp
  | some x =>
    obtain ⟨p, n⟩ := x
    have := (good_bytes h hi).1
    simp
    omega
/-- A place over which a good unit goes on. -/
def cov (s : ByteArray) (q at_ : Nat) : Prop := unitPt s q ≠ -1 ∧ q < at_ ∧ at_ < q + unitLen s q
theorem len_one {s : ByteArray} {i : Nat} (hi : i < s.size) (h : 2 ≤ unitLen s i) : unitPt s i ≠ -1 := by
  rw [pt_good hi]
  unfold unitLen at h
  cases hu : unitO s i with
  | none => rw [hu] at h; exact absurd h (by decide)
  | some x => exact ⟨x.1, x.2, rfl⟩
theorem cov_bytes {s : ByteArray} {q at_ : Nat} (hq : q < s.size) (h : cov s q at_) : 128 ≤ bt s at_ ∧ bt s at_ ≤ 191 ∧ 194 ≤ bt s q ∧ q + unitLen s q ≤ s.size := by
  obtain ⟨h1, h2, h3⟩ := h
  obtain ⟨p, n, hu⟩ := (pt_good hq).1 h1
  have hl : unitLen s q = n := by unfold unitLen; rw [hu]
  rw [hl] at h3
  obtain ⟨_, _, _, g4, g5, g6⟩ := good_bytes hu hq
  have := g5 (at_ - q) (by omega) (by omega)
  rw [show q + (at_ - q) = at_ by omega] at this
  rw [hl]
  exact ⟨this.1, this.2, g6 (by omega), g4⟩
/-- From place i on, a unit begins at j. -/
inductive Begins (s : ByteArray) (i : Nat) : Nat → Prop
  | here : Begins s i i
  | next {j : Nat} : Begins s i j → j < s.size → Begins s i (j + unitLen s j)
theorem Begins.le {s : ByteArray} {i j : Nat} (h : Begins s i j) : i ≤ j := by
  induction h with
  | here => exact Nat.le_refl _
  | next _ _ ih => omega
theorem Begins.apart {s : ByteArray} {i j k : Nat} (hj : Begins s i j) (hk : Begins s i k) (hlt : j < k) : j + unitLen s j ≤ k := by
  induction hk with
  | here => have := hj.le; omega
  | next h1 h2 ih =>
    rename_i k'
    have := (unitLen_pos s k').1
    by_cases h : j < k'
    · have := ih h; omega
    · by_cases h3 : j = k'
      · subst h3; exact Nat.le_refl _
      · -- k' < j < k' + len: j would lie inside
        exfalso
        have : ∀ m, Begins s i m → k' < m → k' + unitLen s k' ≤ m := by
          intro m hm
          induction hm with
          | here => intro h4; have := h1.le; omega
          | next h5 h6 ih2 =>
            rename_i m'
            intro h4
            by_cases h7 : k' < m'
            · have := ih2 h7; omega
            · by_cases h8 : k' = m'
              · subst h8; exact Nat.le_refl _
              · -- m' < k' < m' + len m'
                have hm' : m' < k' := by omega
                exact absurd (Begins.apart h5 h1 hm') (by omega)
        have := this j hj (by omega)
        omega
theorem Begins.trans {s : ByteArray} {i j k : Nat} (h : Begins s i j) (h2 : Begins s j k) : Begins s i k := by
  induction h2 with
  | here => exact h
  | next _ hlt ih => exact ih.next hlt
theorem begins_cons {s : ByteArray} {i k : Nat} : Begins s i k ↔ k = i ∨ (i < s.size ∧ Begins s (i + unitLen s i) k) := by
  constructor
  · intro h
    induction h with
    | here => exact Or.inl rfl
    | next h hlt ih =>
      rcases ih with rfl | ⟨h1, h2⟩
      · exact Or.inr ⟨hlt, Begins.here⟩
      · exact Or.inr ⟨h1, h2.next hlt⟩
  · rintro (rfl | ⟨h1, h2⟩)
    · exact Begins.here
    · exact (Begins.here.next h1).trans h2
/-- Each place lies in a unit. -/
theorem in_unit (s : ByteArray) (i : Nat) : ∀ d, i + d < s.size → ∃ q, Begins s i q ∧ q ≤ i + d ∧ i + d < q + unitLen s q
  | 0, h => ⟨i, Begins.here, by omega, by have := (unitLen_pos s i).1; omega⟩
  | d + 1, h => by
    obtain ⟨q, h1, h2, h3⟩ := in_unit s i d (by omega)
    by_cases hlt : i + (d + 1) < q + unitLen s q
    · exact ⟨q, h1, by omega, hlt⟩
    · exact ⟨q + unitLen s q, h1.next (by omega), by omega, by have := (unitLen_pos s (q + unitLen s q)).1; omega⟩
theorem in_unit0 (s : ByteArray) (a : Nat) (h : a < s.size) : ∃ q, Begins s 0 q ∧ q ≤ a ∧ a < q + unitLen s q := by
  have := in_unit s 0 a (by omega)
  simpa using this
theorem begins_iff {s : ByteArray} {a : Nat} (ha : a < s.size) : Begins s 0 a ↔ ¬ ∃ q, q < a ∧ cov s q a := by
  constructor
  · rintro hB ⟨q, hq, hc⟩
    obtain ⟨r, h1, h2, h3⟩ := in_unit0 s q (by omega)
    by_cases hr : r = q
    · subst hr
      have := h1.apart hB hq
      have := hc.2.2
      omega
    · have hcr : cov s r q := ⟨len_one (by omega) (by omega), by omega, h3⟩
      have g1 := cov_bytes (by omega) hcr
      have g2 := cov_bytes (by omega) hc
      omega
  · intro h
    obtain ⟨q, h1, h2, h3⟩ := in_unit0 s a ha
    by_cases hq : q = a
    · exact hq ▸ h1
    · exact absurd ⟨q, by omega, len_one (by omega) (by omega), by omega, h3⟩ h
theorem unit_end {s : ByteArray} {q : Nat} (hq : q < s.size) : q + unitLen s q ≤ s.size := by
  unfold unitLen
  cases hu : unitO s q with
  | none => exact hq
  | some x =>
    obtain ⟨p, n⟩ := x
    exact (good_bytes hu hq).2.2.2.1
/-- A unit ends at a place. -/
theorem ends_of {s : ByteArray} {a : Nat} (h0 : 0 < a) (ha : a ≤ s.size) (h : a = s.size ∨ Begins s 0 a) : ∃ q, q < s.size ∧ Begins s 0 q ∧ q + unitLen s q = a := by
  rcases h with rfl | h
  · obtain ⟨q, h1, h2, h3⟩ := in_unit0 s (s.size - 1) (by omega)
    have := unit_end (s := s) (q := q) (by omega)
    exact ⟨q, by omega, h1, by omega⟩
  · cases h with
    | here => omega
    | next h1 h2 => exact ⟨_, h2, h1, rfl⟩
theorem ends_begins {s : ByteArray} {q : Nat} (hq : q < s.size) (hB : Begins s 0 q) : Begins s 0 (q + unitLen s q) := hB.next hq
theorem find_start (s : ByteArray) (a : Nat) : ∀ (f i : Nat), s.size ≤ i + f →
    ((Begins s i a ∧ a < s.size) → (unitsFrom s f i).find? (fun u => u.2.1 == (a : Int)) = some (unitTr s a)) ∧ (¬ (Begins s i a ∧ a < s.size) → (unitsFrom s f i).find? (fun u => u.2.1 == (a : Int)) = none)
  | 0, i, h => ⟨fun ⟨h1, h2⟩ => by have := h1.le; omega, fun _ => rfl⟩
  | f + 1, i, h => by
    have hl := unitLen_pos s i
    have ih := find_start s a f (i + unitLen s i) (by omega)
    rw [unitsFrom]
    by_cases hlt : i < s.size
    · rw [if_pos hlt, List.find?_cons]
      by_cases hia : i = a
      · subst hia
        simp only [beq_self_eq_true]
        exact ⟨fun _ => rfl, fun h => absurd ⟨Begins.here, hlt⟩ h⟩
      · have hne : ((i : Int) == (a : Int)) = false := by simp; omega
        simp only [hne]
        have hc : Begins s i a ↔ Begins s (i + unitLen s i) a := by
          rw [begins_cons (k := a) (i := i)]
          exact ⟨fun h => h.elim (fun e => absurd e.symm hia) (fun h => h.2), fun h => Or.inr ⟨hlt, h⟩⟩
        rw [hc]
        exact ih
    · rw [if_neg hlt]
      exact ⟨fun ⟨h1, h2⟩ => by have := h1.le; omega, fun _ => rfl⟩
theorem find_end (s : ByteArray) (a : Nat) : ∀ (f i : Nat), s.size ≤ i + f →
    (∀ q, Begins s i q → q < s.size → q + unitLen s q = a → (unitsFrom s f i).find? (fun u => u.2.2 == (a : Int)) = some (unitTr s q)) ∧ ((¬ ∃ q, Begins s i q ∧ q < s.size ∧ q + unitLen s q = a) → (unitsFrom s f i).find? (fun u => u.2.2 == (a : Int)) = none)
  | 0, i, h => ⟨fun q h1 h2 _ => by have := h1.le; omega, fun _ => rfl⟩
  | f + 1, i, h => by
    have hl := unitLen_pos s i
    have ih := find_end s a f (i + unitLen s i) (by omega)
    rw [unitsFrom]
    by_cases hlt : i < s.size
    · rw [if_pos hlt, List.find?_cons]
      by_cases hia : i + unitLen s i = a
      · have he : ((i : Int) + (unitLen s i : Int) == (a : Int)) = true := by simp; omega
        simp only [he]
        refine ⟨fun q h1 h2 h3 => ?_, fun h => absurd ⟨i, Begins.here, hlt, hia⟩ h⟩
        rcases begins_cons.1 h1 with rfl | ⟨_, h4⟩
        · rfl
        · have := h4.le; have := (unitLen_pos s q).1; omega
      · have hne : ((i : Int) + (unitLen s i : Int) == (a : Int)) = false := by simp; omega
        simp only [hne]
        refine ⟨fun q h1 h2 h3 => ?_, fun h => ih.2 (fun ⟨q, h1, h2, h3⟩ => h ⟨q, begins_cons.2 (Or.inr ⟨hlt, h1⟩), h2, h3⟩)⟩
        rcases begins_cons.1 h1 with rfl | ⟨_, h4⟩
        · exact absurd h3 hia
        · exact ih.1 q h4 h2 h3
    · rw [if_neg hlt]
      exact ⟨fun q h1 h2 _ => by have := h1.le; omega, fun _ => rfl⟩
end Go.Proofs.YtbpadakcjnkjeaaDoor
/- The document's begins and Cut over the printed functions: what the program's run says. Plain Lean. -/
namespace Go.Proofs.YtbpadakcjnkjeaaDoor
open Go Go.RowKit Go.Proofs.YtbpadakcjnkjeaaDoorW.PrintWords Go.Proofs.YtbpadakcjnkjeaaDoorW.PrintLast Go.Proofs.YtbpadakcjnkjeaaDoorW.PrintMore Go.Proofs.YtbpadakcjnkjeaaDoor.POffsetsPlay
set_option maxRecDepth 100000
theorem size_of {u : ByteArray} {l : List Int} (h : bytesOf u = l) : u.size = l.length := by rw [← h, bytesOf_length]
theorem bt_of {u : ByteArray} {l : List Int} (h : bytesOf u = l) (j : Nat) : bt u j = l.getD j 0 := by rw [← rd_bytesOf, h]; rfl
theorem lead_size {a : Int} {k : Nat} (h : leadF a = some k) : sizeR a = formAt k 4 ∧ 128 ≤ a := by
  have hk := leadF_lt h
  have hr := lead_some h
  have h : k = 0 ∨ k = 1 ∨ k = 2 ∨ k = 3 ∨ k = 4 ∨ k = 5 ∨ k = 6 ∨ k = 7 := by omega
  rcases h with rfl | rfl | rfl | rfl | rfl | rfl | rfl | rfl <;> simp only [formAt, formTab, List.getD_cons_zero, List.getD_cons_succ] at hr ⊢
  · exact ⟨size_2 (by omega) (by omega), by omega⟩
  · exact ⟨size_3 (by omega) (by omega), by omega⟩
  · exact ⟨size_3 (by omega) (by omega), by omega⟩
  · exact ⟨size_3 (by omega) (by omega), by omega⟩
  · exact ⟨size_3 (by omega) (by omega), by omega⟩
  · exact ⟨size_4 (by omega) (by omega), by omega⟩
  · exact ⟨size_4 (by omega) (by omega), by omega⟩
  · exact ⟨size_4 (by omega) (by omega), by omega⟩
theorem opt_ne {c : Prop} [Decidable c] {p : Int} {n : Nat} {m : Int} (h : (n : Int) ≠ m) (h0 : 0 ≠ m) : (optPair (if c then some (p, n) else none)).2 ≠ m := by
  split
  · exact h
  · exact h0
theorem tail_stop {s : ByteArray} {i n : Nat} {lo hi p : Int} (h : ¬ (i + n < s.size ∧ lo ≤ bt s (i + n : Nat) ∧ bt s (i + n : Nat) ≤ hi)) : ∀ m, tailR s i m n lo hi p = (n, p)
  | 0 => rfl
  | m + 1 => by rw [tailR, if_neg h]
theorem tail_go {s : ByteArray} {i n m : Nat} {lo hi p : Int} (h : i + n < s.size ∧ lo ≤ bt s (i + n : Nat) ∧ bt s (i + n : Nat) ≤ hi) : tailR s i (m + 1) n lo hi p = tailR s i m (n + 1) 128 191 (p * 64 + bt s (i + n : Nat) % 64) := by rw [tailR, if_pos h]
theorem tail_le {s : ByteArray} {i : Nat} : ∀ (m n : Nat) (lo hi p : Int), (tailR s i m n lo hi p).1 ≤ n + m ∧ n ≤ (tailR s i m n lo hi p).1
  | 0, n, _, _, _ => by simp [tailR]
  | m + 1, n, lo, hi, p => by
    rw [tailR]
    split
    · have := tail_le (s := s) (i := i) m (n + 1) 128 191 (p * 64 + bt s (i + n : Nat) % 64)
      omega
    · simp
/-- A padded beginning is good where its bytes are those of its lead's form. -/
def okRest (k : Nat) : List Int → Bool
  | [] => true
  | b :: r => decide (formAt k 2 ≤ b ∧ b ≤ formAt k 3) && r.all fun c => decide (128 ≤ c ∧ c ≤ 191)
theorem pad_good {u : ByteArray} {a : Int} {r : List Int} (h : bytesOf u = a :: r) (hr1 : 1 ≤ r.length) (hr3 : r.length ≤ 3) (h128 : 128 ≤ a) :
    (goodC u 0).2 = r.length + 1 ↔ ∃ k, leadF a = some k ∧ formAt k 4 = r.length + 1 ∧ okRest k r = true := by
  have hs := size_of h
  have e0 := bt_of h 0
  have e1 := bt_of h 1
  have e2 := bt_of h 2
  have e3 := bt_of h 3
  simp only [List.length_cons] at hs
  simp only [List.getD_cons_zero, List.getD_cons_succ] at e0 e1 e2 e3
  rw [good_unit u 0 (by omega)]
  cases hl : leadF a with
  | none =>
    rw [unit_none (by rw [e0]; exact h128) (by rw [e0]; exact hl)]
    simp [optPair]
    omega
  | some k =>
    have hf := form_facts k (leadF_lt hl)
    have hz : formAt k 4 = 2 ∨ formAt k 4 = 3 ∨ formAt k 4 = 4 := by omega
    have l0 : leadF (bt u (0 : Nat)) = some k := by rw [e0]; exact hl
    have g0 : 128 ≤ bt u (0 : Nat) := by rw [e0]; exact h128
    rcases hz with hz | hz | hz
    · rw [unit_form2 g0 l0 hz]
      match r, hr1, hr3, hs, e1, e2, e3 with
      | [b], _, _, hs, e1, _, _ =>
        simp only [Nat.zero_add, e1, List.getD_cons_zero]
        simp only [List.length_cons, List.length_nil] at hs
        by_cases hc : formAt k 2 ≤ b ∧ b ≤ formAt k 3
        · rw [if_pos ⟨by omega, hc⟩]
          simp [optPair, hz, okRest, hc]
        · rw [if_neg (fun h => hc h.2)]
          simp [optPair, hz, okRest]
          omega
      | [b, c], _, _, hs, e1, _, _ => exact ⟨fun h' => absurd h' (opt_ne (by simp) (by simp)), by simp [hz]⟩
      | [b, c, d], _, _, hs, e1, _, _ => exact ⟨fun h' => absurd h' (opt_ne (by simp) (by simp)), by simp [hz]⟩
    · rw [unit_form3 g0 l0 hz]
      match r, hr1, hr3, hs, e1, e2, e3 with
      | [b], _, _, hs, e1, e2, _ =>
        simp only [List.length_cons, List.length_nil] at hs
        rw [if_neg (fun h => by omega)]
        simp [optPair, hz]
      | [b, c], _, _, hs, e1, e2, _ =>
        simp only [Nat.zero_add, e1, e2, List.getD_cons_zero, List.getD_cons_succ]
        simp only [List.length_cons, List.length_nil] at hs
        by_cases hc : (formAt k 2 ≤ b ∧ b ≤ formAt k 3) ∧ (128 ≤ c ∧ c ≤ 191)
        · rw [if_pos ⟨⟨by omega, hc.1⟩, by omega, hc.2⟩]
          simp [optPair, hz, okRest, hc]
        · rw [if_neg (fun h => hc ⟨h.1.2, h.2.2⟩)]
          simp [optPair, hz, okRest]
          omega
      | [b, c, d], _, _, hs, e1, _, _ => exact ⟨fun h' => absurd h' (opt_ne (by simp) (by simp)), by simp [hz]⟩
    · rw [unit_form4 g0 l0 hz]
      match r, hr1, hr3, hs, e1, e2, e3 with
      | [b], _, _, hs, e1, e2, _ =>
        simp only [List.length_cons, List.length_nil] at hs
        rw [if_neg (fun h => by omega)]
        simp [optPair, hz]
      | [b, c], _, _, hs, e1, e2, _ =>
        simp only [List.length_cons, List.length_nil] at hs
        rw [if_neg (fun h => by omega)]
        simp [optPair, hz]
      | [b, c, d], _, _, hs, e1, e2, e3 =>
        simp only [Nat.zero_add, e1, e2, e3, List.getD_cons_zero, List.getD_cons_succ]
        simp only [List.length_cons, List.length_nil] at hs
        by_cases hc : (formAt k 2 ≤ b ∧ b ≤ formAt k 3) ∧ (128 ≤ c ∧ c ≤ 191) ∧ (128 ≤ d ∧ d ≤ 191)
        · rw [if_pos ⟨⟨by omega, hc.1⟩, ⟨by omega, hc.2.1⟩, by omega, hc.2.2⟩]
          simp [optPair, hz, okRest, hc]
        · rw [if_neg (fun h => hc ⟨h.1.2, h.2.1.2, h.2.2.2⟩)]
          simp [optPair, hz, okRest]
          omega
/-- What run says of a whole text: it is the beginning of a longer sequence. -/
def longer (t : ByteArray) (i : Nat) : Prop := (runR t i).1 = t.size - i ∧ (runR t i).1 < (runR t i).2.1
theorem run_longer {t : ByteArray} {a : Int} {r : List Int} (h : bytesOf t = a :: r) (hr : r.length ≤ 2) :
    longer t 0 ↔ ∃ k, leadF a = some k ∧ (r.length : Int) + 1 < formAt k 4 ∧ 128 ≤ a ∧ okRest k r = true := by
  have hs := size_of h
  have e0 := bt_of h 0
  have e1 := bt_of h 1
  have e2 := bt_of h 2
  simp only [List.length_cons] at hs
  simp only [List.getD_cons_zero, List.getD_cons_succ] at e0 e1 e2
  unfold longer
  by_cases h128 : a < 128
  · rw [run_ascii (by rw [e0]; exact h128)]
    simp
    intro k hk h1 h2
    omega
  · cases hl : leadF a with
    | none =>
      rw [run_none (by rw [e0]; omega) (by rw [e0]; exact hl)]
      simp
    | some k =>
      have hf := form_facts k (leadF_lt hl)
      rw [run_some (by rw [e0]; omega) (by rw [e0]; exact hl)]
      obtain ⟨z, hz⟩ : ∃ z : Nat, formAt k 4 = z := ⟨(formAt k 4).toNat, by omega⟩
      rw [hz] at hf
      simp only [hz, Int.toNat_natCast, Nat.sub_zero, hs]
      obtain ⟨m, rfl⟩ : ∃ m, z = m + 2 := ⟨z - 2, by omega⟩
      rw [show m + 2 - 1 = m + 1 by omega]
      match r, hr, hs, e1, e2 with
      | [], _, hs, _, _ =>
        simp only [List.length_nil] at hs
        rw [tail_stop (fun h => by omega)]
        simp [hz, okRest]
        omega
      | [b], _, hs, e1, _ =>
        simp only [List.length_cons, List.length_nil, List.getD_cons_zero] at hs e1
        by_cases hc : formAt k 2 ≤ b ∧ b ≤ formAt k 3
        · rw [tail_go ⟨by omega, by rw [Nat.zero_add, e1]; exact hc⟩, tail_stop (fun h => by omega)]
          simp [hz, okRest, hc]
          omega
        · rw [tail_stop (fun h => hc (by rw [Nat.zero_add, e1] at h; exact h.2))]
          simp [hz, okRest]
          omega
      | [b, c], _, hs, e1, e2 =>
        simp only [List.length_cons, List.length_nil, List.getD_cons_zero, List.getD_cons_succ] at hs e1 e2
        by_cases hc : formAt k 2 ≤ b ∧ b ≤ formAt k 3
        · rw [tail_go ⟨by omega, by rw [Nat.zero_add, e1]; exact hc⟩]
          by_cases hd : 128 ≤ c ∧ c ≤ 191
          · match m, hz, hf with
            | 0, hz, hf =>
              simp [tailR, hz]
            | m + 1, hz, hf =>
              rw [tail_go ⟨by omega, by rw [Nat.zero_add, e2]; exact hd⟩, tail_stop (fun h => by omega)]
              simp [hz, okRest, hc, hd]
              omega
          · rw [tail_stop (fun h => hd (by rw [Nat.zero_add, e2] at h; exact h.2))]
            simp [hz, okRest]
            omega
        · rw [tail_stop (fun h => hc (by rw [Nat.zero_add, e1] at h; exact h.2))]
          simp [hz, okRest]
          omega
end Go.Proofs.YtbpadakcjnkjeaaDoor
/- What is encoded is split into just these points. Plain Lean. -/
namespace Go.Proofs.YtbpadakcjnkjeaaDoor
open Go Go.RowKit Go.Proofs.YtbpadakcjnkjeaaDoorW.PrintWords Go.Proofs.YtbpadakcjnkjeaaDoorW.PrintLast Go.Proofs.YtbpadakcjnkjeaaDoorW.PrintMore
set_option maxRecDepth 100000
theorem opt_some {o : Option (Int × Nat)} {p : Int} {n : Nat} (h : (p, (n : Int)) = optPair o) (hn : 0 < n) : o = some (p, n) := by
  cases o with
  | none => simp [optPair] at h; omega
  | some x =>
    obtain ⟨p', n'⟩ := x
    simp [optPair] at h
    obtain ⟨rfl, h2⟩ := h
    obtain rfl : n = n' := by omega
    rfl
theorem enc_pos (p : Int) : 1 ≤ (encP p).length := by
  unfold encP
  repeat' split
  all_goals simp
/-- Where a point's bytes lie, there is its unit. -/
theorem enc_unit {T : ByteArray} {i : Nat} {p : Int} (hsc : isSc p = true) (hlen : i + (encP p).length ≤ T.size) (hb : bytesAt T i (encP p).length = encP p) : unitO T i = some (p, (encP p).length) := by
  have hp := (isSc_iff p).1 hsc
  have hl := enc_pos p
  have h := good_unit T i (by omega)
  unfold goodC at h
  rw [if_neg (by omega)] at h
  by_cases h1 : p < 128
  · have e : encP p = [p] := by unfold encP; rw [if_pos h1]
    rw [e] at hb hlen ⊢
    rw [show [p].length = 1 from rfl, bytesAt1] at hb
    simp only [List.cons.injEq, and_true] at hb
    rw [unit_ascii (by rw [hb]; exact h1), hb]
    rfl
  · by_cases h2 : p < 2048
    · have e : encP p = [192 + p / 64, 128 + p % 64] := by unfold encP; rw [if_neg h1, if_pos h2]
      rw [e] at hb hlen ⊢
      rw [show [192 + p / 64, 128 + p % 64].length = 2 from rfl] at hb hlen ⊢
      have hb' := hb
      rw [bytesAt2] at hb
      simp only [List.cons.injEq, and_true] at hb
      rw [hb.1, size_2 (by omega) (by omega), if_neg (by omega), show (2 : Int).toNat = 2 from rfl] at h
      simp only [foldP, leadR, Nat.reduceEqDiff, Nat.reduceSub, if_true, if_false, hb.2] at h
      rw [show (192 + p / 64 - 192) * 64 + (128 + p % 64) - 128 = p by omega, finP_some ⟨hsc, by rw [hb', e]⟩] at h
      exact opt_some h (by omega)
    · by_cases h3 : p < 65536
      · have e : encP p = [224 + p / 4096, 128 + p / 64 % 64, 128 + p % 64] := by unfold encP; rw [if_neg h1, if_neg h2, if_pos h3]
        rw [e] at hb hlen ⊢
        rw [show [224 + p / 4096, 128 + p / 64 % 64, 128 + p % 64].length = 3 from rfl] at hb hlen ⊢
        have hb' := hb
        rw [bytesAt3] at hb
        simp only [List.cons.injEq, and_true] at hb
        rw [hb.1, size_3 (by omega) (by omega), if_neg (by omega), show (3 : Int).toNat = 3 from rfl] at h
        simp only [foldP, leadR, Nat.reduceEqDiff, Nat.reduceSub, Nat.reduceAdd, if_true, if_false, hb.2.1, hb.2.2] at h
        rw [show ((224 + p / 4096 - 224) * 64 + (128 + p / 64 % 64) - 128) * 64 + (128 + p % 64) - 128 = p by omega, finP_some ⟨hsc, by rw [hb', e]⟩] at h
        exact opt_some h (by omega)
      · have e : encP p = [240 + p / 262144, 128 + p / 4096 % 64, 128 + p / 64 % 64, 128 + p % 64] := by unfold encP; rw [if_neg h1, if_neg h2, if_neg h3]
        rw [e] at hb hlen ⊢
        rw [show [240 + p / 262144, 128 + p / 4096 % 64, 128 + p / 64 % 64, 128 + p % 64].length = 4 from rfl] at hb hlen ⊢
        have hb' := hb
        rw [bytesAt4] at hb
        simp only [List.cons.injEq, and_true] at hb
        rw [hb.1, size_4 (by omega) (by omega), if_neg (by omega), show (4 : Int).toNat = 4 from rfl] at h
        simp only [foldP, leadR, Nat.reduceEqDiff, Nat.reduceSub, Nat.reduceAdd, if_true, if_false, hb.2.1, hb.2.2.1, hb.2.2.2] at h
        rw [show (((240 + p / 262144 - 240) * 64 + (128 + p / 4096 % 64) - 128) * 64 + (128 + p / 64 % 64) - 128) * 64 + (128 + p % 64) - 128 = p by omega, finP_some ⟨hsc, by rw [hb', e]⟩] at h
        exact opt_some h (by omega)
theorem bytesAt_of {T : ByteArray} {pre m rest : List Int} (h : bytesOf T = pre ++ (m ++ rest)) : bytesAt T pre.length m.length = m ∧ pre.length + m.length ≤ T.size := by
  have hs := size_of h
  simp only [List.length_append] at hs
  refine ⟨?_, by omega⟩
  apply List.ext_getElem
  · simp [bytesAt]
  · intro j h1 h2
    have e : bt T ((pre.length + j : Nat) : Int) = (pre ++ (m ++ rest)).getD (pre.length + j) 0 := bt_of h _
    simp only [bytesAt, List.getElem_map, List.getElem_range, e]
    simp [List.getD, List.getElem?_append_right, List.getElem?_append_left h2, List.getElem?_eq_getElem h2]
theorem back {T : ByteArray} : ∀ (q pre : List Int), bytesOf T = pre ++ q.flatMap encP → q.all isSc = true → ∀ f, T.size ≤ pre.length + f → (unitsFrom T f pre.length).map (·.1) = q
  | [], pre, h, _, f, hf => by
    have hs := size_of h
    simp at hs
    cases f with
    | zero => rfl
    | succ f => rw [unitsFrom, if_neg (by omega)]; rfl
  | p :: q, pre, h, ha, f, hf => by
    rw [List.flatMap_cons] at h
    rw [List.all_cons, Bool.and_eq_true] at ha
    have hb := bytesAt_of h
    have hp := enc_pos p
    have hu := enc_unit ha.1 hb.2 hb.1
    obtain ⟨g, rfl⟩ : ∃ g, f = g + 1 := ⟨f - 1, by omega⟩
    have hl : unitPt T pre.length = p ∧ unitLen T pre.length = (encP p).length := by unfold unitPt unitLen; rw [hu]; exact ⟨rfl, rfl⟩
    rw [unitsFrom, if_pos (by omega), List.map_cons, hl.1, hl.2]
    have ih := back q (pre ++ encP p) (by rw [List.append_assoc]; exact h) ha.2 g (by rw [List.length_append]; omega)
    rw [List.length_append] at ih
    rw [ih]
/-- A scalar value, out of any number. -/
def scalarF (x : Int) : Int := if 55296 ≤ x % 1114112 ∧ x % 1114112 ≤ 57343 then x % 1114112 - 55296 else x % 1114112
theorem scalarF_sc (x : Int) : isSc (scalarF x) = true := by
  have h1 := Int.emod_nonneg x (by omega : (1114112 : Int) ≠ 0)
  have h2 := Int.emod_lt_of_pos x (show (0 : Int) < 1114112 by omega)
  rw [isSc_iff]
  unfold scalarF
  split <;> omega
theorem back_enc (q : List Int) (h : q.all isSc = true) : (unitsFrom (encS q) (encS q).size 0).map (·.1) = q := by
  have e : encS q = strOfNums (q.flatMap encP) := by unfold encS; rw [if_pos h]
  have hb : bytesOf (encS q) = [] ++ q.flatMap encP := by
    rw [e, List.nil_append]
    refine bytesOf_str (fun x hx => ?_)
    obtain ⟨p, hp, hx⟩ := List.mem_flatMap.1 hx
    exact encP_byte (List.all_eq_true.1 h p hp) x hx
  exact back q [] hb h _ (by simp)
end Go.Proofs.YtbpadakcjnkjeaaDoor
/- What is asked at each edge of a text leads there and back; where the last unit ends. Plain Lean. -/
namespace Go.Proofs.YtbpadakcjnkjeaaDoor
open Go Go.RowKit Go.Proofs.YtbpadakcjnkjeaaDoorW.PrintWords Go.Proofs.YtbpadakcjnkjeaaDoorW.PrintLast Go.Proofs.YtbpadakcjnkjeaaDoorW.PrintMore
set_option maxRecDepth 100000
theorem end_from (s : ByteArray) : ∀ (f i : Nat) (p : Pl), p.1 = (i : Int) → i ≤ s.size → s.size ≤ i + f → ((unitsFrom s f i).foldl stepP p).1 = (s.size : Int)
  | 0, i, p, hp, h1, h2 => by simp [unitsFrom]; omega
  | f + 1, i, p, hp, h1, h2 => by
    rw [unitsFrom]
    split
    · rename_i h
      have h3 := unit_end h
      have h4 := unitLen_pos s i
      rw [List.foldl_cons]
      exact end_from s f _ _ (by simp [stepP]) h3 (by omega)
    · rw [List.foldl_nil]; omega
theorem end_units (s : ByteArray) : (plA (unitsFrom s s.size 0) (unitsFrom s s.size 0).length).1 = (s.size : Int) := by
  unfold plA
  rw [List.take_length]
  exact end_from s s.size 0 _ rfl (by omega) (by omega)
theorem first_at {n i : Nat} {q : Nat → Bool} (hi : i < n) (hq : q i = true) (h1 : ∀ j, j < i → q j = false) : firstF n q = some i := by
  unfold firstF
  rw [List.find?_range_eq_some]
  exact ⟨hq, by simpa using hi, fun j hj => by simpa using h1 j hj⟩
theorem keyB_at {us : List Un} (hc : Chained us 0) {i : Nat} (hi : i ≤ us.length) : keyB us (plA us i).1 = some i :=
  first_at (by omega) (by simp) (fun j hj => by have := at_rise hc j i hj hi; simp; omega)
theorem keyW_at {us : List Un} {i : Nat} (hi : i ≤ us.length) : keyW us (plA us i).2.1 = some i :=
  first_at (by omega) (by simp) (fun j hj => by have := wide_rise us j i hj hi; simp; omega)
theorem keyL_at {us : List Un} {i : Nat} (hi : i ≤ us.length) : keyL us (plA us i).2.2.1 (plA us i).2.2.2 = some i :=
  first_at (by omega) (by simp) (fun j hj => by have := line_rise us j i hj hi; unfold lexLt at this; simp; omega)
/-- What stood last: the width, the line, the column. -/
def pv (us : List Un) : Nat → Int × Int × Int
  | 0 => (-1, 0, 0)
  | k + 1 => (plA us k).2
theorem pv_lt (us : List Un) : ∀ k, k ≤ us.length → (pv us k).1 < (plA us k).2.1 ∧ lexLt (pv us k).2 (plA us k).2.2
  | 0, _ => by simp [pv, plA, lexLt]
  | k + 1, h => ⟨wide_step us k h, line_step us k h⟩
theorem start_at {us : List Un} (hc : Chained us 0) {i : Nat} (hi : i < us.length) : (rdU us i).2.1 = (plA us i).1 := by
  have := (chained_at us (0, 0, 1, 1) hc i hi).1
  have e : rdU us i = us[i] := by simp [rdU, List.getD, hi]
  rw [e]
  exact this.symm
theorem at_le {us : List Un} (hc : Chained us 0) {i : Nat} (hi : i ≤ us.length) : 0 ≤ (plA us i).1 ∧ (plA us i).1 ≤ (plA us us.length).1 := by
  constructor
  · by_cases h : i = 0
    · subst h; exact Int.le_refl _
    · have := at_rise hc 0 i (by omega) hi
      rw [plA_zero] at this
      omega
  · by_cases h : i = us.length
    · rw [h]; exact Int.le_refl _
    · have := at_rise hc i us.length (by omega) (Nat.le_refl _)
      omega
end Go.Proofs.YtbpadakcjnkjeaaDoor
/- caesuralaw26.known: the text of the chapter. Conditions: the table and ErrArg read as listed. -/
namespace Go.Proofs.YtbpadakcjnkjeaaDoor
open Go Go.RowKit Go.Proofs.YtbpadakcjnkjeaaDoorW.PrintWords Go.Proofs.YtbpadakcjnkjeaaDoorW.PrintLast Go.Proofs.YtbpadakcjnkjeaaDoorW.PrintMore
set_option maxRecDepth 100000
def knownT : ByteArray := { data := #[97, 195, 169, 13, 10, 240, 157, 132, 158, 255] }
theorem known_units : unitsFrom knownT 10 0 = [(97, 0, 1), (233, 1, 3), (13, 3, 4), (10, 4, 5), (119070, 5, 9), (-1, 9, 10)] := by decide +kernel
theorem known_facts : ∃ us : List Un, unitsFrom knownT knownT.size 0 = us ∧ us.length = 6 ∧ plA us 6 = (10, 7, 2, 3) ∧ keyB us 10 = some 6 := ⟨_, known_units, by decide +kernel, by decide +kernel, by decide +kernel⟩
set_option maxHeartbeats 4000000 in
set_option maxRecDepth 100000 in
theorem offKnown_any (E : Nat → Addr) (w : World) (hE : GS [1] E w) (hf : FormsAt w) :
    Calls Tryd.prog 6 #[] w fun e w' => e = .returned (.bool true) ∧ Below w.heap.size w w' := by
  obtain ⟨us, hus, hlen, hpl, hkey⟩ := known_facts
  have HU := Sh.mk hus
  have HCh := Sh.mk (show Chained us 0 by rw [← hus]; exact chained_units _ _ _)
  have HL := Sh.mk hlen
  have HP := Sh.mk hpl
  have HK := Sh.mk hkey
  have HE := Sh.mk hE
  have HF := Sh.mk hf
  clear hus hlen hpl hkey hE hf
  go_enter Tryd.func6, Tryd.ntmps6
  go_wp2_with fail
  refine (offNew_any knownT w HF.out (by decide)).mono ?_
  rintro e w1 ⟨b, v, rfl, hbb, hm, hb⟩
  rw [HU.out] at hm
  obtain ⟨A, c, rfl, hmu⟩ := hm.open HCh.out (by have := HL.out; omega)
  have HM := Sh.mk hmu
  have HB := Sh.mk hb
  clear hm hmu hb hbb
  go_wp2_with fail
  have hct := count_any b A c us w1 HM.out
  rw [HL.out, HP.out] at hct
  refine hct.mono ?_
  clear hct
  rintro e w2 ⟨rfl, hb⟩
  have HM2 := Sh.mk (HM.out.below hb)
  have HB2 := Sh.mk (below_of HB.out hb)
  clear hb HM HB
  go_wp2_with fail
  have hln := line_call E b A c us w2 (HE.out.below HB2.out) HM2.out 10
  rw [HK.out, Option.map_some, HP.out] at hln
  refine hln.mono ?_
  clear hln
  rintro e w3 ⟨rfl, hb⟩
  have HB3 := Sh.mk (below_of HB2.out hb)
  clear hb
  go_wp2
  go_ret
  exact ⟨rfl, HB3.out⟩
end Go.Proofs.YtbpadakcjnkjeaaDoor
/- Two texts of good units, one behind the other: the places behind the seam. Plain Lean. -/
namespace Go.Proofs.YtbpadakcjnkjeaaDoor
open Go Go.RowKit Go.Proofs.YtbpadakcjnkjeaaDoorW.PrintWords Go.Proofs.YtbpadakcjnkjeaaDoorW.PrintLast Go.Proofs.YtbpadakcjnkjeaaDoorW.PrintMore
set_option maxRecDepth 100000
/-- The units of points, from a place on. -/
def unitsOf : List Int → Int → List Un
  | [], _ => []
  | p :: q, i => (p, i, i + (encP p).length) :: unitsOf q (i + (encP p).length)
theorem unitsOf_len : ∀ q i, (unitsOf q i).length = q.length
  | [], _ => rfl
  | p :: q, i => by rw [unitsOf, List.length_cons, unitsOf_len q, List.length_cons]
theorem unitsOf_append : ∀ (p q : List Int) (i : Int), unitsOf (p ++ q) i = unitsOf p i ++ unitsOf q (i + (p.flatMap encP).length)
  | [], q, i => by simp [unitsOf]
  | a :: p, q, i => by
    rw [List.cons_append, unitsOf, unitsOf, List.cons_append, unitsOf_append p q, List.flatMap_cons, List.length_append]
    congr 3
    omega
theorem units_of {T : ByteArray} : ∀ (q pre : List Int), bytesOf T = pre ++ q.flatMap encP → q.all isSc = true → ∀ f, T.size ≤ pre.length + f → unitsFrom T f pre.length = unitsOf q pre.length
  | [], pre, h, _, f, hf => by
    have hs := size_of h
    simp at hs
    cases f with
    | zero => rfl
    | succ f => rw [unitsFrom, if_neg (by omega)]; rfl
  | p :: q, pre, h, ha, f, hf => by
    rw [List.flatMap_cons] at h
    rw [List.all_cons, Bool.and_eq_true] at ha
    have hb := bytesAt_of h
    have hp := enc_pos p
    have hu := enc_unit ha.1 hb.2 hb.1
    obtain ⟨g, rfl⟩ : ∃ g, f = g + 1 := ⟨f - 1, by omega⟩
    have hl : unitPt T pre.length = p ∧ unitLen T pre.length = (encP p).length := by unfold unitPt unitLen; rw [hu]; exact ⟨rfl, rfl⟩
    rw [unitsFrom, if_pos (by omega), unitsOf, hl.1, hl.2]
    have ih := units_of q (pre ++ encP p) (by rw [List.append_assoc]; exact h) ha.2 g (by rw [List.length_append]; omega)
    rw [List.length_append] at ih
    rw [ih, Int.natCast_add]
theorem bytes_enc (q : List Int) (h : q.all isSc = true) : bytesOf (encS q) = q.flatMap encP := by
  unfold encS
  rw [if_pos h]
  refine bytesOf_str (fun x hx => ?_)
  obtain ⟨p, hp, hx⟩ := List.mem_flatMap.1 hx
  exact encP_byte (List.all_eq_true.1 h p hp) x hx
theorem size_enc (q : List Int) (h : q.all isSc = true) : (encS q).size = (q.flatMap encP).length := by rw [← bytesOf_length, bytes_enc q h]
theorem units_enc (q : List Int) (h : q.all isSc = true) : unitsFrom (encS q) (encS q).size 0 = unitsOf q 0 :=
  units_of q [] (by rw [bytes_enc q h, List.nil_append]) h _ (by simp)
theorem bytesOf_append (a b : ByteArray) : bytesOf (a ++ b) = bytesOf a ++ bytesOf b := by
  unfold bytesOf
  rw [ByteArray.data_append, Array.toList_append, List.map_append]
theorem units_join (p q : List Int) (hp : p.all isSc = true) (hq : q.all isSc = true) : unitsFrom (encS p ++ encS q) (encS p ++ encS q).size 0 = unitsOf (p ++ q) 0 :=
  units_of (p ++ q) [] (by rw [bytesOf_append, bytes_enc p hp, bytes_enc q hq, List.nil_append, List.flatMap_append]) (by rw [List.all_append, hp, hq]; rfl) _ (by simp)
/-- Two places, the one behind a seam. -/
def Seam (n W L C : Int) (x y : Pl) : Prop := x.1 = n + y.1 ∧ x.2.1 = W + y.2.1 ∧ x.2.2.1 = L + y.2.2.1 - 1 ∧ 1 ≤ y.2.2.1 ∧ (y.2.2.1 = 1 → x.2.2.2 = C + y.2.2.2 - 1) ∧ (1 < y.2.2.1 → x.2.2.2 = y.2.2.2)
theorem seam_fold (n W L C : Int) : ∀ (q : List Int) (i : Int) (x y : Pl) (j : Nat), Seam n W L C x y → Seam n W L C (((unitsOf q (n + i)).take j).foldl stepP x) (((unitsOf q i).take j).foldl stepP y)
  | [], i, x, y, j, h => by simpa [unitsOf] using h
  | p :: q, i, x, y, 0, h => by simpa using h
  | p :: q, i, x, y, j + 1, h => by
    rw [unitsOf, unitsOf, List.take_succ_cons, List.take_succ_cons, List.foldl_cons, List.foldl_cons, Int.add_assoc]
    refine seam_fold n W L C q _ _ _ j ?_
    obtain ⟨h1, h2, h3, h4, h5, h6⟩ := h
    unfold Seam stepP
    dsimp only
    refine ⟨rfl, ?_, ?_, ?_, ?_, ?_⟩ <;> split <;> (try split) <;> omega
theorem seam_at (p q : List Int) (hp : p.all isSc = true) (j : Nat) :
    Seam (encS p).size (plA (unitsOf p 0) p.length).2.1 (plA (unitsOf p 0) p.length).2.2.1 (plA (unitsOf p 0) p.length).2.2.2 (plA (unitsOf (p ++ q) 0) (p.length + j)) (plA (unitsOf q 0) j) := by
  have e0 : (plA (unitsOf p 0) p.length).1 = (encS p).size := by
    have := end_units (encS p)
    rw [units_enc p hp, unitsOf_len] at this
    exact this
  have e1 : plA (unitsOf (p ++ q) 0) (p.length + j) = ((unitsOf q ((encS p).size + 0)).take j).foldl stepP (plA (unitsOf p 0) p.length) := by
    unfold plA
    rw [unitsOf_append, List.take_append, List.take_of_length_le (by rw [unitsOf_len]; omega), List.foldl_append, unitsOf_len]
    rw [show p.length + j - p.length = j by omega, List.take_of_length_le (l := unitsOf p 0) (i := p.length) (by rw [unitsOf_len]; omega), size_enc p hp]
    simp
  rw [e1]
  refine seam_fold _ _ _ _ q 0 _ _ j ?_
  unfold Seam
  dsimp only
  refine ⟨?_, ?_, ?_, ?_, ?_, ?_⟩ <;> omega
theorem unitsOf_get : ∀ (q : List Int) (i : Int) (k : Nat), k < q.length → ∃ s : Int, rdU (unitsOf q i) k = (rd q k, s, s + ((encP (rd q k)).length : Int))
  | [], i, k, h => by simp at h
  | p :: q, i, 0, h => ⟨i, by simp [unitsOf, rdU, rd]⟩
  | p :: q, i, k + 1, h => by
    obtain ⟨s, hs⟩ := unitsOf_get q (i + (encP p).length) k (by simpa using h)
    refine ⟨s, ?_⟩
    have e1 : rdU (unitsOf (p :: q) i) (k + 1) = rdU (unitsOf q (i + (encP p).length)) k := by simp [unitsOf, rdU]
    have e2 : rd (p :: q) ((k + 1 : Nat) : Int) = rd q (k : Nat) := by
      unfold rd
      rw [Int.toNat_natCast, Int.toNat_natCast, List.getD_cons_succ]
    rw [e1, hs, e2]
theorem chained_of (q : List Int) (h : q.all isSc = true) : Chained (unitsOf q 0) 0 := by
  have := chained_units (encS q) (encS q).size 0
  rw [units_enc q h] at this
  exact this
theorem at_next (q : List Int) (h : q.all isSc = true) (k : Nat) (hk : k < q.length) : (plA (unitsOf q 0) (k + 1)).1 = (plA (unitsOf q 0) k).1 + (encP (rd q k)).length := by
  have hl : k < (unitsOf q 0).length := by rw [unitsOf_len]; exact hk
  have e1 := start_at (chained_of q h) hl
  rw [plA_succ _ _ hl]
  obtain ⟨s, hs⟩ := unitsOf_get q 0 k hk
  rw [hs] at e1 ⊢
  simp only [stepP]
  simp only at e1
  omega
/-- A scalar value, out of any number. -/
def scalarG (x : Int) : Int := if 55296 ≤ x % 1112064 then x % 1112064 + 2048 else x % 1112064
theorem scalarG_sc (x : Int) : isSc (scalarG x) = true := by
  have h1 := Int.emod_nonneg x (by omega : (1112064 : Int) ≠ 0)
  have h2 := Int.emod_lt_of_pos x (show (0 : Int) < 1112064 by omega)
  rw [isSc_iff]
  unfold scalarG
  split <;> omega
end Go.Proofs.YtbpadakcjnkjeaaDoor
/- caesuralaw26.points: scalar values out of any numbers. Conditions: at most 2^44 numbers. -/
namespace Go.Proofs.YtbpadakcjnkjeaaDoor
open Go Go.RowKit Go.Proofs.YtbpadakcjnkjeaaDoorW.PrintWords Go.Proofs.YtbpadakcjnkjeaaDoorW.PrintLast Go.Proofs.YtbpadakcjnkjeaaDoorW.PrintMore
set_option maxRecDepth 100000
set_option maxRecDepth 100000 in
set_option maxHeartbeats 8000000 in
theorem offPoints_any (A : Option Addr) (c n : Nat) (l : List Int) (w : World) (hr : Kd.C (Kd.int .i64) w A n l) (hs : n ≤ 17592186044415) :
    Calls Tryd.prog 8 #[.slice A n c] w fun e w' => ∃ v, e = .returned v ∧ Kd.R (Kd.int .i64) 3 w' w.heap.size (fun _ => True) v (l.map scalarG) ∧ Below w.heap.size w w' := by
  have HR := Sh.mk hr
  have HN := Sh.mk hr.1
  clear hr
  go_enter Tryd.func8, Tryd.ntmps8
  go_wp2
  go_loopw [3, 4] (fun v i wr => ∃ k : Nat, k ≤ n ∧ i = .int .i64 k ∧ Sh (Kd.R (Kd.int .i64) 3 wr w.heap.size (fun _ => True) v ((l.take k).map scalarG)) ∧ Sh (Below w.heap.size w wr)) (fun _ i _ => n - (intOf i).toNat)
  case atStart => exact ⟨0, by omega, rfl, ⟨Kd.R_nil _ _ _ _ _⟩, ⟨Below.refl _ _⟩⟩
  case round =>
    obtain ⟨k, hk, rfl, HO, HB⟩ := hrel
    by_cases hlt : k < n
    · obtain ⟨ad, e1, hx⟩ := C_at (Kd.C_below HR.out HB.out) k hlt
      cases e1
      have hlen : ((l.take k).map scalarG).length ≤ k := by rw [List.length_map]; exact List.length_take_le _ _
      have h1 := Int.emod_nonneg (rd l k) (by omega : (1112064 : Int) ≠ 0)
      have h2 := Int.emod_lt_of_pos (rd l k) (show (0 : Int) < 1112064 by omega)
      obtain ⟨r, hr⟩ : ∃ r, r = rd l k % 1112064 := ⟨_, rfl⟩
      have HS := Sh.mk (show scalarG (rd l k) = if 55296 ≤ r then r + 2048 else r by rw [hr]; rfl)
      rw [← hr] at h1 h2
      have hpick := pick_any (rd l k) 1112064 wr (by omega) (by omega)
      rw [show (((1112064 : Nat) : Int)) = 1112064 from rfl, ← hr] at hpick
      have HPK := Sh.mk hpick
      clear hr hpick
      go_wp2_with fail
      refine HPK.out.mono ?_
      rintro e w1 ⟨rfl, rfl⟩
      by_cases ha : 55296 ≤ r
      · have l1 : decide (55296 ≤ r) = true := by simpa using ha
        have HR2 := Sh.mk (HS.out.trans (if_pos ha))
        clear HS HPK
        go_wp2_with (first | ((with_reducible refine gate_builtin (b := .append) (xs := #[.tmp 21, .tmp 23]) rfl ?_); refine app_int 22 3 .i64 8 Tryd.underlying22 info_i64 (by omega) (w0 := w) (.tmp 21) (.tmp 23) _ _ _ rfl rfl rfl rfl HO HB (by omega) ?_; clear HO HB; intro v1 w1 HO HB))
        go_roundw
        case rel => exact ⟨k + 1, by omega, by go_num, by rw [take_snoc l k (by rw [HN.out]; exact hlt), List.map_append, List.map_cons, List.map_nil, HR2.out]; exact HO, HB⟩
        case measure => simp [intOf]; omega
      · have l1 : decide (55296 ≤ r) = false := by simpa using ha
        have HR2 := Sh.mk (HS.out.trans (if_neg ha))
        clear HS HPK ha
        go_wp2_with (first | ((with_reducible refine gate_builtin (b := .append) (xs := #[.tmp 21, .tmp 23]) rfl ?_); refine app_int 22 3 .i64 8 Tryd.underlying22 info_i64 (by omega) (w0 := w) (.tmp 21) (.tmp 23) _ _ _ rfl rfl rfl rfl HO HB (by omega) ?_; clear HO HB; intro v1 w1 HO HB))
        go_roundw
        case rel => exact ⟨k + 1, by omega, by go_num, by rw [take_snoc l k (by rw [HN.out]; exact hlt), List.map_append, List.map_cons, List.map_nil, HR2.out]; exact HO, HB⟩
        case measure => simp [intOf]; omega
    · have e : l.take k = l := List.take_of_length_le (by rw [HN.out]; omega)
      rw [e] at HO
      go_wp2
      go_ret
      exact ⟨_, rfl, HO.out, HB.out⟩
end Go.Proofs.YtbpadakcjnkjeaaDoor
/- The walk of caesuralaw26.OffsetsJoin: of two texts of good units, one behind the other, the counts are sums, and what is asked behind the seam is moved. Conditions: lists of at most 2^20 numbers; the table and ErrArg read as listed. -/
namespace Go.Proofs.YtbpadakcjnkjeaaDoor
open Go Go.RowKit Go.Proofs.YtbpadakcjnkjeaaDoorW.PrintWords Go.Proofs.YtbpadakcjnkjeaaDoorW.PrintLast Go.Proofs.YtbpadakcjnkjeaaDoorW.PrintMore
set_option maxRecDepth 100000
set_option linter.unusedSimpArgs false
abbrev TwT : TypeId := 24
/-- One number out of a list of numbers, as a list. -/
theorem C_one {w : World} {A : Option Addr} {n : Nat} {xs : List Int} (h : (Kd.int .i64).C w A n xs) (i : Nat) (hi : i < n) : ∃ ad, A = some ad ∧ (Kd.int .i64).C w (some (ad.add i)) 1 [rd xs i] := by
  obtain ⟨h1, h2, h3⟩ := h
  obtain ⟨ad, e, hc⟩ := h3 (by omega)
  refine ⟨ad, e, rfl, by omega, fun _ => ⟨ad.add i, rfl, fun j x hj => ?_⟩⟩
  have hl : i < xs.length := by omega
  cases j with
  | succ j => simp at hj
  | zero =>
    simp only [List.getElem?_cons_zero, Option.some.injEq] at hj
    have e0 : rd xs i = xs[i] := by simp [rd, List.getD, hl]
    obtain ⟨c, h4, h5, h6⟩ := hc i _ (List.getElem?_eq_getElem hl)
    refine ⟨c, h4, by rw [← hj, e0]; exact h5, fun m u hm => ?_⟩
    have := h6 m u hm
    simpa [Kd.int, Kd.scalar, Addr.add_add] using this
/-- What lies in memory. -/
structure OJ (w W : World) (g : Nat) (cs : Array Value) (B : Option Addr) (nb : Nat) (lb : List Int) (bb bm : Nat) (Mb Mm : Option Addr) (cb cm : Nat) (ub um : List Un) : Prop where
  bel : Below w.heap.size w W
  box : W.heap[g]? = some (.cells cs TwT (0, 0))
  r : Kd.C (Kd.int .i64) W B nb lb
  b : MapU W bb Mb cb ub
  m : MapU W bm Mm cm um
theorem OJ.below {w W W1 : World} {g : Nat} {cs : Array Value} {B : Option Addr} {nb : Nat} {lb : List Int} {bb bm : Nat} {Mb Mm : Option Addr} {cb cm : Nat} {ub um : List Un} (h : OJ w W g cs B nb lb bb bm Mb Mm cb cm ub um) (hb : Below W.heap.size W W1) : OJ w W1 g cs B nb lb bb bm Mb Mm cb cm ub um := ⟨below_of h.bel hb, blk_below h.box hb, Kd.C_below h.r hb, h.b.below hb, h.m.below hb⟩
theorem rd_map (f : Int → Int) (l : List Int) (k : Nat) (h : k < l.length) : rd (l.map f) k = f (rd l k) := by
  simp [rd, List.getD, h]
theorem enc_le (q : List Int) (h : q.all isSc = true) : (encS q).size ≤ 4 * q.length := by rw [size_enc q h]; exact flat_len q
/-- All that is known of the two lists' points. -/
structure JF (P Q : List Int) (na nb : Nat) (s t : ByteArray) (ua ub um : List Un) (W L C tW tL tC : Int) : Prop where
  ea : encS P = s
  eb : encS Q = t
  na_ : encE P = none
  nb_ : encE Q = none
  us : unitsFrom s s.size 0 = ua
  ut : unitsFrom t t.size 0 = ub
  um_ : unitsFrom (s ++ t) (s ++ t).size 0 = um
  la : ua.length = na
  lb : ub.length = nb
  lm : um.length = na + nb
  ca : Chained ua 0
  cb : Chained ub 0
  cm : Chained um 0
  pa : plA ua na = ((s.size : Int), W, L, C)
  pb : plA ub nb = ((t.size : Int), tW, tL, tC)
  se : ∀ k, k ≤ nb → Seam s.size W L C (plA um (na + k)) (plA ub k)
  ba : (0 ≤ W ∧ W ≤ 2 * (na : Int)) ∧ (1 ≤ L ∧ L ≤ (na : Int) + 1) ∧ (1 ≤ C ∧ C ≤ (na : Int) + 1)
  bb : ∀ k, k ≤ nb → (0 ≤ (plA ub k).2.1 ∧ (plA ub k).2.1 ≤ 2 * (k : Int)) ∧ (1 ≤ (plA ub k).2.2.1 ∧ (plA ub k).2.2.1 ≤ (k : Int) + 1) ∧ (1 ≤ (plA ub k).2.2.2 ∧ (plA ub k).2.2.2 ≤ (k : Int) + 1)
  nx : ∀ k, k < nb → encE [rd Q k] = none ∧ (plA ub (k + 1)).1 = (plA ub k).1 + ((encS [rd Q k]).size : Int) ∧ (encS [rd Q k]).size ≤ 4
theorem jf_of (la lb : List Int) : ∃ s t ua ub um W L C tW tL tC, JF (la.map scalarG) (lb.map scalarG) la.length lb.length s t ua ub um W L C tW tL tC := by
  have hp : (la.map scalarG).all isSc = true := by
    rw [List.all_eq_true]; intro x hx; obtain ⟨y, _, rfl⟩ := List.mem_map.1 hx; exact scalarG_sc y
  have hq : (lb.map scalarG).all isSc = true := by
    rw [List.all_eq_true]; intro x hx; obtain ⟨y, _, rfl⟩ := List.mem_map.1 hx; exact scalarG_sc y
  have hpq : (la.map scalarG ++ lb.map scalarG).all isSc = true := by rw [List.all_append, hp, hq]; rfl
  have hl1 : (unitsOf (la.map scalarG) 0).length = la.length := by rw [unitsOf_len, List.length_map]
  have hl2 : (unitsOf (lb.map scalarG) 0).length = lb.length := by rw [unitsOf_len, List.length_map]
  obtain ⟨⟨a0, W, L, C⟩, h1⟩ : ∃ p, p = plA (unitsOf (la.map scalarG) 0) la.length := ⟨_, rfl⟩
  obtain ⟨⟨tA, tW, tL, tC⟩, h2⟩ : ∃ p, p = plA (unitsOf (lb.map scalarG) 0) lb.length := ⟨_, rfl⟩
  have e0 : a0 = ((encS (la.map scalarG)).size : Int) := by
    have := end_units (encS (la.map scalarG))
    rw [units_enc _ hp, hl1, ← h1] at this
    exact this
  have e1 : tA = ((encS (lb.map scalarG)).size : Int) := by
    have := end_units (encS (lb.map scalarG))
    rw [units_enc _ hq, hl2, ← h2] at this
    exact this
  have hba := plA_bound (unitsOf (la.map scalarG) 0) la.length (by omega)
  rw [← h1] at hba
  refine ⟨_, _, _, _, _, W, L, C, tW, tL, tC, rfl, rfl, by unfold encE; rw [if_pos hp], by unfold encE; rw [if_pos hq], units_enc _ hp, units_enc _ hq, units_join _ _ hp hq, hl1, hl2, by rw [unitsOf_len, List.length_append, List.length_map, List.length_map], chained_of _ hp, chained_of _ hq, chained_of _ hpq, by rw [← h1, e0], by rw [← h2, e1], fun k hk => ?_, hba, fun k hk => plA_bound _ k (by omega), fun k hk => ?_⟩
  · have := seam_at (la.map scalarG) (lb.map scalarG) hp k
    rw [List.length_map, ← h1] at this
    exact this
  · have hk2 : k < (lb.map scalarG).length := by rw [List.length_map]; exact hk
    have hsc : isSc (rd (lb.map scalarG) k) = true := by
      have e : rd (lb.map scalarG) k = (lb.map scalarG)[k] := by simp [rd, List.getD, hk]
      rw [e]; exact List.all_eq_true.1 hq _ (List.getElem_mem hk2)
    have h1 : [rd (lb.map scalarG) k].all isSc = true := by simp [hsc]
    have h3 : [rd (lb.map scalarG) k].flatMap encP = encP (rd (lb.map scalarG) k) := by simp
    refine ⟨by unfold encE; rw [if_pos h1], ?_, ?_⟩
    · rw [size_enc _ h1, h3]; exact at_next _ hq k hk2
    · rw [size_enc _ h1, h3]; exact encP_len _
set_option maxHeartbeats 16000000 in
set_option maxRecDepth 100000 in
theorem offJoin_any (E : Nat → Addr) (A B : Option Addr) (cA cB nA nB : Nat) (lA lB : List Int) (w : World) (hE : GS [1] E w) (hf : FormsAt w) (hA : (Kd.int .i64).C w A nA lA) (hB : (Kd.int .i64).C w B nB lB) (hna : nA ≤ 1048576) (hnb : nB ≤ 1048576) :
    Calls Tryd.prog 3 #[.agg #[.slice A nA cA, .slice B nB cB]] w fun e w' => e = .returned (.bool true) ∧ Below w.heap.size w w' := by
  have HE := Sh.mk hE
  have HF := Sh.mk hf
  have HA := Sh.mk hA
  have HB := Sh.mk hB
  have HLA := Sh.mk hA.1
  have HLB := Sh.mk hB.1
  obtain ⟨s, t, ua, ub, um, WW, LL, CC, tW, tL, tC, hJ⟩ := jf_of lA lB
  rw [HLA.out, HLB.out] at hJ
  have HJ := Sh.mk hJ
  have hsA : s.size ≤ 4194304 := by rw [← hJ.ea]; have := enc_le (lA.map scalarG) (by rw [List.all_eq_true]; intro x hx; obtain ⟨y, _, rfl⟩ := List.mem_map.1 hx; exact scalarG_sc y); rw [List.length_map, HLA.out] at this; omega
  have hsB : t.size ≤ 4194304 := by rw [← hJ.eb]; have := enc_le (lB.map scalarG) (by rw [List.all_eq_true]; intro x hx; obtain ⟨y, _, rfl⟩ := List.mem_map.1 hx; exact scalarG_sc y); rw [List.length_map, HLB.out] at this; omega
  have hsM : (s ++ t).size = s.size + t.size := ByteArray.size_append
  have HSM := Sh.mk hsM
  obtain ⟨⟨bw0, bw1⟩, ⟨bl0, bl1⟩, bc0, bc1⟩ := hJ.ba
  have hbb := hJ.bb nB (Nat.le_refl _)
  rw [hJ.pb] at hbb
  obtain ⟨⟨dw0, dw1⟩, ⟨dl0, dl1⟩, dc0, dc1⟩ := hbb
  dsimp only at dw0 dw1 dl0 dl1 dc0 dc1
  obtain ⟨W0, hW0⟩ : ∃ W0, W0 = w.alloc (.cells #[.slice A nA cA, .slice B nB cB] TwT) := ⟨_, rfl⟩
  obtain ⟨g, hg⟩ : ∃ g, g = w.heap.size := ⟨_, rfl⟩
  have HX0 := Sh.mk (show W0.heap[g]? = some (.cells #[.slice A nA cA, .slice B nB cB] TwT (0, 0)) by rw [hW0, hg]; exact blk_new _ _)
  have HB0 := Sh.mk (show Below w.heap.size w W0 by rw [hW0]; exact (Below.refl _ _).alloc (Nat.le_refl _) _)
  have HW := Sh.mk hW0
  have HG := Sh.mk hg
  clear hW0 hg hE hf hA hB hJ hsM
  go_enter Tryd.func3, Tryd.ntmps3
  go_wp2_with fail
  rw [← HW.out, ← HG.out]
  clear HW
  refine (offKnown_any E W0 (HE.out.below HB0.out) (HF.out.below HB0.out)).mono ?_
  rintro e w1 ⟨rfl, hb⟩
  have HX1 := Sh.mk (blk_below HX0.out hb)
  have HB1 := Sh.mk (below_of HB0.out hb)
  clear hb HX0 HB0
  have z0 := blk_cell HX1.out 0
  have z1 := blk_cell HX1.out 1
  simp only [List.getElem?_toArray, List.getElem?_cons_zero, List.getElem?_cons_succ] at z0 z1
  go_wp2_with fail
  refine (offPoints_any A cA nA lA w1 (Kd.C_below HA.out HB1.out) (by omega)).mono ?_
  rintro e w2 ⟨v, rfl, ho, hb⟩
  obtain ⟨A2, c2, rfl, _, hC⟩ := R_open ho nA (by rw [List.length_map]; exact HLA.out)
  have HC2 := Sh.mk hC
  have HX2 := Sh.mk (blk_below HX1.out hb)
  have HB2 := Sh.mk (below_of HB1.out hb)
  clear ho hC hb HX1 HB1 z0 z1
  go_wp2_with fail
  have hen := encode_any [1] (by decide) E A2 c2 nA _ w2 (HE.out.below HB2.out) HC2.out (by omega)
  rw [HJ.out.ea, HJ.out.na_] at hen
  refine hen.mono ?_
  clear hen
  rintro e w3 ⟨rfl, hb⟩
  simp only [errV]
  have HX3 := Sh.mk (blk_below HX2.out hb)
  have HB3 := Sh.mk (below_of HB2.out hb)
  clear hb HX2 HB2 HC2
  have z1 := blk_cell HX3.out 1
  simp only [List.getElem?_toArray, List.getElem?_cons_zero, List.getElem?_cons_succ] at z1
  go_wp2_with fail
  refine (offPoints_any B cB nB lB w3 (Kd.C_below HB.out HB3.out) (by omega)).mono ?_
  rintro e w4 ⟨v, rfl, ho, hb⟩
  obtain ⟨B2, d2, rfl, _, hC⟩ := R_open ho nB (by rw [List.length_map]; exact HLB.out)
  have HC4 := Sh.mk hC
  have HX4 := Sh.mk (blk_below HX3.out hb)
  have HB4 := Sh.mk (below_of HB3.out hb)
  clear ho hC hb HX3 HB3 z1
  go_wp2_with fail
  have hen := encode_any [1] (by decide) E B2 d2 nB _ w4 (HE.out.below HB4.out) HC4.out (by omega)
  rw [HJ.out.eb, HJ.out.nb_] at hen
  refine hen.mono ?_
  clear hen
  rintro e w5 ⟨rfl, hb⟩
  simp only [errV]
  have HX5 := Sh.mk (blk_below HX4.out hb)
  have HB5 := Sh.mk (below_of HB4.out hb)
  clear hb HX4 HB4 HC4
  go_wp2_with fail
  refine (offNew_any s w5 (HF.out.below HB5.out) (by omega)).mono ?_
  rintro e w6 ⟨ba, v, rfl, hbb, hm, hb⟩
  rw [HJ.out.us] at hm
  obtain ⟨Ma, ca, rfl, hmu⟩ := hm.open HJ.out.ca (by rw [HJ.out.la]; omega)
  have HM6 := Sh.mk hmu
  have HX6 := Sh.mk (blk_below HX5.out hb)
  have HB6 := Sh.mk (below_of HB5.out hb)
  clear hm hmu hb hbb HX5 HB5
  go_wp2_with fail
  refine (offNew_any t w6 (HF.out.below HB6.out) (by omega)).mono ?_
  rintro e w7 ⟨bb, v, rfl, hbb, hm, hb⟩
  rw [HJ.out.ut] at hm
  obtain ⟨Mb, cb, rfl, hmu⟩ := hm.open HJ.out.cb (by rw [HJ.out.lb]; omega)
  have HN7 := Sh.mk hmu
  have HM7 := Sh.mk (HM6.out.below hb)
  have HX7 := Sh.mk (blk_below HX6.out hb)
  have HB7 := Sh.mk (below_of HB6.out hb)
  clear hm hmu hb hbb HX6 HB6 HM6
  go_wp2_with fail
  refine (offNew_any (s ++ t) w7 (HF.out.below HB7.out) (by have := HSM.out; omega)).mono ?_
  rintro e w8 ⟨bm, v, rfl, hbb, hm, hb⟩
  rw [HJ.out.um_] at hm
  obtain ⟨Mm, cm, rfl, hmu⟩ := hm.open HJ.out.cm (by rw [HJ.out.lm]; omega)
  have HM8 := Sh.mk (HM7.out.below hb)
  have HS8 := Sh.mk (show OJ w w8 g #[.slice A nA cA, .slice B nB cB] B nB lB bb bm Mb Mm cb cm ub um from ⟨below_of HB7.out hb, blk_below HX7.out hb, Kd.C_below HB.out (below_of HB7.out hb), HN7.out.below hb, hmu⟩)
  clear hm hmu hb hbb HX7 HB7 HM7 HN7
  go_wp2_with fail
  have hct := count_any ba Ma ca ua w8 HM8.out
  rw [HJ.out.la, HJ.out.pa] at hct
  refine hct.mono ?_
  clear hct
  rintro e w9 ⟨rfl, hb⟩
  have HM9 := Sh.mk (HM8.out.below hb)
  have HS9 := Sh.mk (HS8.out.below hb)
  clear hb HM8 HS8
  go_wp2_with fail
  have hct := count_any bb Mb cb ub w9 HS9.out.b
  rw [HJ.out.lb, HJ.out.pb] at hct
  refine hct.mono ?_
  clear hct
  rintro e w10 ⟨rfl, hb⟩
  have HM10 := Sh.mk (HM9.out.below hb)
  have HS10 := Sh.mk (HS9.out.below hb)
  clear hb HM9 HS9
  go_wp2_with fail
  have hsm := HJ.out.se nB (Nat.le_refl _)
  rw [HJ.out.pb] at hsm
  obtain ⟨⟨xA, xW, xL, xC⟩, hx⟩ : ∃ p, p = plA um (nA + nB) := ⟨_, rfl⟩
  rw [← hx] at hsm
  obtain ⟨s1, s2, s3, s4, _, _⟩ := hsm
  dsimp only at s1 s2 s3 s4
  subst s1 s2 s3
  have hct := count_any bm Mm cm um w10 HS10.out.m
  rw [HJ.out.lm, ← hx, Int.natCast_add] at hct
  refine hct.mono ?_
  clear hct hx
  rintro e w11 ⟨rfl, hb⟩
  have HM11 := Sh.mk (HM10.out.below hb)
  have HS11 := Sh.mk (HS10.out.below hb)
  clear hb HM10 HS10
  go_wp2_with fail
  have hkA : keyB ua (s.size : Int) = some nA := by
    have := keyB_at HJ.out.ca (i := nA) (by rw [HJ.out.la]; exact Nat.le_refl _)
    rw [HJ.out.pa] at this
    exact this
  have hct := line_call E ba Ma ca ua w11 (HE.out.below HS11.out.bel) HM11.out (s.size : Int)
  rw [hkA, Option.map_some, HJ.out.pa] at hct
  refine hct.mono ?_
  clear hct hkA
  rintro e w12 ⟨he, hb⟩
  obtain rfl := he
  have HS12 := Sh.mk (HS11.out.below hb)
  clear hb HM11 HS11
  go_wp2
  go_loopw [26, 27] (fun a i wr => ∃ (k : Nat), k ≤ nB + 1 ∧ i = .int .i64 k ∧ a = .int .i64 (plA ub (min k nB)).1 ∧ Sh (OJ w wr g #[.slice A nA cA, .slice B nB cB] B nB lB bb bm Mb Mm cb cm ub um)) (fun _ i _ => nB + 2 - (intOf i).toNat)
  case atStart => exact ⟨0, by omega, rfl, by rw [Nat.zero_min]; rfl, HS12⟩
  case round =>
    obtain ⟨k, hk, rfl, rfl, HS⟩ := hrel
    have z1 := blk_cell HS.out.box 1
    simp only [List.getElem?_toArray, List.getElem?_cons_zero, List.getElem?_cons_succ] at z1
    by_cases hlt : k ≤ nB
    · rw [Nat.min_eq_left hlt]
      have hlt' : k ≤ ub.length := by rw [HJ.out.lb]; exact hlt
      have hse := HJ.out.se k hlt
      have hbd := HJ.out.bb k hlt
      have hat := at_le HJ.out.cb hlt'
      rw [HJ.out.lb, HJ.out.pb] at hat
      have hkb := keyB_at HJ.out.cb hlt'
      have hkm := keyB_at HJ.out.cm (i := nA + k) (by rw [HJ.out.lm]; omega)
      obtain ⟨⟨yA, yW, yL, yC⟩, hy⟩ : ∃ p, p = plA ub k := ⟨_, rfl⟩
      obtain ⟨⟨xA, xW, xL, xC⟩, hx⟩ : ∃ p, p = plA um (nA + k) := ⟨_, rfl⟩
      rw [← hy] at hse hbd hat hkb
      rw [← hx] at hse hkm
      rw [← hy]
      dsimp only at hbd hat hkb hkm
      obtain ⟨s1, s2, s3, s4, s5, s6⟩ := hse
      dsimp only at s1 s2 s3 s4 s5 s6
      subst s1 s2 s3
      obtain ⟨⟨g0, g1⟩, ⟨g2, g3⟩, g4, g5⟩ := hbd
      obtain ⟨g6, g7⟩ := hat
      have HKB := Sh.mk hkb
      have HKM := Sh.mk hkm
      have HY := Sh.mk hy
      have HXX := Sh.mk hx
      have HC := Sh.mk (show (yL = 1 ∧ xC = CC + yC - 1) ∨ (1 < yL ∧ xC = yC) by
        by_cases h : yL = 1
        · exact Or.inl ⟨h, s5 h⟩
        · exact Or.inr ⟨by omega, s6 (by omega)⟩)
      clear hkb hkm hy hx s4 s5 s6 hlt'
      have hk1 : k ≤ 1048576 := by omega
      have hyA : yA ≤ 4194304 := by omega
      clear g7
      rcases HC.out with ⟨hy1, hx1⟩ | ⟨hy1, hx1⟩
      case inl =>
        subst hx1
        subst hy1
        clear HC
        go_wp2_with fail
        have hct := unit_call E bb Mb cb ub wr (HE.out.below HS.out.bel) HS.out.b yA
        rw [HKB.out, Option.map_some, show Int.ofNat k = (k : Int) from rfl] at hct
        refine hct.mono ?_
        clear hct
        rintro e w13 ⟨he, hb⟩
        obtain rfl := he
        have HS3 := Sh.mk (HS.out.below hb)
        clear hb z1
        go_wp2_with fail
        have hct := unit_call E bm Mm cm um w13 (HE.out.below HS3.out.bel) HS3.out.m (s.size + yA)
        rw [HKM.out, Option.map_some, show Int.ofNat (nA + k) = (nA : Int) + (k : Int) from Int.natCast_add _ _] at hct
        refine hct.mono ?_
        clear hct
        rintro e w14 ⟨he, hb⟩
        obtain rfl := he
        have HS4 := Sh.mk (HS3.out.below hb)
        clear hb HS3
        go_wp2_with fail
        have hct := wide_call E bb Mb cb ub w14 (HE.out.below HS4.out.bel) HS4.out.b yA
        rw [HKB.out, Option.map_some, ← HY.out] at hct
        refine hct.mono ?_
        clear hct
        rintro e w15 ⟨he, hb⟩
        obtain rfl := he
        have HS5 := Sh.mk (HS4.out.below hb)
        clear hb HS4
        go_wp2_with fail
        have hct := wide_call E bm Mm cm um w15 (HE.out.below HS5.out.bel) HS5.out.m (s.size + yA)
        rw [HKM.out, Option.map_some, ← HXX.out] at hct
        refine hct.mono ?_
        clear hct
        rintro e w16 ⟨he, hb⟩
        obtain rfl := he
        have HS6 := Sh.mk (HS5.out.below hb)
        clear hb HS5
        go_wp2_with fail
        have hct := line_call E bb Mb cb ub w16 (HE.out.below HS6.out.bel) HS6.out.b yA
        rw [HKB.out, Option.map_some, ← HY.out] at hct
        refine hct.mono ?_
        clear hct
        rintro e w17 ⟨he, hb⟩
        obtain rfl := he
        have HS7 := Sh.mk (HS6.out.below hb)
        clear hb HS6
        go_wp2_with fail
        have hct := line_call E bm Mm cm um w17 (HE.out.below HS7.out.bel) HS7.out.m (s.size + yA)
        rw [HKM.out, Option.map_some, ← HXX.out] at hct
        refine hct.mono ?_
        clear hct
        rintro e w18 ⟨he, hb⟩
        obtain rfl := he
        have HS8 := Sh.mk (HS7.out.below hb)
        clear hb HS7
        have z1 := blk_cell HS8.out.box 1
        simp only [List.getElem?_toArray, List.getElem?_cons_zero, List.getElem?_cons_succ] at z1
        by_cases hlt2 : k < nB
        · go_wp2_with fail
          refine (offPoints_any B cB nB lB w18 HS8.out.r (by omega)).mono ?_
          rintro e w19 ⟨v, rfl, ho, hb⟩
          have hql : (lB.map scalarG).length = nB := by rw [List.length_map]; exact HLB.out
          obtain ⟨gq, cq, rfl, _⟩ := Kd.R_form ho (by omega)
          obtain ⟨_, hcq, hC⟩ := Kd.R_reads' ho
          rw [hql] at hcq hC ⊢
          obtain ⟨adq, e1, hC1⟩ := C_one hC k hlt2
          cases e1
          rw [add_plain] at hC1
          have HC1 := Sh.mk hC1
          have HS9 := Sh.mk (HS8.out.below hb)
          have HNX := Sh.mk (HJ.out.nx k hlt2)
          clear hb ho hC hC1 hql HS8 z1
          go_wp2_with fail
          have hen := encode_any [1] (by decide) E (some ⟨gq, k, none⟩) (cq - k) 1 _ w19 (HE.out.below HS9.out.bel) HC1.out (by omega)
          rw [HNX.out.1] at hen
          refine hen.mono ?_
          clear hen
          rintro e w20 ⟨rfl, hb⟩
          simp only [errV]
          obtain ⟨p, hp⟩ : ∃ p, p = encS [rd (lB.map scalarG) k] := ⟨_, rfl⟩
          rw [← hp]
          have HPS := Sh.mk (show (plA ub (k + 1)).1 = yA + (p.size : Int) by rw [HNX.out.2.1, ← HY.out, hp])
          have hps : p.size ≤ 4 := by rw [hp]; exact HNX.out.2.2
          have HS10 := Sh.mk (HS9.out.below hb)
          clear hb hp HS9 HC1
          go_wp2
          go_roundw
          case rel => exact ⟨k + 1, by omega, by go_num, by rw [Nat.min_eq_left (by omega), HPS.out], HS10⟩
          case measure => simp [intOf] <;> omega
        · obtain rfl : k = nB := by omega
          go_wp2
          go_roundw
          case rel => exact ⟨k + 1, by omega, by go_num, by rw [Nat.min_eq_right (by omega), ← HY.out], HS8⟩
          case measure => simp [intOf] <;> omega
      case inr =>
        subst hx1
        clear HC
        have hy2 : (yL == 1) = false := by simp; omega
        go_wp2_with fail
        have hct := unit_call E bb Mb cb ub wr (HE.out.below HS.out.bel) HS.out.b yA
        rw [HKB.out, Option.map_some, show Int.ofNat k = (k : Int) from rfl] at hct
        refine hct.mono ?_
        clear hct
        rintro e w13 ⟨he, hb⟩
        obtain rfl := he
        have HS3 := Sh.mk (HS.out.below hb)
        clear hb z1
        go_wp2_with fail
        have hct := unit_call E bm Mm cm um w13 (HE.out.below HS3.out.bel) HS3.out.m (s.size + yA)
        rw [HKM.out, Option.map_some, show Int.ofNat (nA + k) = (nA : Int) + (k : Int) from Int.natCast_add _ _] at hct
        refine hct.mono ?_
        clear hct
        rintro e w14 ⟨he, hb⟩
        obtain rfl := he
        have HS4 := Sh.mk (HS3.out.below hb)
        clear hb HS3
        go_wp2_with fail
        have hct := wide_call E bb Mb cb ub w14 (HE.out.below HS4.out.bel) HS4.out.b yA
        rw [HKB.out, Option.map_some, ← HY.out] at hct
        refine hct.mono ?_
        clear hct
        rintro e w15 ⟨he, hb⟩
        obtain rfl := he
        have HS5 := Sh.mk (HS4.out.below hb)
        clear hb HS4
        go_wp2_with fail
        have hct := wide_call E bm Mm cm um w15 (HE.out.below HS5.out.bel) HS5.out.m (s.size + yA)
        rw [HKM.out, Option.map_some, ← HXX.out] at hct
        refine hct.mono ?_
        clear hct
        rintro e w16 ⟨he, hb⟩
        obtain rfl := he
        have HS6 := Sh.mk (HS5.out.below hb)
        clear hb HS5
        go_wp2_with fail
        have hct := line_call E bb Mb cb ub w16 (HE.out.below HS6.out.bel) HS6.out.b yA
        rw [HKB.out, Option.map_some, ← HY.out] at hct
        refine hct.mono ?_
        clear hct
        rintro e w17 ⟨he, hb⟩
        obtain rfl := he
        have HS7 := Sh.mk (HS6.out.below hb)
        clear hb HS6
        go_wp2_with fail
        have hct := line_call E bm Mm cm um w17 (HE.out.below HS7.out.bel) HS7.out.m (s.size + yA)
        rw [HKM.out, Option.map_some, ← HXX.out] at hct
        refine hct.mono ?_
        clear hct
        rintro e w18 ⟨he, hb⟩
        obtain rfl := he
        have HS8 := Sh.mk (HS7.out.below hb)
        clear hb HS7
        have z1 := blk_cell HS8.out.box 1
        simp only [List.getElem?_toArray, List.getElem?_cons_zero, List.getElem?_cons_succ] at z1
        by_cases hlt2 : k < nB
        · go_wp2_with fail
          refine (offPoints_any B cB nB lB w18 HS8.out.r (by omega)).mono ?_
          rintro e w19 ⟨v, rfl, ho, hb⟩
          have hql : (lB.map scalarG).length = nB := by rw [List.length_map]; exact HLB.out
          obtain ⟨gq, cq, rfl, _⟩ := Kd.R_form ho (by omega)
          obtain ⟨_, hcq, hC⟩ := Kd.R_reads' ho
          rw [hql] at hcq hC ⊢
          obtain ⟨adq, e1, hC1⟩ := C_one hC k hlt2
          cases e1
          rw [add_plain] at hC1
          have HC1 := Sh.mk hC1
          have HS9 := Sh.mk (HS8.out.below hb)
          have HNX := Sh.mk (HJ.out.nx k hlt2)
          clear hb ho hC hC1 hql HS8 z1
          go_wp2_with fail
          have hen := encode_any [1] (by decide) E (some ⟨gq, k, none⟩) (cq - k) 1 _ w19 (HE.out.below HS9.out.bel) HC1.out (by omega)
          rw [HNX.out.1] at hen
          refine hen.mono ?_
          clear hen
          rintro e w20 ⟨rfl, hb⟩
          simp only [errV]
          obtain ⟨p, hp⟩ : ∃ p, p = encS [rd (lB.map scalarG) k] := ⟨_, rfl⟩
          rw [← hp]
          have HPS := Sh.mk (show (plA ub (k + 1)).1 = yA + (p.size : Int) by rw [HNX.out.2.1, ← HY.out, hp])
          have hps : p.size ≤ 4 := by rw [hp]; exact HNX.out.2.2
          have HS10 := Sh.mk (HS9.out.below hb)
          clear hb hp HS9 HC1
          go_wp2
          go_roundw
          case rel => exact ⟨k + 1, by omega, by go_num, by rw [Nat.min_eq_left (by omega), HPS.out], HS10⟩
          case measure => simp [intOf] <;> omega
        · obtain rfl : k = nB := by omega
          go_wp2
          go_roundw
          case rel => exact ⟨k + 1, by omega, by go_num, by rw [Nat.min_eq_right (by omega), ← HY.out], HS8⟩
          case measure => simp [intOf] <;> omega
    · obtain rfl : k = nB + 1 := by omega
      go_wp2
      go_ret
      exact ⟨rfl, HS.out.bel⟩
end Go.Proofs.YtbpadakcjnkjeaaDoor
