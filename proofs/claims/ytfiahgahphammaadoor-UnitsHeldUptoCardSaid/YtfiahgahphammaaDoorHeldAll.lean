/-
Several texts as one: Bound, StepsLaw, StepsW, StepsW2, CutLaw, CutLaw2, CutsW, PiecesLaw, PiecesLaw2, PickFirst, HeldLaw, HeldW.
-/
import Derived.Test.YtfiahgahphammaaDoorSplit
import Derived.Test.YtfiahgahphammaaDoorSameUnits
import Derived.Test.YtfiahgahphammaaDoorUnitEq
/- Where units begin and end: a place is one where no unit of more than one byte goes on over it. Plain Lean. -/
namespace Go.Proofs.YtfiahgahphammaaDoor
open Go Go.RowKit Go.Proofs.YtfiahgahphammaaDoorW.PrintWords Go.Proofs.YtfiahgahphammaaDoorW.PrintLast Go.Proofs.YtfiahgahphammaaDoorW.PrintMore
/-- A unit, whole. -/
def unitTr (s : ByteArray) (i : Nat) : Int × Int × Int := (unitPt s i, (i : Int), (i : Int) + (unitLen s i : Int))
theorem form_lohi (k : Nat) (hk : k < 8) : 128 ≤ formAt k 2 ∧ formAt k 3 ≤ 191 ∧ 194 ≤ formAt k 0 := by
  have h : k = 0 ∨ k = 1 ∨ k = 2 ∨ k = 3 ∨ k = 4 ∨ k = 5 ∨ k = 6 ∨ k = 7 := by omega
  rcases h with rfl | rfl | rfl | rfl | rfl | rfl | rfl | rfl <;> decide
/-- What a good unit's bytes are. -/
theorem good_bytes {s : ByteArray} {i n : Nat} {p : Int} (h : unitO s i = some (p, n)) (hi : i < s.size) : 0 ≤ p ∧ 1 ≤ n ∧ n ≤ 4 ∧ i + n ≤ s.size ∧ (∀ j, 1 ≤ j → j < n → 128 ≤ bt s (i + j : Nat) ∧ bt s (i + j : Nat) ≤ 191) ∧ (2 ≤ n → 194 ≤ bt s i) := by
  have hb := bt_range s i
  by_cases h128 : bt s i < 128
  · rw [unit_ascii h128] at h
    cases h
    exact ⟨hb.1, by omega, by omega, by omega, fun j h1 h2 => by omega, fun h => by omega⟩
  · cases hl : leadF (bt s i) with
    | none => rw [unit_none (by omega) hl] at h; cases h
    | some k =>
      have hk := leadF_lt hl
      have hf := form_facts k hk
      have hlo := form_lohi k hk
      have hls := lead_some hl
      have hz : formAt k 4 = 2 ∨ formAt k 4 = 3 ∨ formAt k 4 = 4 := by omega
      have hm : 0 ≤ bt s i % (formAt k 5 + 1) := Int.emod_nonneg _ (by omega)
      rcases hz with hz | hz | hz
      · rw [unit_form2 (by omega) hl hz] at h
        split at h
        · rename_i hc
          cases h
          refine ⟨by omega, by omega, by omega, by omega, fun j h1 h2 => ?_, fun _ => by omega⟩
          obtain rfl : j = 1 := by omega
          omega
        · cases h
      · rw [unit_form3 (by omega) hl hz] at h
        split at h
        · rename_i hc
          cases h
          refine ⟨by omega, by omega, by omega, by omega, fun j h1 h2 => ?_, fun _ => by omega⟩
          have : j = 1 ∨ j = 2 := by omega
          rcases this with rfl | rfl <;> omega
        · cases h
      · rw [unit_form4 (by omega) hl hz] at h
        split at h
        · rename_i hc
          cases h
          refine ⟨by omega, by omega, by omega, by omega, fun j h1 h2 => ?_, fun _ => by omega⟩
          have : j = 1 ∨ j = 2 ∨ j = 3 := by omega
          rcases this with rfl | rfl | rfl <;> omega
        · cases h
theorem pt_good {s : ByteArray} {i : Nat} (hi : i < s.size) : unitPt s i ≠ -1 ↔ ∃ p n, unitO s i = some (p, n) := by
  unfold unitPt
  cases h : unitO s i with
  | none => simp
  | some x =>
    obtain ⟨p, n⟩ := x
    have := (good_bytes h hi).1
    simp
    omega
/-- A place over which a good unit goes on. -/
def cov (s : ByteArray) (q at_ : Nat) : Prop := unitPt s q ≠ -1 ∧ q < at_ ∧ at_ < q + unitLen s q
theorem len_one {s : ByteArray} {i : Nat} (hi : i < s.size) (h : 2 ≤ unitLen s i) : unitPt s i ≠ -1 := by
  rw [pt_good hi]
  unfold unitLen at h
  cases hu : unitO s i with
  | none => rw [hu] at h; exact absurd h (by decide)
  | some x => exact ⟨x.1, x.2, rfl⟩
theorem cov_bytes {s : ByteArray} {q at_ : Nat} (hq : q < s.size) (h : cov s q at_) : 128 ≤ bt s at_ ∧ bt s at_ ≤ 191 ∧ 194 ≤ bt s q ∧ q + unitLen s q ≤ s.size := by
  obtain ⟨h1, h2, h3⟩ := h
  obtain ⟨p, n, hu⟩ := (pt_good hq).1 h1
  have hl : unitLen s q = n := by unfold unitLen; rw [hu]
  rw [hl] at h3
  obtain ⟨_, _, _, g4, g5, g6⟩ := good_bytes hu hq
  have := g5 (at_ - q) (by omega) (by omega)
  rw [show q + (at_ - q) = at_ by omega] at this
  rw [hl]
  exact ⟨this.1, this.2, g6 (by omega), g4⟩
/-- From place i on, a unit begins at j. -/
inductive Begins (s : ByteArray) (i : Nat) : Nat → Prop
  | here : Begins s i i
  | next {j : Nat} : Begins s i j → j < s.size → Begins s i (j + unitLen s j)
theorem Begins.le {s : ByteArray} {i j : Nat} (h : Begins s i j) : i ≤ j := by
  induction h with
  | here => exact Nat.le_refl _
  | next _ _ ih => omega
theorem Begins.apart {s : ByteArray} {i j k : Nat} (hj : Begins s i j) (hk : Begins s i k) (hlt : j < k) : j + unitLen s j ≤ k := by
  induction hk with
  | here => have := hj.le; omega
  | next h1 h2 ih =>
    rename_i k'
    have := (unitLen_pos s k').1
    by_cases h : j < k'
    · have := ih h; omega
    · by_cases h3 : j = k'
      · subst h3; exact Nat.le_refl _
      · -- k' < j < k' + len: j would lie inside
        exfalso
        have : ∀ m, Begins s i m → k' < m → k' + unitLen s k' ≤ m := by
          intro m hm
          induction hm with
          | here => intro h4; have := h1.le; omega
          | next h5 h6 ih2 =>
            rename_i m'
            intro h4
            by_cases h7 : k' < m'
            · have := ih2 h7; omega
            · by_cases h8 : k' = m'
              · subst h8; exact Nat.le_refl _
              · -- m' < k' < m' + len m'
                have hm' : m' < k' := by omega
                exact absurd (Begins.apart h5 h1 hm') (by omega)
        have := this j hj (by omega)
        omega
theorem Begins.trans {s : ByteArray} {i j k : Nat} (h : Begins s i j) (h2 : Begins s j k) : Begins s i k := by
  induction h2 with
  | here => exact h
  | next _ hlt ih => exact ih.next hlt
theorem begins_cons {s : ByteArray} {i k : Nat} : Begins s i k ↔ k = i ∨ (i < s.size ∧ Begins s (i + unitLen s i) k) := by
  constructor
  · intro h
    induction h with
    | here => exact Or.inl rfl
    | next h hlt ih =>
      rcases ih with rfl | ⟨h1, h2⟩
      · exact Or.inr ⟨hlt, Begins.here⟩
      · exact Or.inr ⟨h1, h2.next hlt⟩
  · rintro (rfl | ⟨h1, h2⟩)
    · exact Begins.here
    · exact (Begins.here.next h1).trans h2
/-- Each place lies in a unit. -/
theorem in_unit (s : ByteArray) (i : Nat) : ∀ d, i + d < s.size → ∃ q, Begins s i q ∧ q ≤ i + d ∧ i + d < q + unitLen s q
  | 0, h => ⟨i, Begins.here, by omega, by have := (unitLen_pos s i).1; omega⟩
  | d + 1, h => by
    obtain ⟨q, h1, h2, h3⟩ := in_unit s i d (by omega)
    by_cases hlt : i + (d + 1) < q + unitLen s q
    · exact ⟨q, h1, by omega, hlt⟩
    · exact ⟨q + unitLen s q, h1.next (by omega), by omega, by have := (unitLen_pos s (q + unitLen s q)).1; omega⟩
theorem in_unit0 (s : ByteArray) (a : Nat) (h : a < s.size) : ∃ q, Begins s 0 q ∧ q ≤ a ∧ a < q + unitLen s q := by
  have := in_unit s 0 a (by omega)
  simpa using this
theorem begins_iff {s : ByteArray} {a : Nat} (ha : a < s.size) : Begins s 0 a ↔ ¬ ∃ q, q < a ∧ cov s q a := by
  constructor
  · rintro hB ⟨q, hq, hc⟩
    obtain ⟨r, h1, h2, h3⟩ := in_unit0 s q (by omega)
    by_cases hr : r = q
    · subst hr
      have := h1.apart hB hq
      have := hc.2.2
      omega
    · have hcr : cov s r q := ⟨len_one (by omega) (by omega), by omega, h3⟩
      have g1 := cov_bytes (by omega) hcr
      have g2 := cov_bytes (by omega) hc
      omega
  · intro h
    obtain ⟨q, h1, h2, h3⟩ := in_unit0 s a ha
    by_cases hq : q = a
    · exact hq ▸ h1
    · exact absurd ⟨q, by omega, len_one (by omega) (by omega), by omega, h3⟩ h
theorem unit_end {s : ByteArray} {q : Nat} (hq : q < s.size) : q + unitLen s q ≤ s.size := by
  unfold unitLen
  cases hu : unitO s q with
  | none => exact hq
  | some x =>
    obtain ⟨p, n⟩ := x
    exact (good_bytes hu hq).2.2.2.1
/-- A unit ends at a place. -/
theorem ends_of {s : ByteArray} {a : Nat} (h0 : 0 < a) (ha : a ≤ s.size) (h : a = s.size ∨ Begins s 0 a) : ∃ q, q < s.size ∧ Begins s 0 q ∧ q + unitLen s q = a := by
  rcases h with rfl | h
  · obtain ⟨q, h1, h2, h3⟩ := in_unit0 s (s.size - 1) (by omega)
    have := unit_end (s := s) (q := q) (by omega)
    exact ⟨q, by omega, h1, by omega⟩
  · cases h with
    | here => omega
    | next h1 h2 => exact ⟨_, h2, h1, rfl⟩
theorem ends_begins {s : ByteArray} {q : Nat} (hq : q < s.size) (hB : Begins s 0 q) : Begins s 0 (q + unitLen s q) := hB.next hq
theorem find_start (s : ByteArray) (a : Nat) : ∀ (f i : Nat), s.size ≤ i + f →
    ((Begins s i a ∧ a < s.size) → (unitsFrom s f i).find? (fun u => u.2.1 == (a : Int)) = some (unitTr s a)) ∧ (¬ (Begins s i a ∧ a < s.size) → (unitsFrom s f i).find? (fun u => u.2.1 == (a : Int)) = none)
  | 0, i, h => ⟨fun ⟨h1, h2⟩ => by have := h1.le; omega, fun _ => rfl⟩
  | f + 1, i, h => by
    have hl := unitLen_pos s i
    have ih := find_start s a f (i + unitLen s i) (by omega)
    rw [unitsFrom]
    by_cases hlt : i < s.size
    · rw [if_pos hlt, List.find?_cons]
      by_cases hia : i = a
      · subst hia
        simp only [beq_self_eq_true]
        exact ⟨fun _ => rfl, fun h => absurd ⟨Begins.here, hlt⟩ h⟩
      · have hne : ((i : Int) == (a : Int)) = false := by simp; omega
        simp only [hne]
        have hc : Begins s i a ↔ Begins s (i + unitLen s i) a := by
          rw [begins_cons (k := a) (i := i)]
          exact ⟨fun h => h.elim (fun e => absurd e.symm hia) (fun h => h.2), fun h => Or.inr ⟨hlt, h⟩⟩
        rw [hc]
        exact ih
    · rw [if_neg hlt]
      exact ⟨fun ⟨h1, h2⟩ => by have := h1.le; omega, fun _ => rfl⟩
theorem find_end (s : ByteArray) (a : Nat) : ∀ (f i : Nat), s.size ≤ i + f →
    (∀ q, Begins s i q → q < s.size → q + unitLen s q = a → (unitsFrom s f i).find? (fun u => u.2.2 == (a : Int)) = some (unitTr s q)) ∧ ((¬ ∃ q, Begins s i q ∧ q < s.size ∧ q + unitLen s q = a) → (unitsFrom s f i).find? (fun u => u.2.2 == (a : Int)) = none)
  | 0, i, h => ⟨fun q h1 h2 _ => by have := h1.le; omega, fun _ => rfl⟩
  | f + 1, i, h => by
    have hl := unitLen_pos s i
    have ih := find_end s a f (i + unitLen s i) (by omega)
    rw [unitsFrom]
    by_cases hlt : i < s.size
    · rw [if_pos hlt, List.find?_cons]
      by_cases hia : i + unitLen s i = a
      · have he : ((i : Int) + (unitLen s i : Int) == (a : Int)) = true := by simp; omega
        simp only [he]
        refine ⟨fun q h1 h2 h3 => ?_, fun h => absurd ⟨i, Begins.here, hlt, hia⟩ h⟩
        rcases begins_cons.1 h1 with rfl | ⟨_, h4⟩
        · rfl
        · have := h4.le; have := (unitLen_pos s q).1; omega
      · have hne : ((i : Int) + (unitLen s i : Int) == (a : Int)) = false := by simp; omega
        simp only [hne]
        refine ⟨fun q h1 h2 h3 => ?_, fun h => ih.2 (fun ⟨q, h1, h2, h3⟩ => h ⟨q, begins_cons.2 (Or.inr ⟨hlt, h1⟩), h2, h3⟩)⟩
        rcases begins_cons.1 h1 with rfl | ⟨_, h4⟩
        · exact absurd h3 hia
        · exact ih.1 q h4 h2 h3
    · rw [if_neg hlt]
      exact ⟨fun q h1 h2 _ => by have := h1.le; omega, fun _ => rfl⟩
end Go.Proofs.YtfiahgahphammaaDoor
/- Next and Prev: what the program finds is what the document finds in the list. Plain Lean. -/
namespace Go.Proofs.YtfiahgahphammaaDoor
open Go Go.RowKit Go.Proofs.YtfiahgahphammaaDoorW.PrintWords Go.Proofs.YtfiahgahphammaaDoorW.PrintLast Go.Proofs.YtfiahgahphammaaDoorW.PrintMore
def covB (s : ByteArray) (q a : Nat) : Bool := decide (unitPt s q ≠ -1) && decide (a < q + unitLen s q)
def insideR (s : ByteArray) (a : Nat) : Bool := (List.range 3).any fun b => decide (b + 1 ≤ a) && covB s (a - (b + 1)) a
theorem inside_iff {s : ByteArray} {a : Nat} : insideR s a = true ↔ ∃ q, q < a ∧ cov s q a := by
  simp only [insideR, covB, List.any_eq_true, List.mem_range, Bool.and_eq_true, decide_eq_true_eq]
  constructor
  · rintro ⟨b, hb, h1, h2, h3⟩
    exact ⟨a - (b + 1), by omega, h2, by omega, h3⟩
  · rintro ⟨q, hq, h1, h2, h3⟩
    have := (unitLen_pos s q).2
    exact ⟨a - q - 1, by omega, by omega, by rw [show a - (a - q - 1 + 1) = q by omega]; exact h1, by rw [show a - (a - q - 1 + 1) = q by omega]; exact h3⟩
/-- What Next answers. -/
def nextR (s : ByteArray) (a : Int) : Option (Int × Int × Int) := if a < 0 ∨ (s.size : Int) ≤ a then none else if insideR s a.toNat then none else some (unitTr s a.toNat)
theorem starts_nonneg (s : ByteArray) : ∀ (f i : Nat) (u : Int × Int × Int), u ∈ unitsFrom s f i → 0 ≤ u.2.1 ∧ 0 < u.2.2
  | 0, _, u, h => by simp [unitsFrom] at h
  | f + 1, i, u, h => by
    have hl := unitLen_pos s i
    rw [unitsFrom] at h
    split at h
    · rcases List.mem_cons.1 h with rfl | h
      · exact ⟨by simp, by simp; omega⟩
      · exact starts_nonneg s f _ u h
    · simp at h
theorem next_eq (s : ByteArray) (a : Int) : (unitsFrom s s.size 0).find? (fun u => u.2.1 == a) = nextR s a := by
  unfold nextR
  by_cases h0 : a < 0
  · rw [if_pos (Or.inl h0), List.find?_eq_none]
    intro u hu he
    have := (starts_nonneg s _ _ u hu).1
    simp at he
    omega
  · obtain ⟨k, rfl⟩ := Int.eq_ofNat_of_zero_le (show 0 ≤ a by omega)
    have hfs := find_start s k s.size 0 (by omega)
    by_cases hk : s.size ≤ k
    · rw [if_pos (Or.inr (by exact Int.ofNat_le.2 hk))]
      exact hfs.2 (fun h => by omega)
    · rw [if_neg (fun h => by rcases h with h | h <;> omega)]
      have hlt : k < s.size := by omega
      simp only [Int.toNat_natCast]
      cases hin : insideR s k with
      | true => exact hfs.2 (fun h => (begins_iff hlt).1 h.1 (inside_iff.1 hin))
      | false => exact hfs.1 ⟨(begins_iff hlt).2 (fun h => by have := inside_iff.2 h; rw [hin] at this; cases this), hlt⟩
/-- What Prev answers. -/
def prevAux (s : ByteArray) (a : Nat) : Nat → Int × Int × Int
  | 0 => unitTr s (a - 1)
  | 1 => unitTr s (a - 1)
  | b + 2 => if unitPt s (a - (b + 2)) ≠ -1 ∧ a - (b + 2) + unitLen s (a - (b + 2)) = a then unitTr s (a - (b + 2)) else prevAux s a (b + 1)
def prevR (s : ByteArray) (a : Int) : Option (Int × Int × Int) := if a ≤ 0 ∨ (s.size : Int) < a then none else if a < s.size ∧ insideR s a.toNat = true then none else some (prevAux s a.toNat (min 4 a.toNat))
theorem prevAux_eq {s : ByteArray} {a q : Nat} (hq : q < s.size) (hB : Begins s 0 q) (he : q + unitLen s q = a) (ha : a ≤ s.size) : ∀ b, a - q ≤ b → b ≤ a → prevAux s a b = unitTr s q
  | 0, h, _ => by have := (unitLen_pos s q).1; omega
  | 1, h, _ => by have := (unitLen_pos s q).1; rw [prevAux, show a - 1 = q by omega]
  | b + 2, h, hba => by
    have hl := unitLen_pos s q
    rw [prevAux]
    by_cases hbq : a - (b + 2) = q
    · rw [hbq, if_pos ⟨len_one hq (by omega), he⟩]
    · rw [if_neg ?_]
      · exact prevAux_eq hq hB he ha (b + 1) (by omega) (by omega)
      · rintro ⟨h1, h2⟩
        exact (begins_iff hq).1 hB ⟨a - (b + 2), by omega, h1, by omega, by omega⟩
theorem prev_eq (s : ByteArray) (a : Int) : (unitsFrom s s.size 0).find? (fun u => u.2.2 == a) = prevR s a := by
  unfold prevR
  by_cases h0 : a ≤ 0
  · rw [if_pos (Or.inl h0), List.find?_eq_none]
    intro u hu he
    have := (starts_nonneg s _ _ u hu).2
    simp at he
    omega
  · obtain ⟨k, rfl⟩ := Int.eq_ofNat_of_zero_le (show 0 ≤ a by omega)
    have hfe := find_end s k s.size 0 (by omega)
    by_cases hk : s.size < k
    · rw [if_pos (Or.inr (by exact Int.ofNat_lt.2 hk))]
      exact hfe.2 (fun ⟨q, h1, h2, h3⟩ => by have := unit_end h2; omega)
    · rw [if_neg (fun h => by rcases h with h | h <;> omega)]
      simp only [Int.toNat_natCast]
      by_cases hin : (k : Int) < s.size ∧ insideR s k = true
      · rw [if_pos hin]
        refine hfe.2 (fun ⟨q, h1, h2, h3⟩ => ?_)
        have hb := ends_begins h2 h1
        rw [h3] at hb
        exact (begins_iff (by omega)).1 hb (inside_iff.1 hin.2)
      · rw [if_neg hin]
        obtain ⟨q, h1, h2, h3⟩ := ends_of (s := s) (a := k) (by omega) (by omega) (by
          by_cases hks : k = s.size
          · exact Or.inl hks
          · refine Or.inr ((begins_iff (by omega)).2 (fun h => hin ⟨by omega, inside_iff.2 h⟩)))
        have hl := unitLen_pos s q
        rw [prevAux_eq h1 h2 h3 (by omega) (min 4 k) (by omega) (by omega)]
        exact hfe.1 q h2 h1 h3
end Go.Proofs.YtfiahgahphammaaDoor
/- units.inside, Next, Prev, the document's Next and Prev, walked. Conditions: the text's size; the table reads as listed. -/
namespace Go.Proofs.YtfiahgahphammaaDoor
open Go Go.RowKit Go.Proofs.YtfiahgahphammaaDoorW.PrintWords Go.Proofs.YtfiahgahphammaaDoorW.PrintLast Go.Proofs.YtfiahgahphammaaDoorW.PrintMore
attribute [local go_sem high] eqU
theorem any_range_succ {k n : Nat} {p : Nat → Bool} (hk : k < n) (h : (List.range k).any p = false) : (p k = true → (List.range n).any p = true) ∧ (p k = false → (List.range (k + 1)).any p = false) := by
  constructor
  · intro hp
    exact List.any_eq_true.2 ⟨k, by simpa using hk, hp⟩
  · intro hp
    rw [List.range_succ, List.any_append, h]
    simp [hp]
theorem any_above {k n : Nat} {p : Nat → Bool} (h : (List.range k).any p = false) (hn : ∀ b, k ≤ b → b < n → p b = false) : (List.range n).any p = false := by
  rw [List.any_eq_false] at h ⊢
  intro b hb
  by_cases hlt : b < k
  · exact h b (by simpa using hlt)
  · rw [hn b (by omega) (by simpa using hb)]
    simp
set_option maxRecDepth 100000 in
set_option maxHeartbeats 4000000 in
theorem inside_any (s : ByteArray) (a : Nat) (w : World) (hf : FormsAt w) (ha : a < s.size) (hs : s.size ≤ 140737488355327) :
    Calls Tryd.prog 41 #[.string s, .int .i64 a] w fun e w' => e = .returned (.bool (insideR s a)) ∧ Below w.heap.size w w' := by
  have HF := Sh.mk hf
  clear hf
  go_enter Tryd.func41, Tryd.ntmps41
  go_wp2
  go_loopw [5] (fun v wr => ∃ k : Nat, k ≤ 3 ∧ v = .int .i64 ((k + 1 : Nat) : Int) ∧ Sh ((List.range k).any (fun b => decide (b + 1 ≤ a) && covB s (a - (b + 1)) a) = false) ∧ Sh (Below w.heap.size w wr)) (fun v _ => 4 - (intOf v).toNat)
  case atStart => exact ⟨0, by omega, rfl, ⟨rfl⟩, ⟨Below.refl _ _⟩⟩
  case round =>
    obtain ⟨k, hk, rfl, HN, HB⟩ := hrel
    obtain ⟨b, hb⟩ : ∃ b, b = k + 1 := ⟨_, rfl⟩
    rw [← hb]
    have HBK := Sh.mk hb
    clear hb
    by_cases h3 : b ≤ 3
    · have l1 : decide (b ≤ 3) = true := by simpa using h3
      have l1' : decide ((b : Int) ≤ 3) = true := by simp; omega
      by_cases hba : b ≤ a
      · have l2 : decide (b ≤ a) = true := by simpa using hba
        have hk3 : k < 3 := by have := HBK.out; omega
        obtain ⟨q, hq⟩ : ∃ q, q = a - b := ⟨_, rfl⟩
        have e1 : (a : Int) - (b : Int) = (q : Int) := by omega
        have hqs : q < s.size := by omega
        have HQ := Sh.mk hq
        have hpos := HBK.out
        have hpos2 : 1 ≤ b := by omega
        clear hq hpos
        go_wp2_with fail
        refine (unit_any s q wr (HF.out.below HB.out) hqs hs).mono ?_
        rintro e w1 ⟨rfl, hb1⟩
        have HB1 := Sh.mk (below_of HB.out hb1)
        have HB2 : Sh (∀ o, Below w.heap.size w (w1.alloc o)) := ⟨fun o => HB1.out.alloc HB1.out.size o⟩
        have hul := unitLen_pos s q
        clear hb1 HB
        cases hc : covB s q a with
        | true =>
          have HR := Sh.mk (show insideR s a = true from (any_range_succ hk3 HN.out).1 (by have := HBK.out; have := HQ.out; simp only [Bool.and_eq_true, decide_eq_true_eq]; exact ⟨by omega, by rw [show a - (k + 1) = q by omega]; exact hc⟩))
          have c1 : (unitPt s q == -1) = false := by simp [covB] at hc; simpa using hc.1
          have c2 : decide ((a : Int) < (q : Int) + (unitLen s q : Int)) = true := by simp [covB] at hc; simp; omega
          have c0 : (unitPt s q != -1) = true := by simp [covB] at hc; simpa using hc.1
          have c3 : (unitPt s q != -1 && decide ((a : Int) < (q : Int) + (unitLen s q : Int))) = true := by rw [c0, c2]; rfl
          clear hc HN
          go_wp2
          go_ret
          exact ⟨by rw [HR.out]; rfl, HB2.out _⟩
        | false =>
          have HR := Sh.mk ((any_range_succ hk3 HN.out).2 (by have := HBK.out; have := HQ.out; simp only [Bool.and_eq_false_imp]; intro _; rw [show a - (k + 1) = q by omega]; exact hc))
          by_cases hp : unitPt s q = -1
          · have c1 : (unitPt s q == -1) = true := by simpa using hp
            have c0 : (unitPt s q != -1) = false := by simpa using hp
            have c3 : (unitPt s q != -1 && decide ((a : Int) < (q : Int) + (unitLen s q : Int))) = false := by rw [c0]; rfl
            clear hc HN hp
            go_wp2
            go_roundw
            case rel => exact ⟨k + 1, by omega, by have := HBK.out; subst this; go_num, HR, ⟨HB2.out _⟩⟩
            case measure => have := HBK.out; simp [intOf]; omega
          · have c1 : (unitPt s q == -1) = false := by simpa using hp
            have c2 : decide ((a : Int) < (q : Int) + (unitLen s q : Int)) = false := by simp [covB, hp] at hc; simp; omega
            have c0 : (unitPt s q != -1) = true := by simpa using hp
            have c3 : (unitPt s q != -1 && decide ((a : Int) < (q : Int) + (unitLen s q : Int))) = false := by rw [c0, c2]; rfl
            clear hc HN hp
            go_wp2
            go_roundw
            case rel => exact ⟨k + 1, by omega, by have := HBK.out; subst this; go_num, HR, ⟨HB2.out _⟩⟩
            case measure => have := HBK.out; simp [intOf]; omega
      · have l2 : decide (b ≤ a) = false := by simpa using hba
        have HR := Sh.mk (show insideR s a = false from any_above HN.out (fun c h1 h2 => by have := HBK.out; simp; intro h; omega))
        clear HN hba
        go_wp2
        go_ret
        exact ⟨by rw [HR.out]; rfl, HB.out⟩
    · have l1 : decide (b ≤ 3) = false := by simpa using h3
      have l1' : decide ((b : Int) ≤ 3) = false := by simp; omega
      have HR := Sh.mk (show insideR s a = false from any_above HN.out (fun c h1 h2 => by have := HBK.out; omega))
      clear HN h3
      go_wp2
      go_ret
      exact ⟨by rw [HR.out]; rfl, HB.out⟩
end Go.Proofs.YtfiahgahphammaaDoor
/- units.Next, Prev, the document's Next and Prev, walked. Conditions: the text's size; the table reads as listed. -/
namespace Go.Proofs.YtfiahgahphammaaDoor
open Go Go.RowKit Go.Proofs.YtfiahgahphammaaDoorW.PrintWords Go.Proofs.YtfiahgahphammaaDoorW.PrintLast Go.Proofs.YtfiahgahphammaaDoorW.PrintMore
/-- A unit that is answered beside a truth value. -/
def oU (o : Option (Int × Int × Int)) : Int × Int × Int := o.getD (0, 0, 0)
abbrev uVal (x : Int × Int × Int) : Value := .agg #[.int .i64 x.1, .int .i64 x.2.1, .int .i64 x.2.2]
abbrev uBox (g : Nat) (A : World) : Prop := A.heap[g]? = some (.cells #[.int .i64 0, .int .i64 0, .int .i64 0] 39 (0, 0))
set_option maxRecDepth 100000 in
set_option maxHeartbeats 8000000 in
theorem next_any (s : ByteArray) (a : Int) (w : World) (hf : FormsAt w) (hs : s.size ≤ 140737488355327) :
    Calls Tryd.prog 24 #[.string s, .int .i64 a] w fun e w' => e = .returned (.tuple #[uVal (oU (nextR s a)), .bool (nextR s a).isSome]) ∧ Below w.heap.size w w' := by
  have HF := Sh.mk hf
  clear hf
  obtain ⟨W0, hW0⟩ : ∃ W0, W0 = w.alloc (.cells #[.int .i64 0, .int .i64 0, .int .i64 0] 39) := ⟨_, rfl⟩
  obtain ⟨g, hg⟩ : ∃ g, g = w.heap.size := ⟨_, rfl⟩
  have HG := Sh.mk hg
  have HB := Sh.mk (show Below w.heap.size w W0 by rw [hW0]; exact (Below.refl _ _).alloc (Nat.le_refl _) _)
  have HX := Sh.mk (show uBox g W0 by rw [hW0, hg]; exact blk_new _ _)
  have HW := Sh.mk hW0
  have hgw : w.heap.size ≤ g := by omega
  clear hW0 hg
  by_cases hn : a < 0
  · have HR := Sh.mk (show nextR s a = none by unfold nextR; rw [if_pos (Or.inl hn)])
    have l1 : decide (a < 0) = true := by simpa using hn
    clear hn
    go_enter Tryd.func24, Tryd.ntmps24
    go_wp2_with (first | (refine wpList_store_row rfl 39 (.tmp 4) (.tmp 19) rfl g #[.int .i64 0, .int .i64 0, .int .i64 0] (by rw [HG.out]; rfl) rfl 39 #[.int .i64 0, .int .i64 0, .int .i64 0] (by rw [← HW.out]; exact HX.out) (by kernel_rfl) rfl (oneU _ _ _) ?_; rw [← HW.out, ← HG.out]))
    have hR := setRow_heap W0 g _ #[.int .i64 0, .int .i64 0, .int .i64 0] _ _ HX.out
    (try simp only [Exit.inBlock, Exit.then])
    refine bodyPost_ret (results_cell_row2 rfl _ _ g 39 _ (0, 0) _ rfl hR Tryd.underlying39 rfl (by kernel_rfl)) rfl ?_
    exact ⟨by rw [HR.out]; rfl, below_setRow HB.out hgw _⟩
  · obtain ⟨k, rfl⟩ := Int.eq_ofNat_of_zero_le (show 0 ≤ a by omega)
    have l1 : decide ((k : Int) < 0) = false := by simp
    by_cases hk : s.size ≤ k
    · have HR := Sh.mk (show nextR s (k : Int) = none by unfold nextR; rw [if_pos (Or.inr (Int.ofNat_le.2 hk))])
      have l2 : decide (s.size ≤ k) = true := by simpa using hk
      have l2' : decide (k < s.size) = false := by simpa using hk
      clear hk hn
      go_enter Tryd.func24, Tryd.ntmps24
      go_wp2_with (first | (refine wpList_store_row rfl 39 (.tmp 4) (.tmp 19) rfl g #[.int .i64 0, .int .i64 0, .int .i64 0] (by rw [HG.out]; rfl) rfl 39 #[.int .i64 0, .int .i64 0, .int .i64 0] (by rw [← HW.out]; exact HX.out) (by kernel_rfl) rfl (oneU _ _ _) ?_; rw [← HW.out, ← HG.out]))
      have hR := setRow_heap W0 g _ #[.int .i64 0, .int .i64 0, .int .i64 0] _ _ HX.out
      (try simp only [Exit.inBlock, Exit.then])
      refine bodyPost_ret (results_cell_row2 rfl _ _ g 39 _ (0, 0) _ rfl hR Tryd.underlying39 rfl (by kernel_rfl)) rfl ?_
      exact ⟨by rw [HR.out]; rfl, below_setRow HB.out hgw _⟩
    · have hlt : k < s.size := by omega
      have l2 : decide (s.size ≤ k) = false := by simpa using hk
      have HE := Sh.mk (show nextR s (k : Int) = if insideR s k then none else some (unitTr s k) by unfold nextR; rw [if_neg (fun h => by rcases h with h | h <;> omega), Int.toNat_natCast])
      clear hk hn
      go_enter Tryd.func24, Tryd.ntmps24
      go_wp2_with fail
      rw [← HW.out, ← HG.out]
      refine (inside_any s k W0 (HF.out.below HB.out) hlt hs).mono ?_
      rintro e w1 ⟨rfl, hb1⟩
      have HX1 := Sh.mk (blk_below HX.out hb1)
      have HB1 := Sh.mk (below_of HB.out hb1)
      clear HX HB hb1
      cases hin : insideR s k with
      | true =>
        have HR := Sh.mk (show nextR s (k : Int) = none by rw [HE.out, hin]; rfl)
        clear hin HE
        go_wp2_with (first | (refine wpList_store_row rfl 39 (.tmp 4) (.tmp 19) rfl g #[.int .i64 0, .int .i64 0, .int .i64 0] rfl rfl 39 #[.int .i64 0, .int .i64 0, .int .i64 0] HX1.out (by kernel_rfl) rfl (oneU _ _ _) ?_))
        have hR := setRow_heap w1 g _ #[.int .i64 0, .int .i64 0, .int .i64 0] _ _ HX1.out
        (try simp only [Exit.inBlock, Exit.then])
        refine bodyPost_ret (results_cell_row2 rfl _ _ g 39 _ (0, 0) _ rfl hR Tryd.underlying39 rfl (by kernel_rfl)) rfl ?_
        exact ⟨by rw [HR.out]; rfl, below_setRow HB1.out hgw _⟩
      | false =>
        have HR := Sh.mk (show nextR s (k : Int) = some (unitTr s k) by rw [HE.out, hin]; rfl)
        clear hin HE
        go_wp2_with fail
        refine (unit_any s k w1 (HF.out.below HB1.out) hlt hs).mono ?_
        rintro e w2 ⟨rfl, hb2⟩
        have HX2 := Sh.mk (blk_below HX1.out hb2)
        have HB2 := Sh.mk (below_of HB1.out hb2)
        clear HX1 HB1 hb2
        rw [Int.natCast_add]
        go_wp2_with (first | (refine wpList_store_row rfl 39 (.tmp 4) (.tmp 22) rfl g #[.int .i64 (unitPt s k), .int .i64 k, .int .i64 (k + unitLen s k)] rfl rfl 39 #[.int .i64 0, .int .i64 0, .int .i64 0] HX2.out (by kernel_rfl) rfl (oneU _ _ _) ?_))
        have hR := setRow_heap w2 g _ #[.int .i64 (unitPt s k), .int .i64 k, .int .i64 (k + unitLen s k)] _ _ HX2.out
        (try simp only [Exit.inBlock, Exit.then])
        refine bodyPost_ret (results_cell_row2 rfl _ _ g 39 _ (0, 0) _ rfl hR Tryd.underlying39 rfl (by kernel_rfl)) rfl ?_
        exact ⟨by rw [HR.out]; rfl, below_setRow HB2.out hgw _⟩
theorem find_snoc {xs : List (Int × Int × Int)} {k : Nat} (hk : k < xs.length) {p : Int × Int × Int → Bool} (h : (xs.take k).find? p = none) : (p (rdU xs k) = true → xs.find? p = some (rdU xs k)) ∧ (p (rdU xs k) = false → (xs.take (k + 1)).find? p = none) := by
  constructor
  · intro hp
    have e : xs = xs.take k ++ (rdU xs k :: xs.drop (k + 1)) := by
      conv => lhs; rw [← List.take_append_drop k xs, List.drop_eq_getElem_cons hk]
      simp [rdU, List.getD, hk]
    rw [e, List.find?_append, h]
    simp [rdU] at hp ⊢
    have e2 : ((xs.take k ++ (xs[k]?.getD (0, 0, 0)) :: xs.drop (k + 1))[k]?.getD (0, 0, 0)) = xs[k]?.getD (0, 0, 0) := by
      rw [List.getElem?_append_right (by simp; omega)]
      simp [List.length_take, show min k xs.length = k by omega]
    rw [e2]
    simp [hp]
  · intro hp
    rw [take_snocU xs k hk, List.find?_append, h]
    simp [hp]
end Go.Proofs.YtfiahgahphammaaDoor
/- The document's begins and Cut over the printed functions: what the program's run says. Plain Lean. -/
namespace Go.Proofs.YtfiahgahphammaaDoor
open Go Go.RowKit Go.Proofs.YtfiahgahphammaaDoorW.PrintWords Go.Proofs.YtfiahgahphammaaDoorW.PrintLast Go.Proofs.YtfiahgahphammaaDoorW.PrintMore Go.Proofs.YtfiahgahphammaaDoor.PUnitsCuts
theorem size_of {u : ByteArray} {l : List Int} (h : bytesOf u = l) : u.size = l.length := by rw [← h, bytesOf_length]
theorem bt_of {u : ByteArray} {l : List Int} (h : bytesOf u = l) (j : Nat) : bt u j = l.getD j 0 := by rw [← rd_bytesOf, h]; rfl
theorem lead_size {a : Int} {k : Nat} (h : leadF a = some k) : sizeR a = formAt k 4 ∧ 128 ≤ a := by
  have hk := leadF_lt h
  have hr := lead_some h
  have h : k = 0 ∨ k = 1 ∨ k = 2 ∨ k = 3 ∨ k = 4 ∨ k = 5 ∨ k = 6 ∨ k = 7 := by omega
  rcases h with rfl | rfl | rfl | rfl | rfl | rfl | rfl | rfl <;> simp only [formAt, formTab, List.getD_cons_zero, List.getD_cons_succ] at hr ⊢
  · exact ⟨size_2 (by omega) (by omega), by omega⟩
  · exact ⟨size_3 (by omega) (by omega), by omega⟩
  · exact ⟨size_3 (by omega) (by omega), by omega⟩
  · exact ⟨size_3 (by omega) (by omega), by omega⟩
  · exact ⟨size_3 (by omega) (by omega), by omega⟩
  · exact ⟨size_4 (by omega) (by omega), by omega⟩
  · exact ⟨size_4 (by omega) (by omega), by omega⟩
  · exact ⟨size_4 (by omega) (by omega), by omega⟩
theorem opt_ne {c : Prop} [Decidable c] {p : Int} {n : Nat} {m : Int} (h : (n : Int) ≠ m) (h0 : 0 ≠ m) : (optPair (if c then some (p, n) else none)).2 ≠ m := by
  split
  · exact h
  · exact h0
theorem tail_stop {s : ByteArray} {i n : Nat} {lo hi p : Int} (h : ¬ (i + n < s.size ∧ lo ≤ bt s (i + n : Nat) ∧ bt s (i + n : Nat) ≤ hi)) : ∀ m, tailR s i m n lo hi p = (n, p)
  | 0 => rfl
  | m + 1 => by rw [tailR, if_neg h]
theorem tail_go {s : ByteArray} {i n m : Nat} {lo hi p : Int} (h : i + n < s.size ∧ lo ≤ bt s (i + n : Nat) ∧ bt s (i + n : Nat) ≤ hi) : tailR s i (m + 1) n lo hi p = tailR s i m (n + 1) 128 191 (p * 64 + bt s (i + n : Nat) % 64) := by rw [tailR, if_pos h]
theorem tail_le {s : ByteArray} {i : Nat} : ∀ (m n : Nat) (lo hi p : Int), (tailR s i m n lo hi p).1 ≤ n + m ∧ n ≤ (tailR s i m n lo hi p).1
  | 0, n, _, _, _ => by simp [tailR]
  | m + 1, n, lo, hi, p => by
    rw [tailR]
    split
    · have := tail_le (s := s) (i := i) m (n + 1) 128 191 (p * 64 + bt s (i + n : Nat) % 64)
      omega
    · simp
/-- A padded beginning is good where its bytes are those of its lead's form. -/
def okRest (k : Nat) : List Int → Bool
  | [] => true
  | b :: r => decide (formAt k 2 ≤ b ∧ b ≤ formAt k 3) && r.all fun c => decide (128 ≤ c ∧ c ≤ 191)
theorem pad_good {u : ByteArray} {a : Int} {r : List Int} (h : bytesOf u = a :: r) (hr1 : 1 ≤ r.length) (hr3 : r.length ≤ 3) (h128 : 128 ≤ a) :
    (goodC u 0).2 = r.length + 1 ↔ ∃ k, leadF a = some k ∧ formAt k 4 = r.length + 1 ∧ okRest k r = true := by
  have hs := size_of h
  have e0 := bt_of h 0
  have e1 := bt_of h 1
  have e2 := bt_of h 2
  have e3 := bt_of h 3
  simp only [List.length_cons] at hs
  simp only [List.getD_cons_zero, List.getD_cons_succ] at e0 e1 e2 e3
  rw [good_unit u 0 (by omega)]
  cases hl : leadF a with
  | none =>
    rw [unit_none (by rw [e0]; exact h128) (by rw [e0]; exact hl)]
    simp [optPair]
    omega
  | some k =>
    have hf := form_facts k (leadF_lt hl)
    have hz : formAt k 4 = 2 ∨ formAt k 4 = 3 ∨ formAt k 4 = 4 := by omega
    have l0 : leadF (bt u (0 : Nat)) = some k := by rw [e0]; exact hl
    have g0 : 128 ≤ bt u (0 : Nat) := by rw [e0]; exact h128
    rcases hz with hz | hz | hz
    · rw [unit_form2 g0 l0 hz]
      match r, hr1, hr3, hs, e1, e2, e3 with
      | [b], _, _, hs, e1, _, _ =>
        simp only [Nat.zero_add, e1, List.getD_cons_zero]
        simp only [List.length_cons, List.length_nil] at hs
        by_cases hc : formAt k 2 ≤ b ∧ b ≤ formAt k 3
        · rw [if_pos ⟨by omega, hc⟩]
          simp [optPair, hz, okRest, hc]
        · rw [if_neg (fun h => hc h.2)]
          simp [optPair, hz, okRest]
          omega
      | [b, c], _, _, hs, e1, _, _ => exact ⟨fun h' => absurd h' (opt_ne (by simp) (by simp)), by simp [hz]⟩
      | [b, c, d], _, _, hs, e1, _, _ => exact ⟨fun h' => absurd h' (opt_ne (by simp) (by simp)), by simp [hz]⟩
    · rw [unit_form3 g0 l0 hz]
      match r, hr1, hr3, hs, e1, e2, e3 with
      | [b], _, _, hs, e1, e2, _ =>
        simp only [List.length_cons, List.length_nil] at hs
        rw [if_neg (fun h => by omega)]
        simp [optPair, hz]
      | [b, c], _, _, hs, e1, e2, _ =>
        simp only [Nat.zero_add, e1, e2, List.getD_cons_zero, List.getD_cons_succ]
        simp only [List.length_cons, List.length_nil] at hs
        by_cases hc : (formAt k 2 ≤ b ∧ b ≤ formAt k 3) ∧ (128 ≤ c ∧ c ≤ 191)
        · rw [if_pos ⟨⟨by omega, hc.1⟩, by omega, hc.2⟩]
          simp [optPair, hz, okRest, hc]
        · rw [if_neg (fun h => hc ⟨h.1.2, h.2.2⟩)]
          simp [optPair, hz, okRest]
          omega
      | [b, c, d], _, _, hs, e1, _, _ => exact ⟨fun h' => absurd h' (opt_ne (by simp) (by simp)), by simp [hz]⟩
    · rw [unit_form4 g0 l0 hz]
      match r, hr1, hr3, hs, e1, e2, e3 with
      | [b], _, _, hs, e1, e2, _ =>
        simp only [List.length_cons, List.length_nil] at hs
        rw [if_neg (fun h => by omega)]
        simp [optPair, hz]
      | [b, c], _, _, hs, e1, e2, _ =>
        simp only [List.length_cons, List.length_nil] at hs
        rw [if_neg (fun h => by omega)]
        simp [optPair, hz]
      | [b, c, d], _, _, hs, e1, e2, e3 =>
        simp only [Nat.zero_add, e1, e2, e3, List.getD_cons_zero, List.getD_cons_succ]
        simp only [List.length_cons, List.length_nil] at hs
        by_cases hc : (formAt k 2 ≤ b ∧ b ≤ formAt k 3) ∧ (128 ≤ c ∧ c ≤ 191) ∧ (128 ≤ d ∧ d ≤ 191)
        · rw [if_pos ⟨⟨by omega, hc.1⟩, ⟨by omega, hc.2.1⟩, by omega, hc.2.2⟩]
          simp [optPair, hz, okRest, hc]
        · rw [if_neg (fun h => hc ⟨h.1.2, h.2.1.2, h.2.2.2⟩)]
          simp [optPair, hz, okRest]
          omega
/-- What run says of a whole text: it is the beginning of a longer sequence. -/
def longer (t : ByteArray) (i : Nat) : Prop := (runR t i).1 = t.size - i ∧ (runR t i).1 < (runR t i).2.1
theorem run_longer {t : ByteArray} {a : Int} {r : List Int} (h : bytesOf t = a :: r) (hr : r.length ≤ 2) :
    longer t 0 ↔ ∃ k, leadF a = some k ∧ (r.length : Int) + 1 < formAt k 4 ∧ 128 ≤ a ∧ okRest k r = true := by
  have hs := size_of h
  have e0 := bt_of h 0
  have e1 := bt_of h 1
  have e2 := bt_of h 2
  simp only [List.length_cons] at hs
  simp only [List.getD_cons_zero, List.getD_cons_succ] at e0 e1 e2
  unfold longer
  by_cases h128 : a < 128
  · rw [run_ascii (by rw [e0]; exact h128)]
    simp
    intro k hk h1 h2
    omega
  · cases hl : leadF a with
    | none =>
      rw [run_none (by rw [e0]; omega) (by rw [e0]; exact hl)]
      simp
    | some k =>
      have hf := form_facts k (leadF_lt hl)
      rw [run_some (by rw [e0]; omega) (by rw [e0]; exact hl)]
      obtain ⟨z, hz⟩ : ∃ z : Nat, formAt k 4 = z := ⟨(formAt k 4).toNat, by omega⟩
      rw [hz] at hf
      simp only [hz, Int.toNat_natCast, Nat.sub_zero, hs]
      obtain ⟨m, rfl⟩ : ∃ m, z = m + 2 := ⟨z - 2, by omega⟩
      rw [show m + 2 - 1 = m + 1 by omega]
      match r, hr, hs, e1, e2 with
      | [], _, hs, _, _ =>
        simp only [List.length_nil] at hs
        rw [tail_stop (fun h => by omega)]
        simp [hz, okRest]
        omega
      | [b], _, hs, e1, _ =>
        simp only [List.length_cons, List.length_nil, List.getD_cons_zero] at hs e1
        by_cases hc : formAt k 2 ≤ b ∧ b ≤ formAt k 3
        · rw [tail_go ⟨by omega, by rw [Nat.zero_add, e1]; exact hc⟩, tail_stop (fun h => by omega)]
          simp [hz, okRest, hc]
          omega
        · rw [tail_stop (fun h => hc (by rw [Nat.zero_add, e1] at h; exact h.2))]
          simp [hz, okRest]
          omega
      | [b, c], _, hs, e1, e2 =>
        simp only [List.length_cons, List.length_nil, List.getD_cons_zero, List.getD_cons_succ] at hs e1 e2
        by_cases hc : formAt k 2 ≤ b ∧ b ≤ formAt k 3
        · rw [tail_go ⟨by omega, by rw [Nat.zero_add, e1]; exact hc⟩]
          by_cases hd : 128 ≤ c ∧ c ≤ 191
          · match m, hz, hf with
            | 0, hz, hf =>
              simp [tailR, hz]
            | m + 1, hz, hf =>
              rw [tail_go ⟨by omega, by rw [Nat.zero_add, e2]; exact hd⟩, tail_stop (fun h => by omega)]
              simp [hz, okRest, hc, hd]
              omega
          · rw [tail_stop (fun h => hd (by rw [Nat.zero_add, e2] at h; exact h.2))]
            simp [hz, okRest]
            omega
        · rw [tail_stop (fun h => hc (by rw [Nat.zero_add, e1] at h; exact h.2))]
          simp [hz, okRest]
          omega
end Go.Proofs.YtfiahgahphammaaDoor
/- The document's begins and Cut are the program's. Plain Lean over the printed functions. Conditions: at most 2^47 bytes. -/
namespace Go.Proofs.YtfiahgahphammaaDoor
open Go Go.RowKit Go.Proofs.YtfiahgahphammaaDoorW.PrintWords Go.Proofs.YtfiahgahphammaaDoorW.PrintLast Go.Proofs.YtfiahgahphammaaDoorW.PrintMore Go.Proofs.YtfiahgahphammaaDoor.PUnitsCuts
theorem bytesOf_append (a b : ByteArray) : bytesOf (a ++ b) = bytesOf a ++ bytesOf b := by
  simp [bytesOf, ByteArray.data_append]
def padTo : Nat → ByteArray → ByteArray
  | 0, x => x
  | m + 1, x => padTo m (x ++ (⟨#[128]⟩ : ByteArray))
theorem bytesOf_padTo : ∀ (m : Nat) (x : ByteArray), bytesOf (padTo m x) = bytesOf x ++ List.replicate m 128
  | 0, x => by simp [padTo]
  | m + 1, x => by rw [padTo, bytesOf_padTo m, bytesOf_append, List.append_assoc]; rfl
theorem size_padTo (m : Nat) (x : ByteArray) : (padTo m x).size = x.size + m := by
  rw [← bytesOf_length, bytesOf_padTo, List.length_append, bytesOf_length, List.length_replicate]
def secsL : List ByteArray := [(⟨#[128]⟩ : ByteArray), (⟨#[144]⟩ : ByteArray), (⟨#[160]⟩ : ByteArray)]
theorem l1_f (x0 : ByteArray) (n : Int) (j : Int) : ∀ (m : Nat) (x : ByteArray) (F : Nat), (x.size : Int) + m = n → n ≤ 4 → m + 11 ≤ F →
    caesuraref2_begins.l1 F x0 n secsL j x = if (goodC (padTo m x) 0).2 = n then some true else caesuraref2_begins.l0 (F - m - 1) x0 n secsL (wrap64 (j + 1))
  | 0, x, F, hx, hn, hF => by
    obtain ⟨K, rfl⟩ : ∃ K, F = K + 10 + 1 := ⟨F - 11, by omega⟩
    rw [caesuraref2_begins.l1, if_neg (by omega)]
    have := good_f K x 0 (by omega) (by omega)
    rw [show ((0 : Nat) : Int) = 0 from rfl] at this
    rw [this]
    rfl
  | m + 1, x, F, hx, hn, hF => by
    obtain ⟨K, rfl⟩ : ∃ K, F = K + 1 := ⟨F - 1, by omega⟩
    rw [caesuraref2_begins.l1, if_pos (by omega), if_pos (by omega)]
    rw [l1_f x0 n j m (x ++ (⟨#[128]⟩ : ByteArray)) K (by rw [ByteArray.size_append]; show ((x.size + 1 : Nat) : Int) + m = n; omega) hn (by omega)]
    rw [show K + 1 - (m + 1) - 1 = K - m - 1 by omega]
    rfl
/-- What a second is put behind. -/
def stOf (t : ByteArray) (j : Nat) : ByteArray := if t.size = 1 then t ++ secsL.getD j ByteArray.empty else t
theorem lb_f (t : ByteArray) (n : Int) (j m F : Nat) (hj : j < 3) (hm : ((stOf t j).size : Int) + m = n) (hn : n ≤ 4) (hF : m + 13 ≤ F) :
    caesuraref2_begins.l0 F t n secsL j = if (goodC (padTo m (stOf t j)) 0).2 = n then some true else caesuraref2_begins.l0 (F - m - 3) t n secsL ((j + 1 : Nat) : Int) := by
  obtain ⟨K, rfl⟩ : ∃ K, F = K + 1 + 1 := ⟨F - 2, by omega⟩
  have hw : wrap64 ((j : Int) + 1) = ((j + 1 : Nat) : Int) := by unfold wrap64; omega
  have hlen : (secsL.length : Int) = 3 := rfl
  have hl1 := l1_f t n j m (stOf t j) K hm hn (by omega)
  rw [hw] at hl1
  rw [caesuraref2_begins.l0, if_pos (by rw [hlen]; omega)]
  by_cases h1 : t.size = 1
  · rw [if_pos (by omega), if_pos (by omega)]
    have hs : rdOf ByteArray.empty secsL (j : Int) = secsL.getD j ByteArray.empty := rfl
    have hsz : (secsL.getD j ByteArray.empty).size = 1 := by
      have : j = 0 ∨ j = 1 ∨ j = 2 := by omega
      rcases this with rfl | rfl | rfl <;> rfl
    have hst : stOf t j = t ++ secsL.getD j ByteArray.empty := by unfold stOf; rw [if_pos h1]
    rw [hs, if_pos (by rw [h1, hsz]; omega), caesuraref2_begins.j1, ← hst, hl1, show K + 1 + 1 - m - 3 = K - m - 1 by omega]
  · rw [if_neg (by omega)]
    have hst : stOf t j = t := by unfold stOf; rw [if_neg h1]
    rw [hst] at hl1
    rw [caesuraref2_begins.j1, hst, hl1, show K + 1 + 1 - m - 3 = K - m - 1 by omega]
theorem lend_f (t : ByteArray) (n : Int) (F : Nat) (hF : 1 ≤ F) : caesuraref2_begins.l0 F t n secsL ((3 : Nat) : Int) = some false := by
  obtain ⟨K, rfl⟩ : ∃ K, F = K + 1 := ⟨F - 1, by omega⟩
  rw [caesuraref2_begins.l0, if_neg (show ¬ (((3 : Nat) : Int) < (secsL.length : Int)) by decide)]
theorem three_f {c0 c1 c2 : Prop} [Decidable c0] [Decidable c1] [Decidable c2] : (if c0 then some true else if c1 then some true else if c2 then some true else some false) = some (decide (c0 ∨ c1 ∨ c2)) := by
  by_cases h0 : c0 <;> by_cases h1 : c1 <;> by_cases h2 : c2 <;> simp [h0, h1, h2]
/-- The seconds serve every form. -/
theorem some_second (k : Nat) (hk : k < 8) (m : Nat) : okRest k (128 :: List.replicate m 128) = true ∨ okRest k (144 :: List.replicate m 128) = true ∨ okRest k (160 :: List.replicate m 128) = true := by
  have hr : (List.replicate m (128 : Int)).all (fun c => decide (128 ≤ c ∧ c ≤ 191)) = true := by simp
  have h : k = 0 ∨ k = 1 ∨ k = 2 ∨ k = 3 ∨ k = 4 ∨ k = 5 ∨ k = 6 ∨ k = 7 := by omega
  simp only [okRest, hr, Bool.and_true]
  rcases h with rfl | rfl | rfl | rfl | rfl | rfl | rfl | rfl <;> decide
theorem okRest_pad (k : Nat) (b : Int) (r : List Int) (m : Nat) : okRest k (b :: r ++ List.replicate m 128) = okRest k (b :: r) := by
  simp [okRest]
theorem begins_f (K : Nat) (t : ByteArray) (h0 : 1 ≤ t.size) (h3 : t.size ≤ 3) : ∃ b : Bool, caesuraref2_begins.f (K + 40) t = some b ∧ (b = true ↔ longer t 0) := by
  obtain ⟨a, r, hb⟩ : ∃ a r, bytesOf t = a :: r := by
    cases h : bytesOf t with
    | nil => have := bytesOf_length t; rw [h] at this; simp at this; omega
    | cons a r => exact ⟨a, r, rfl⟩
  have hs := size_of hb
  simp only [List.length_cons] at hs
  have e0 := bt_of hb 0
  simp only [List.getD_cons_zero] at e0
  have hrange := bt_range t (0 : Nat)
  rw [e0] at hrange
  have hsz := sizeR_le a
  have hlong := run_longer hb (by omega)
  unfold caesuraref2_begins.f
  rw [if_pos (by omega), show K + 40 = (K + 37) + 3 by omega, size_f, show bt t 0 = a from e0]
  simp only [Option.bind_some]
  by_cases hle : sizeR a ≤ (t.size : Int)
  · rw [if_pos hle]
    refine ⟨false, rfl, ?_⟩
    rw [hlong]
    constructor
    · intro h; cases h
    · rintro ⟨k, hk, hz, _⟩
      have := (lead_size hk).1
      omega
  · rw [if_neg hle]
    obtain ⟨n, hn⟩ : ∃ n : Nat, sizeR a = n := ⟨(sizeR a).toNat, by omega⟩
    rw [hn] at hle hsz ⊢
    have h128 : 128 ≤ a := by
      by_cases h : a < 128
      · unfold sizeR at hn; rw [if_pos h] at hn; omega
      · omega
    have hst : ∀ j, j < 3 → (stOf t j).size = max 2 t.size := by
      intro j hj
      unfold stOf
      by_cases h1 : t.size = 1
      · have hsz : (secsL.getD j ByteArray.empty).size = 1 := by
          have : j = 0 ∨ j = 1 ∨ j = 2 := by omega
          rcases this with rfl | rfl | rfl <;> rfl
        rw [if_pos h1, ByteArray.size_append, hsz, h1]; rfl
      · rw [if_neg h1]; omega
    obtain ⟨m, hm⟩ : ∃ m : Nat, max 2 t.size + m = n := ⟨n - max 2 t.size, by omega⟩
    have step := fun j (hj : j < 3) F hF => lb_f t (n : Int) j m F hj (by rw [hst j hj]; omega) (by omega) hF
    have s0 := step 0 (by omega) (K + 37 + 3) (by omega)
    rw [step 1 (by omega) _ (by omega), step 2 (by omega) _ (by omega), lend_f _ _ _ (by omega), three_f] at s0
    refine ⟨_, s0, ?_⟩
    rw [decide_eq_true_iff, hlong]
    have hbytes : ∀ j, j < 3 → bytesOf (padTo m (stOf t j)) = a :: ((if t.size = 1 then bytesOf (secsL.getD j ByteArray.empty) else r) ++ List.replicate m 128) := by
      intro j hj
      rw [bytesOf_padTo]
      unfold stOf
      by_cases h1 : t.size = 1
      · rw [if_pos h1, if_pos h1, bytesOf_append, hb]
        have : r = [] := List.length_eq_zero_iff.1 (by omega)
        subst this
        rfl
      · rw [if_neg h1, if_neg h1, hb]
        rfl
    have key : ∀ j, j < 3 → ((goodC (padTo m (stOf t j)) 0).2 = (n : Int) ↔ ∃ k, leadF a = some k ∧ formAt k 4 = n ∧ okRest k ((if t.size = 1 then bytesOf (secsL.getD j ByteArray.empty) else r) ++ List.replicate m 128) = true) := by
      intro j hj
      have hlen : ((if t.size = 1 then bytesOf (secsL.getD j ByteArray.empty) else r) ++ List.replicate m 128).length + 1 = n := by
        have h := size_of (hbytes j hj)
        rw [size_padTo, hst j hj, List.length_cons] at h
        omega
      have hpg : ∀ X : List Int, bytesOf (padTo m (stOf t j)) = a :: X → X.length + 1 = n → ((goodC (padTo m (stOf t j)) 0).2 = (n : Int) ↔ ∃ k, leadF a = some k ∧ formAt k 4 = n ∧ okRest k X = true) := by
        intro X hX hl
        have h := pad_good hX (by omega) (by omega) h128
        rw [show ((X.length : Int) + 1) = (n : Int) by omega] at h
        exact h
      exact hpg _ (hbytes j hj) hlen
    rw [key 0 (by omega), key 1 (by omega), key 2 (by omega)]
    by_cases h1 : t.size = 1
    · simp only [if_pos h1]
      have hr0 : r = [] := List.length_eq_zero_iff.1 (by omega)
      subst hr0
      constructor
      · have : ∀ x, (∃ k, leadF a = some k ∧ formAt k 4 = (n : Int) ∧ okRest k x = true) → ∃ k, leadF a = some k ∧ ((([] : List Int).length : Int)) + 1 < formAt k 4 ∧ 128 ≤ a ∧ okRest k [] = true := by
          rintro x ⟨k, hk, hz, _⟩
          exact ⟨k, hk, by simp; omega, h128, rfl⟩
        rintro (h | h | h) <;> exact this _ h
      · rintro ⟨k, hk, _, _, _⟩
        have hz := (lead_size hk).1
        rcases some_second k (leadF_lt hk) m with h | h | h
        · exact Or.inl ⟨k, hk, hz.symm.trans hn, h⟩
        · exact Or.inr (Or.inl ⟨k, hk, hz.symm.trans hn, h⟩)
        · exact Or.inr (Or.inr ⟨k, hk, hz.symm.trans hn, h⟩)
    · simp only [if_neg h1]
      cases r with
      | nil => exact absurd (by simpa using hs) h1
      | cons b r' =>
        simp only [okRest_pad, or_self]
        constructor
        · rintro ⟨k, hk, hz, ho⟩
          exact ⟨k, hk, by rw [hz]; omega, h128, ho⟩
        · rintro ⟨k, hk, hz, _, ho⟩
          exact ⟨k, hk, by rw [← (lead_size hk).1]; exact hn, ho⟩
theorem bytesOf_drop (s : ByteArray) (i : Nat) (h : i ≤ s.size) : bytesOf (s.extract i s.size) = (List.range (s.size - i)).map fun j => bt s (i + j : Nat) := by
  have := bytesOf_extract s i (s.size - i) (by omega)
  rwa [show i + (s.size - i) = s.size by omega] at this
theorem bt_drop (s : ByteArray) (i j : Nat) (h : i + j < s.size) : bt (s.extract i s.size) j = bt s (i + j : Nat) := by
  rw [bt_of (bytesOf_drop s i (by omega)) j]
  have hj : j < s.size - i := by omega
  simp [List.getD, List.getElem?_map, List.getElem?_range hj]
theorem size_drop (s : ByteArray) (i : Nat) : (s.extract i s.size).size = s.size - i := by rw [ByteArray.size_extract]; omega
theorem tail_drop (s : ByteArray) (i : Nat) (hi : i ≤ s.size) : ∀ (m n : Nat) (lo hi p : Int), tailR (s.extract i s.size) 0 m n lo hi p = tailR s i m n lo hi p
  | 0, _, _, _, _ => rfl
  | m + 1, n, lo, hi', p => by
    rw [tailR, tailR, size_drop]
    by_cases hlt : i + n < s.size
    · rw [Nat.zero_add, bt_drop s i n hlt]
      by_cases hc : lo ≤ bt s (i + n : Nat) ∧ bt s (i + n : Nat) ≤ hi'
      · rw [if_pos ⟨by omega, hc⟩, if_pos ⟨hlt, hc⟩, tail_drop s i hi]
      · rw [if_neg (fun h => hc h.2), if_neg (fun h => hc h.2)]
    · rw [if_neg (fun h => hlt (by have := h.1; omega)), if_neg (fun h => hlt h.1)]
theorem run_drop (s : ByteArray) (i : Nat) (hi : i < s.size) : runR (s.extract i s.size) 0 = runR s i := by
  have h0 := bt_drop s i 0 (by omega)
  rw [Nat.add_zero] at h0
  unfold runR
  rw [h0]
  simp only [tail_drop s i (by omega)]
theorem longer_drop (s : ByteArray) (i : Nat) (hi : i < s.size) : longer (s.extract i s.size) 0 ↔ longer s i := by
  unfold longer
  rw [run_drop s i hi, size_drop, Nat.sub_zero]
instance (s : ByteArray) (i : Nat) : Decidable (longer s i) := inferInstanceAs (Decidable (_ ∧ _))
/-- The program's Cut. -/
def cutAux (s : ByteArray) : Nat → Nat
  | 0 => 0
  | b + 1 => if longer s (s.size - (b + 1)) then b + 1 else cutAux s b
def cutR (s : ByteArray) : Nat := cutAux s (min 3 s.size)
theorem cut_l0 (s : ByteArray) (hs : s.size ≤ 140737488355327) : ∀ (b F : Nat), b ≤ 3 → b + 41 ≤ F → caesuraref2_Cut.l0 F s b = some ((cutAux s (min b s.size) : Nat) : Int)
  | 0, F, _, hF => by
    obtain ⟨K, rfl⟩ : ∃ K, F = K + 1 := ⟨F - 1, by omega⟩
    rw [caesuraref2_Cut.l0, if_neg (by omega)]
    simp [cutAux]
  | b + 1, F, hb, hF => by
    obtain ⟨K, rfl⟩ : ∃ K, F = K + 40 + 1 := ⟨F - 41, by omega⟩
    have hw : wrap64 (((b + 1 : Nat) : Int) - 1) = (b : Int) := by unfold wrap64; omega
    have ih := cut_l0 s hs b (K + 40) (by omega) (by omega)
    rw [caesuraref2_Cut.l0, if_pos (by omega), hw, ih]
    by_cases hle : b + 1 ≤ s.size
    · have hw2 : wrap64 ((s.size : Int) - ((b + 1 : Nat) : Int)) = ((s.size - (b + 1) : Nat) : Int) := by unfold wrap64; omega
      rw [if_pos (by omega), hw2, if_pos (by omega), if_pos (by omega), Int.toNat_natCast]
      obtain ⟨t, ht, hlong⟩ := begins_f K (s.extract (s.size - (b + 1)) s.size) (by rw [size_drop]; omega) (by rw [size_drop]; omega)
      rw [ht, Option.bind_some]
      rw [longer_drop s _ (by omega)] at hlong
      rw [show min (b + 1) s.size = b + 1 by omega, show min b s.size = b by omega, cutAux]
      by_cases hl : longer s (s.size - (b + 1))
      · rw [if_pos (hlong.2 hl), if_pos hl]
      · rw [if_neg (fun h => hl (hlong.1 h)), if_neg hl]
    · rw [if_neg (by omega), show min (b + 1) s.size = min b s.size by omega]
theorem cut_f (s : ByteArray) (hs : s.size ≤ 140737488355327) : caesuraref2_Cut.f 44 s = some ((cutR s : Nat) : Int) := cut_l0 s hs 3 44 (by omega) (by omega)
end Go.Proofs.YtfiahgahphammaaDoor
/- units.Cut and the law UnitsCuts, walked. Conditions: the table reads as listed; at most 2^47 bytes. -/
namespace Go.Proofs.YtfiahgahphammaaDoor
open Go Go.RowKit Go.Proofs.YtfiahgahphammaaDoorW.PrintWords Go.Proofs.YtfiahgahphammaaDoorW.PrintLast Go.Proofs.YtfiahgahphammaaDoorW.PrintMore Go.Proofs.YtfiahgahphammaaDoor.PUnitsCuts
set_option maxRecDepth 100000 in
set_option maxHeartbeats 4000000 in
theorem cut_any (s : ByteArray) (w : World) (hf : FormsAt w) (hs : s.size ≤ 140737488355327) :
    Calls Tryd.prog 18 #[.string s] w fun e w' => e = .returned (.int .i64 (cutR s : Nat)) ∧ Below w.heap.size w w' := by
  have HF := Sh.mk hf
  clear hf
  obtain ⟨m, hm⟩ : ∃ m, m = min 3 s.size := ⟨_, rfl⟩
  have HM := Sh.mk (show cutR s = cutAux s m by rw [hm]; rfl)
  have hmin : (if (s.size : Int) < 3 then (s.size : Int) else 3) = m := by split <;> omega
  have hmin2 : min (3 : Int) (s.size : Int) = m := by omega
  have hm3 : m ≤ 3 := by omega
  have hms : m ≤ s.size := by omega
  clear hm
  go_enter Tryd.func18, Tryd.ntmps18
  go_wp2
  go_loopw [3] (fun vb wr => ∃ b : Nat, b ≤ m ∧ vb = .int .i64 b ∧ Sh (cutR s = cutAux s b) ∧ Sh (Below w.heap.size w wr)) (fun vb _ => (intOf vb).toNat)
  case atStart => exact ⟨m, by omega, rfl, HM, ⟨Below.refl _ _⟩⟩
  case round =>
    obtain ⟨b, hb, rfl, HC, HB⟩ := hrel
    by_cases hb0 : b = 0
    · subst hb0
      go_wp2
      go_ret
      exact ⟨by rw [HC.out]; rfl, HB.out⟩
    · obtain ⟨c, hc⟩ : ∃ c, b = c + 1 := ⟨b - 1, by omega⟩
      have e0 : cutAux s b = if longer s (s.size - b) then b else cutAux s c := by rw [hc]; rfl
      have e3 : (b : Int) - 1 = (c : Int) := by omega
      have hcm : c ≤ m := by omega
      have hcb : c < b := by omega
      have hb1 : 1 ≤ b := by omega
      clear hc
      have e1 : (s.size : Int) - (b : Int) = ((s.size - b : Nat) : Int) := by omega
      obtain ⟨i, hi⟩ : ∃ i, i = s.size - b := ⟨_, rfl⟩
      rw [← hi] at e1 e0
      have hi2 : i < s.size := by omega
      have HI := Sh.mk hi
      have HE0 := Sh.mk e0
      clear hi e0
      go_wp2_with fail
      refine (run_any s i wr (HF.out.below HB.out) hi2 hs).mono ?_
      rintro e w1 ⟨rfl, hb1⟩
      have HB1 := Sh.mk (below_of HB.out hb1)
      clear hb1 HB
      by_cases hl : longer s i
      · have HE := Sh.mk (HC.out.trans (HE0.out.trans (if_pos hl)))
        have l1 : (((runR s i).1 : Int) == (b : Int)) = true := by have h := hl.1; have := HI.out; simp; omega
        have l1' : ((runR s i).1 == b) = true := by have h := hl.1; have := HI.out; simp; omega
        have l2 : decide ((runR s i).1 < (runR s i).2.1) = true := by simpa using hl.2
        clear hl HC HM HE0
        go_wp2
        go_ret
        exact ⟨by rw [HE.out]; rfl, HB1.out⟩
      · have HE := Sh.mk (HC.out.trans (HE0.out.trans (if_neg hl)))
        by_cases h1 : (runR s i).1 = b
        · have l1 : (((runR s i).1 : Int) == (b : Int)) = true := by simp; omega
          have l1' : ((runR s i).1 == b) = true := by simp; omega
          have l2 : decide ((runR s i).1 < (runR s i).2.1) = false := by
            simp only [decide_eq_false_iff_not]
            intro h
            exact hl ⟨by have := HI.out; omega, h⟩
          clear hl HC HM h1 HE0
          go_wp2
          go_roundw
          case rel => exact ⟨c, by omega, by go_num, HE, HB1⟩
          case measure => simp [intOf]; omega
        · have l1 : (((runR s i).1 : Int) == (b : Int)) = false := by simp; omega
          have l1' : ((runR s i).1 == b) = false := by simp; omega
          clear hl HC HM h1 HE0
          go_wp2
          go_roundw
          case rel => exact ⟨c, by omega, by go_num, HE, HB1⟩
          case measure => simp [intOf]; omega
set_option maxRecDepth 100000 in
theorem cuts_any (s : ByteArray) (w : World) (hf : FormsAt w) (hs : s.size ≤ 140737488355327) :
    Calls Tryd.prog 4 #[.string s] w fun e w' => e = .returned (.bool true) ∧ Below w.heap.size w w' := by
  have hcc : (((cutR s : Nat) : Int) == ((cutR s : Nat) : Int)) = true := by simp
  go_enter Tryd.func4, Tryd.ntmps4
  go_wp2_with fail
  refine (cut_any s w hf hs).mono ?_
  rintro e w1 ⟨rfl, hb⟩
  go_wp2_with fail
  refine (caesuraref2_Cut.calls 44 s _ w1 (cut_f s hs)).mono ?_
  rintro e w2 ⟨rfl, hb2⟩
  go_wp2
  go_ret
  exact ⟨rfl, below_of hb hb2⟩
end Go.Proofs.YtfiahgahphammaaDoor
/- Pieces of a text: the units of a beginning, but for what Cut says of its end, are units of the whole. Plain Lean. -/
namespace Go.Proofs.YtfiahgahphammaaDoor
open Go Go.RowKit Go.Proofs.YtfiahgahphammaaDoorW.PrintWords Go.Proofs.YtfiahgahphammaaDoorW.PrintLast Go.Proofs.YtfiahgahphammaaDoorW.PrintMore
/-- A good unit stays one wherever its bytes lie. -/
theorem good_ext {s t : ByteArray} {i j n : Nat} {p : Int} (h : unitO s i = some (p, n)) (hi : i < s.size) (hb : ∀ m, m < n → bt t (j + m : Nat) = bt s (i + m : Nat)) (hn : j + n ≤ t.size) : unitO t j = some (p, n) := by
  have hgb := good_bytes h hi
  have b0 := hb 0 (by omega)
  simp only [Nat.add_zero] at b0
  by_cases h128 : bt s i < 128
  · rw [unit_ascii h128] at h
    cases h
    rw [unit_ascii (by rw [b0]; exact h128), b0]
  · cases hl : leadF (bt s i) with
    | none => rw [unit_none (by omega) hl] at h; cases h
    | some k =>
      have hk := leadF_lt hl
      have hf := form_facts k hk
      have hlt : leadF (bt t j) = some k := by rw [b0]; exact hl
      have h128t : 128 ≤ bt t j := by rw [b0]; omega
      have hz : formAt k 4 = 2 ∨ formAt k 4 = 3 ∨ formAt k 4 = 4 := by omega
      rcases hz with hz | hz | hz
      · rw [unit_form2 (by omega) hl hz] at h
        split at h
        · rename_i hc
          cases h
          have b1 := hb 1 (by omega)
          rw [unit_form2 h128t hlt hz, b0, b1, if_pos ⟨by omega, hc.2⟩]
        · cases h
      · rw [unit_form3 (by omega) hl hz] at h
        split at h
        · rename_i hc
          cases h
          have b1 := hb 1 (by omega)
          have b2 := hb 2 (by omega)
          rw [unit_form3 h128t hlt hz, b0, b1, b2, if_pos ⟨⟨by omega, hc.1.2⟩, by omega, hc.2.2⟩]
        · cases h
      · rw [unit_form4 (by omega) hl hz] at h
        split at h
        · rename_i hc
          cases h
          have b1 := hb 1 (by omega)
          have b2 := hb 2 (by omega)
          have b3 := hb 3 (by omega)
          rw [unit_form4 h128t hlt hz, b0, b1, b2, b3, if_pos ⟨⟨by omega, hc.1.2⟩, ⟨by omega, hc.2.1.2⟩, by omega, hc.2.2.2⟩]
        · cases h
/-- The same bytes, the same unit; both ends being where they are. -/
theorem unitO_same {s t : ByteArray} {i j : Nat} (hi : i < s.size) (hj : j < t.size) (hz : s.size - i = t.size - j) (hb : ∀ m, i + m < s.size → bt t (j + m : Nat) = bt s (i + m : Nat)) : unitO t j = unitO s i := by
  cases hs : unitO s i with
  | some x =>
    obtain ⟨p, n⟩ := x
    have hg := good_bytes hs hi
    exact good_ext hs hi (fun m hm => hb m (by omega)) (by omega)
  | none =>
    cases ht : unitO t j with
    | none => rfl
    | some x =>
      obtain ⟨p, n⟩ := x
      have hg := good_bytes ht hj
      have := good_ext (t := s) (j := i) ht hj (fun m hm => (hb m (by omega)).symm) (by omega)
      rw [hs] at this
      cases this
theorem same_unit {s t : ByteArray} {i j : Nat} (h : unitO t j = unitO s i) : unitPt t j = unitPt s i ∧ unitLen t j = unitLen s i := by
  unfold unitPt unitLen
  rw [h]
  exact ⟨rfl, rfl⟩
/-- Cut's answer. -/
theorem cutAux_le (s : ByteArray) : ∀ b, cutAux s b ≤ b
  | 0 => Nat.le_refl _
  | b + 1 => by
    rw [cutAux]
    split
    · exact Nat.le_refl _
    · have := cutAux_le s b; omega
theorem cutAux_longer (s : ByteArray) : ∀ b, 0 < cutAux s b → longer s (s.size - cutAux s b)
  | 0, h => by simp [cutAux] at h
  | b + 1, h => by
    rw [cutAux] at h ⊢
    split
    · rename_i hl; exact hl
    · rename_i hl; rw [if_neg hl] at h; exact cutAux_longer s b h
theorem cutAux_not (s : ByteArray) : ∀ b d, cutAux s b < d → d ≤ b → ¬ longer s (s.size - d)
  | 0, d, h1, h2 => by omega
  | b + 1, d, h1, h2 => by
    rw [cutAux] at h1
    split at h1
    · omega
    · rename_i hl
      by_cases hd : d = b + 1
      · subst hd; exact hl
      · exact cutAux_not s b d h1 (by omega)
theorem cut_le (s : ByteArray) : cutR s ≤ 3 ∧ cutR s ≤ s.size := by
  have := cutAux_le s (min 3 s.size)
  unfold cutR
  omega
/-- Bytes of a text from a place on, as a list. -/
theorem bytes_from (s : ByteArray) (i : Nat) (h : i < s.size) : bytesOf (s.extract i s.size) = bt s i :: (List.range (s.size - i - 1)).map fun j => bt s (i + 1 + j : Nat) := by
  rw [bytesOf_drop s i (by omega), show s.size - i = (s.size - i - 1) + 1 by omega, List.range_succ_eq_map, List.map_cons, List.map_map]
  congr 1
  apply List.map_congr_left
  intro j _
  simp only [Function.comp, Nat.succ_eq_add_one]
  congr 2
  omega
theorem longer_lead {s : ByteArray} {i : Nat} (hi : i < s.size) (h3 : s.size - i ≤ 3) (h : longer s i) : 194 ≤ bt s i := by
  rw [← longer_drop s i hi, run_longer (bytes_from s i hi) (by simp; omega)] at h
  obtain ⟨k, hk, _⟩ := h
  have := lead_some hk
  have := form_lohi k (leadF_lt hk)
  omega
/-- A good unit that goes on over the end of a beginning: the beginning's end is that of a longer one. -/
theorem longer_of {s t : ByteArray} {i n : Nat} {p : Int} (h : unitO t i = some (p, n)) (hi : i < s.size) (ht : s.size ≤ t.size) (hb : ∀ m, m < s.size → bt t m = bt s m) (hn : s.size < i + n) : longer s i := by
  have hit : i < t.size := by omega
  have hg := good_bytes h hit
  have hbi : ∀ m, i + m < s.size → bt t (i + m : Nat) = bt s (i + m : Nat) := fun m hm => hb (i + m) hm
  have b0 := hb i hi
  by_cases h128 : bt t i < 128
  · rw [unit_ascii h128] at h
    cases h
    omega
  · cases hl : leadF (bt t i) with
    | none => rw [unit_none (by omega) hl] at h; cases h
    | some k =>
      have hk := leadF_lt hl
      have hf := form_facts k hk
      rw [← longer_drop s i hi, run_longer (bytes_from s i hi) (by simp; omega)]
      have hz : formAt k 4 = 2 ∨ formAt k 4 = 3 ∨ formAt k 4 = 4 := by omega
      have hd : s.size - i = 1 ∨ s.size - i = 2 ∨ s.size - i = 3 := by omega
      refine ⟨k, by rw [← b0]; exact hl, ?_, by rw [← b0]; omega, ?_⟩
      · simp only [List.length_map, List.length_range]
        rcases hz with hz | hz | hz
        · rw [unit_form2 (by omega) hl hz] at h
          split at h
          · cases h; omega
          · cases h
        · rw [unit_form3 (by omega) hl hz] at h
          split at h
          · cases h; omega
          · cases h
        · rw [unit_form4 (by omega) hl hz] at h
          split at h
          · cases h; omega
          · cases h
      · have c1 : 2 ≤ s.size - i → bt s (i + 1 : Nat) = bt t (i + 1 : Nat) := fun h => (hbi 1 (by omega)).symm
        have c2 : 3 ≤ s.size - i → bt s (i + 2 : Nat) = bt t (i + 2 : Nat) := fun h => (hbi 2 (by omega)).symm
        have e1 : s.size - i = 1 → (List.range (s.size - i - 1)).map (fun j => bt s (i + 1 + j : Nat)) = [] := fun e => by rw [e]; rfl
        have e2 : s.size - i = 2 → (List.range (s.size - i - 1)).map (fun j => bt s (i + 1 + j : Nat)) = [bt s (i + 1 : Nat)] := fun e => by rw [e]; rfl
        have e3 : s.size - i = 3 → (List.range (s.size - i - 1)).map (fun j => bt s (i + 1 + j : Nat)) = [bt s (i + 1 : Nat), bt s (i + 2 : Nat)] := fun e => by rw [e]; rfl
        rcases hz with hz | hz | hz
        · rw [unit_form2 (by omega) hl hz] at h
          split at h
          · cases h
            rw [e1 (by omega)]; rfl
          · cases h
        · rw [unit_form3 (by omega) hl hz] at h
          split at h
          · rename_i hc
            cases h
            rcases hd with hd | hd | hd
            · rw [e1 hd]; rfl
            · rw [e2 hd, c1 (by omega)]
              simp only [okRest, List.all_nil, Bool.and_true, decide_eq_true_eq]
              exact hc.1.2
            · omega
          · cases h
        · rw [unit_form4 (by omega) hl hz] at h
          split at h
          · rename_i hc
            cases h
            rcases hd with hd | hd | hd
            · rw [e1 hd]; rfl
            · rw [e2 hd, c1 (by omega)]
              simp only [okRest, List.all_nil, Bool.and_true, decide_eq_true_eq]
              exact hc.1.2
            · rw [e3 hd, c1 (by omega), c2 (by omega)]
              simp only [okRest, List.all_nil, List.all_cons, Bool.and_true, Bool.and_eq_true, decide_eq_true_eq]
              exact ⟨hc.1.2, hc.2.1.2⟩
          · cases h
end Go.Proofs.YtfiahgahphammaaDoor
/- The units of a whole are those of the beginning that Cut leaves and, moved, those of the rest. Plain Lean. -/
namespace Go.Proofs.YtfiahgahphammaaDoor
open Go Go.RowKit Go.Proofs.YtfiahgahphammaaDoorW.PrintWords Go.Proofs.YtfiahgahphammaaDoorW.PrintLast Go.Proofs.YtfiahgahphammaaDoorW.PrintMore
theorem unitsFrom_fuel (s : ByteArray) : ∀ (f g i : Nat), s.size ≤ i + f → s.size ≤ i + g → unitsFrom s f i = unitsFrom s g i
  | 0, g, i, h1, _ => by
    cases g with
    | zero => rfl
    | succ g => rw [unitsFrom, unitsFrom, if_neg (by omega)]
  | f + 1, 0, i, _, h2 => by rw [show unitsFrom s 0 i = [] from rfl, unitsFrom, if_neg (by omega)]
  | f + 1, g + 1, i, h1, h2 => by
    have hl := (unitLen_pos s i).1
    rw [unitsFrom, unitsFrom]
    split
    · rw [unitsFrom_fuel s f g _ (by omega) (by omega)]
    · rfl
def shiftU (d : Int) (u : Int × Int × Int) : Int × Int × Int := (u.1, u.2.1 + d, u.2.2 + d)
section
variable {A H D T : ByteArray} {i0 : Nat}
/-- The same unit in the beginning and in the whole. -/
theorem head_unit (hi0 : i0 = A.size - cutR A) (hH : H.size = i0) (hAT : A.size ≤ T.size) (hbA : ∀ m, m < A.size → bt T m = bt A m) (hbH : ∀ m, m < i0 → bt H m = bt T m) {i : Nat} (hi : i < i0) : unitO T i = unitO H i := by
  have hc := cut_le A
  cases hu : unitO H i with
  | some x =>
    obtain ⟨p, n⟩ := x
    have hg := good_bytes hu (by omega)
    exact good_ext hu (by omega) (fun m hm => (hbH (i + m) (by omega)).symm) (by omega)
  | none =>
    cases ht : unitO T i with
    | none => rfl
    | some x =>
      exfalso
      obtain ⟨p, n⟩ := x
      have hg := good_bytes ht (by omega)
      by_cases h1 : i + n ≤ i0
      · have := good_ext (t := H) (j := i) ht (by omega) (fun m hm => hbH (i + m) (by omega)) (by omega)
        rw [hu] at this
        cases this
      · by_cases h2 : i + n ≤ A.size
        · have hc0 : 0 < cutR A := by omega
          have hl := cutAux_longer A (min 3 A.size) hc0
          have hl' : longer A i0 := by rw [hi0]; exact hl
          have hld := longer_lead (by omega) (by omega) hl'
          have := hg.2.2.2.2.1 (i0 - i) (by omega) (by omega)
          rw [show i + (i0 - i) = i0 by omega, hbA i0 (by omega)] at this
          omega
        · have hl := longer_of ht (by omega) hAT hbA (by omega)
          have hn := cutAux_not A (min 3 A.size) (A.size - i) (by show cutR A < _; omega) (by omega)
          rw [show A.size - (A.size - i) = i by omega] at hn
          exact hn hl
theorem whole_head (hi0 : i0 = A.size - cutR A) (hH : H.size = i0) (hAT : A.size ≤ T.size) (hbA : ∀ m, m < A.size → bt T m = bt A m) (hbH : ∀ m, m < i0 → bt H m = bt T m) :
    ∀ (f i F : Nat), i ≤ i0 → i0 ≤ i + f → T.size ≤ i + F → unitsFrom T F i = unitsFrom H f i ++ unitsFrom T T.size i0
  | 0, i, F, h1, h2, h3 => by
    obtain rfl : i = i0 := by omega
    rw [unitsFrom, List.nil_append]
    exact unitsFrom_fuel T _ _ _ h3 (by omega)
  | f + 1, i, F, h1, h2, h3 => by
    rw [unitsFrom]
    by_cases hlt : i < i0
    · have hT : i < T.size := by omega
      obtain ⟨G, rfl⟩ : ∃ G, F = G + 1 := ⟨F - 1, by omega⟩
      have hs := same_unit (head_unit hi0 hH hAT hbA hbH hlt)
      have he := unit_end (s := H) (q := i) (by omega)
      have hl := (unitLen_pos H i).1
      rw [unitsFrom, if_pos hT, if_pos (by omega), hs.1, hs.2, List.cons_append, whole_head hi0 hH hAT hbA hbH f (i + unitLen H i) G (by omega) (by omega) (by omega)]
    · obtain rfl : i = i0 := by omega
      rw [if_neg (by omega), List.nil_append]
      exact unitsFrom_fuel T _ _ _ h3 (by omega)
theorem whole_rest (hD : D.size = T.size - i0) (hbD : ∀ m, i0 + m < T.size → bt D m = bt T (i0 + m : Nat)) : ∀ (f j : Nat), unitsFrom T f (i0 + j) = (unitsFrom D f j).map (shiftU i0)
  | 0, j => rfl
  | f + 1, j => by
    rw [unitsFrom, unitsFrom]
    by_cases hlt : i0 + j < T.size
    · have hs := same_unit (unitO_same (s := D) (t := T) (i := j) (j := i0 + j) (by omega) hlt (by omega) (fun m hm => by rw [hbD (j + m) (by omega)]; congr 2; omega))
      rw [if_pos hlt, if_pos (by omega), hs.1, hs.2, List.map_cons, Nat.add_assoc, whole_rest hD hbD f (j + unitLen D j)]
      congr 1
      simp only [shiftU, Prod.mk.injEq, true_and]
      omega
    · rw [if_neg hlt, if_neg (by omega)]
      rfl
end
theorem bt_append_left {A B : ByteArray} {m : Nat} (h : m < A.size) : bt (A ++ B) m = bt A m := by
  rw [bt_of (bytesOf_append A B) m, bt_of (u := A) rfl m]
  simp [List.getD, List.getElem?_append_left (by rw [bytesOf_length]; exact h)]
theorem bt_append_right {A B : ByteArray} {m : Nat} : bt (A ++ B) (A.size + m : Nat) = bt B m := by
  rw [bt_of (bytesOf_append A B), bt_of (u := B) rfl m]
  simp [List.getD, List.getElem?_append_right, bytesOf_length]
theorem bt_take {A : ByteArray} {i m : Nat} (h : m < i) (hi : i ≤ A.size) : bt (A.extract 0 i) m = bt A m := by
  have := bytesOf_extract A 0 i (by omega)
  rw [Nat.zero_add] at this
  rw [bt_of this m]
  simp [List.getD, List.getElem?_map, List.getElem?_range h]
/-- THE LAW OF PIECES. -/
theorem pieces (A B : ByteArray) : unitsFrom (A ++ B) (A ++ B).size 0 = unitsFrom (A.extract 0 (A.size - cutR A)) (A.extract 0 (A.size - cutR A)).size 0 ++
    (unitsFrom (A.extract (A.size - cutR A) A.size ++ B) (A.extract (A.size - cutR A) A.size ++ B).size 0).map (shiftU ((A.size - cutR A : Nat) : Int)) := by
  have hc := cut_le A
  obtain ⟨i0, hi0⟩ : ∃ i0, i0 = A.size - cutR A := ⟨_, rfl⟩
  rw [← hi0]
  have hT : (A ++ B).size = A.size + B.size := ByteArray.size_append
  have hH : (A.extract 0 i0).size = i0 := by rw [ByteArray.size_extract]; omega
  have hE : (A.extract i0 A.size).size = A.size - i0 := size_drop A i0
  have hD : (A.extract i0 A.size ++ B).size = (A ++ B).size - i0 := by rw [ByteArray.size_append, hE, hT]; omega
  have hbA : ∀ m, m < A.size → bt (A ++ B) m = bt A m := fun m hm => bt_append_left hm
  have hbH : ∀ m, m < i0 → bt (A.extract 0 i0) m = bt (A ++ B) m := fun m hm => by rw [hbA m (by omega), bt_take hm (by omega)]
  have hbD : ∀ m, i0 + m < (A ++ B).size → bt (A.extract i0 A.size ++ B) m = bt (A ++ B) (i0 + m : Nat) := by
    intro m hm
    by_cases h : i0 + m < A.size
    · rw [hbA (i0 + m) h, bt_append_left (by rw [hE]; omega), bt_drop A i0 m h]
    · have h1 := bt_append_right (A := A) (B := B) (m := i0 + m - A.size)
      have h2 := bt_append_right (A := A.extract i0 A.size) (B := B) (m := i0 + m - A.size)
      rw [show A.size + (i0 + m - A.size) = i0 + m by omega] at h1
      rw [hE, show A.size - i0 + (i0 + m - A.size) = m by omega] at h2
      rw [h1, h2]
  have h1 := whole_head hi0 hH (by omega) hbA hbH i0 0 (A ++ B).size (by omega) (by omega) (by omega)
  have h2 := whole_rest hD hbD (A ++ B).size 0
  rw [Nat.add_zero] at h2
  rw [h1, h2, hH]
  congr 2
  exact unitsFrom_fuel _ _ _ _ (by omega) (by omega)
end Go.Proofs.YtfiahgahphammaaDoor
/- caesurakit.Pick; caesuralaw2.first. Condition: the table reads as listed. -/
namespace Go.Proofs.YtfiahgahphammaaDoor
open Go Go.RowKit Go.Proofs.YtfiahgahphammaaDoorW.PrintWords Go.Proofs.YtfiahgahphammaaDoorW.PrintLast Go.Proofs.YtfiahgahphammaaDoorW.PrintMore
theorem emod_tmod (k n : Int) (h : 0 < n) : k % n = if Int.tmod k n < 0 then Int.tmod k n + n else Int.tmod k n := by
  have h1 := Int.tmod_eq_emod (a := k) (b := n)
  rw [h1]
  have := Int.emod_nonneg k (by omega : n ≠ 0)
  have := Int.emod_lt_of_pos k h
  have hna : (n.natAbs : Int) = n := Int.natAbs_of_nonneg (by omega)
  split <;> split <;> omega
set_option maxRecDepth 100000 in
theorem pick_any (k : Int) (n : Nat) (w : World) (hn : 1 ≤ n) (hn2 : n ≤ 4611686018427387904) :
    Calls Tryd.prog 23 #[.int .i64 k, .int .i64 n] w fun e w' => e = .returned (.int .i64 (k % n)) ∧ w = w' := by
  have l0 : decide (n < 1) = false := by simp; omega
  have l0' : decide ((n : Int) < 1) = false := by simp; omega
  have l1 : ((n : Int) == 0) = false := by simp; omega
  have l1' : (n == 0) = false := by simp; omega
  have hE := emod_tmod k n (by omega)
  have hb0 := Int.emod_nonneg k (by omega : (n : Int) ≠ 0)
  have hb1 := Int.emod_lt_of_pos k (show 0 < (n : Int) by omega)
  have HE := Sh.mk hE
  by_cases hneg : Int.tmod k n < 0
  · rw [if_pos hneg] at hE
    have l2 : decide (Int.tmod k n < 0) = true := by simpa using hneg
    have hr1 : -4611686018427387904 ≤ Int.tmod k n := by omega
    have hr2 : Int.tmod k n ≤ 4611686018427387904 := by omega
    have HE := Sh.mk hE
    clear hE hb0 hb1
    go_enter Tryd.func23, Tryd.ntmps23
    go_wp2
    go_ret
    exact ⟨by rw [HE.out]; rfl, rfl⟩
  · rw [if_neg hneg] at hE
    have l2 : decide (Int.tmod k n < 0) = false := by simpa using hneg
    have HE := Sh.mk hE
    have hr1 : 0 ≤ Int.tmod k n := by omega
    have hr2 : Int.tmod k n ≤ 4611686018427387904 := by omega
    clear hE hb0 hb1
    go_enter Tryd.func23, Tryd.ntmps23
    go_wp2
    go_ret
    exact ⟨by rw [HE.out]; rfl, rfl⟩
theorem units_first : unitsFrom { data := #[97, 195, 169, 128] } 4 0 = [(97, 0, 1), (233, 1, 3), (-1, 3, 4)] := by decide +kernel
/-- A literal row of three units, read. -/
theorem lit_C3 (W : World) (u0 u1 u2 : Int × Int × Int) : unitK.C (W.alloc (.cells #[.int .i64 u0.1, .int .i64 u0.2.1, .int .i64 u0.2.2, .int .i64 u1.1, .int .i64 u1.2.1, .int .i64 u1.2.2, .int .i64 u2.1, .int .i64 u2.2.1, .int .i64 u2.2.2] 39)) (some ⟨W.heap.size, 0, none⟩) 3 [u0, u1, u2] := by
  refine ⟨rfl, by omega, fun _ => ⟨_, rfl, fun j p hj => ?_⟩⟩
  refine ⟨[.int .i64 p.1, .int .i64 p.2.1, .int .i64 p.2.2], rfl, ⟨[.int .i64 p.1], [.int .i64 p.2.1, .int .i64 p.2.2], rfl, rfl, [.int .i64 p.2.1], [.int .i64 p.2.2], rfl, rfl, rfl⟩, fun i u hu => ?_⟩
  have e : ∀ m, (⟨W.heap.size, 0, none⟩ : Addr).add m = ⟨W.heap.size, m, none⟩ := fun m => by unfold Addr.add; split <;> simp_all
  rw [e, blk_cell (blk_new W _)]
  match j, hj with
  | 0, hj => cases hj; match i, hu with | 0, hu => cases hu; rfl | 1, hu => cases hu; rfl | 2, hu => cases hu; rfl
  | 1, hj => cases hj; match i, hu with | 0, hu => cases hu; rfl | 1, hu => cases hu; rfl | 2, hu => cases hu; rfl
  | 2, hj => cases hj; match i, hu with | 0, hu => cases hu; rfl | 1, hu => cases hu; rfl | 2, hu => cases hu; rfl
set_option maxRecDepth 100000 in
set_option maxHeartbeats 4000000 in
theorem first_any (w : World) (hf : FormsAt w) :
    Calls Tryd.prog 28 #[] w fun e w' => e = .returned (.bool true) ∧ Below w.heap.size w w' := by
  have HF := Sh.mk hf
  clear hf
  go_enter Tryd.func28, Tryd.ntmps28
  go_wp2_with fail
  refine (split_any { data := #[97, 195, 169, 128] } w HF.out (by decide)).mono ?_
  rintro e w1 ⟨v, rfl, ho, hb1⟩
  rw [show ({ data := #[97, 195, 169, 128] } : ByteArray).size = 4 from rfl, units_first] at ho
  obtain ⟨A, c, rfl, hc, hC⟩ := R_open ho 3 rfl
  have HC := Sh.mk hC
  have HB := Sh.mk hb1
  clear ho hC hb1
  go_wp2_with fail
  have HL := lit_C3 w1 (97, 0, 1) (233, 1, 3) (-1, 3, 4)
  have ha : Below w1.heap.size w1 (w1.alloc (.cells #[.int .i64 97, .int .i64 0, .int .i64 1, .int .i64 233, .int .i64 1, .int .i64 3, .int .i64 (-1), .int .i64 3, .int .i64 4] 39)) := (Below.refl _ _).alloc (Nat.le_refl _) _
  refine (sameUnits_any A _ c _ 3 3 _ _ _ (Kd.C_below HC.out ha) HL).mono ?_
  rintro e w2 ⟨rfl, hd⟩
  have HB2 := Sh.mk (below_of (below_of HB.out ha) hd.below)
  clear hd HL ha
  go_wp2
  go_ret
  exact ⟨rfl, HB2.out⟩
end Go.Proofs.YtfiahgahphammaaDoor
/- What Cut says of a text's end can still become one unit; else it is bad bytes. Plain Lean. -/
namespace Go.Proofs.YtfiahgahphammaaDoor
open Go Go.RowKit Go.Proofs.YtfiahgahphammaaDoorW.PrintWords Go.Proofs.YtfiahgahphammaaDoorW.PrintLast Go.Proofs.YtfiahgahphammaaDoorW.PrintMore
def endsL : List ByteArray := [{ data := #[128] }, { data := #[144] }, { data := #[160] }, { data := #[128, 128] }, { data := #[144, 128] }, { data := #[160, 128] }, { data := #[128, 128, 128] }, { data := #[144, 128, 128] }]
/-- Does an end make one unit of it? -/
def hitO (s : ByteArray) (e : ByteArray) (o : Option (Int × Int × Int)) : Bool := match o with | some u => u.1 != -1 && (u.2.2 == (s.size : Int) + (e.size : Int)) | none => false
def hitR (s : ByteArray) (a j : Nat) : Bool := hitO s (endsL.getD j ByteArray.empty) (nextR (s ++ endsL.getD j ByteArray.empty) a)
theorem hit_of {s e : ByteArray} {a n : Nat} {p : Int} (ha : a < s.size) (hl : 194 ≤ bt s a) (h : unitO (s ++ e) a = some (p, n)) (hn : a + n = s.size + e.size) : hitO s e (nextR (s ++ e) a) = true := by
  have hT : (s ++ e).size = s.size + e.size := ByteArray.size_append
  have hin : insideR (s ++ e) a = false := by
    cases hq : insideR (s ++ e) a with
    | false => rfl
    | true =>
      obtain ⟨q, h1, h2⟩ := inside_iff.1 hq
      have := cov_bytes (by omega) h2
      rw [bt_append_left ha] at this
      omega
  have hg := good_bytes h (by omega)
  have hu : unitPt (s ++ e) a = p ∧ unitLen (s ++ e) a = n := by unfold unitPt unitLen; rw [h]; exact ⟨rfl, rfl⟩
  unfold nextR
  rw [if_neg (fun h => by rcases h with h | h <;> omega), Int.toNat_natCast, hin]
  simp only [Bool.false_eq_true, if_false, hitO, unitTr, hu.1, hu.2, Bool.and_eq_true, bne_iff_ne, beq_iff_eq]
  omega
theorem bt_tail {s e : ByteArray} {a m j : Nat} (h : a + m = s.size + j) : bt (s ++ e) (a + m : Nat) = bt e j := by rw [h]; exact bt_append_right
theorem held_found (s : ByteArray) (h0 : 0 < cutR s) : (List.range 8).any (hitR s (s.size - cutR s)) = true := by
  have hc := cut_le s
  obtain ⟨c, hcd⟩ : ∃ c, c = cutR s := ⟨_, rfl⟩
  have hl := cutAux_longer s (min 3 s.size) h0
  change longer s (s.size - cutR s) at hl
  rw [← hcd] at hc h0 hl ⊢
  obtain ⟨a, ha⟩ : ∃ a, a = s.size - c := ⟨_, rfl⟩
  rw [← ha] at hl ⊢
  have hlt : a < s.size := by omega
  have hlead := longer_lead hlt (by omega) hl
  rw [← longer_drop s a hlt, run_longer (bytes_from s a hlt) (by simp; omega)] at hl
  obtain ⟨k, hk, hz, h128, hok⟩ := hl
  simp only [List.length_map, List.length_range] at hz
  have hk8 := leadF_lt hk
  have hs1 : a + c = s.size := by omega
  have hcz : c = s.size - a := by omega
  have c1 : c = 1 → (List.range (s.size - a - 1)).map (fun j => bt s (a + 1 + j : Nat)) = [] := fun e => by rw [← hcz, e]; rfl
  have c2 : c = 2 → (List.range (s.size - a - 1)).map (fun j => bt s (a + 1 + j : Nat)) = [bt s (a + 1 : Nat)] := fun e => by rw [← hcz, e]; rfl
  have c3 : c = 3 → (List.range (s.size - a - 1)).map (fun j => bt s (a + 1 + j : Nat)) = [bt s (a + 1 : Nat), bt s (a + 2 : Nat)] := fun e => by rw [← hcz, e]; rfl
  have hany : ∀ j, j < 8 → hitR s a j = true → (List.range 8).any (hitR s a) = true := fun j h1 h2 => List.any_eq_true.2 ⟨j, by simpa using h1, h2⟩
  have b0 : ∀ e : ByteArray, bt (s ++ e) a = bt s a := fun e => bt_append_left hlt
  have hT : ∀ e : ByteArray, (s ++ e).size = s.size + e.size := fun e => ByteArray.size_append
  have h : k = 0 ∨ k = 1 ∨ k = 2 ∨ k = 3 ∨ k = 4 ∨ k = 5 ∨ k = 6 ∨ k = 7 := by omega
  have hcc : c = 1 ∨ c = 2 ∨ c = 3 := by omega
  rcases h with rfl | rfl | rfl | rfl | rfl | rfl | rfl | rfl
  · have f2 : formAt 0 2 = 128 := rfl
    have f3 : formAt 0 3 = 191 := rfl
    have f4 : formAt 0 4 = 2 := rfl
    rw [f4] at hz
    rcases hcc with hcc | hcc | hcc
    · rw [c1 hcc] at hok
      refine hany 0 (by omega) ?_
      have b1 : bt (s ++ { data := #[128] }) (a + 1 : Nat) = 128 := bt_tail (j := 0) (by omega)
      have hT1 : (s ++ ({ data := #[128] } : ByteArray)).size = s.size + 1 := hT _
      have hu : ∃ p, unitO (s ++ ({ data := #[128] } : ByteArray)) a = some (p, 2) := ⟨_, by rw [unit_form2 (by rw [b0]; omega) (by rw [b0]; exact hk) f4, f2, f3, b1, if_pos (by omega)]⟩
      obtain ⟨p, hu⟩ := hu
      exact hit_of hlt hlead hu (by show a + 2 = s.size + 1; omega)
    · omega
    · omega
  · have f2 : formAt 1 2 = 160 := rfl
    have f3 : formAt 1 3 = 191 := rfl
    have f4 : formAt 1 4 = 3 := rfl
    rw [f4] at hz
    rcases hcc with hcc | hcc | hcc
    · rw [c1 hcc] at hok
      refine hany 5 (by omega) ?_
      have b1 : bt (s ++ { data := #[160, 128] }) (a + 1 : Nat) = 160 := bt_tail (j := 0) (by omega)
      have b2 : bt (s ++ { data := #[160, 128] }) (a + 2 : Nat) = 128 := bt_tail (j := 1) (by omega)
      have hT1 : (s ++ ({ data := #[160, 128] } : ByteArray)).size = s.size + 2 := hT _
      have hu : ∃ p, unitO (s ++ ({ data := #[160, 128] } : ByteArray)) a = some (p, 3) := ⟨_, by rw [unit_form3 (by rw [b0]; omega) (by rw [b0]; exact hk) f4, f2, f3, b1, b2, if_pos (by omega)]⟩
      obtain ⟨p, hu⟩ := hu
      exact hit_of hlt hlead hu (by show a + 3 = s.size + 2; omega)
    · rw [c2 hcc] at hok
      simp only [okRest, List.all_nil, Bool.and_true, decide_eq_true_eq, f2, f3] at hok
      refine hany 0 (by omega) ?_
      have b1 : bt (s ++ { data := #[128] }) (a + 1 : Nat) = bt s (a + 1 : Nat) := bt_append_left (by omega)
      have b2 : bt (s ++ { data := #[128] }) (a + 2 : Nat) = 128 := bt_tail (j := 0) (by omega)
      have hT1 : (s ++ ({ data := #[128] } : ByteArray)).size = s.size + 1 := hT _
      have hu : ∃ p, unitO (s ++ ({ data := #[128] } : ByteArray)) a = some (p, 3) := ⟨_, by rw [unit_form3 (by rw [b0]; omega) (by rw [b0]; exact hk) f4, f2, f3, b1, b2, if_pos (by omega)]⟩
      obtain ⟨p, hu⟩ := hu
      exact hit_of hlt hlead hu (by show a + 3 = s.size + 1; omega)
    · omega
  · have f2 : formAt 2 2 = 128 := rfl
    have f3 : formAt 2 3 = 191 := rfl
    have f4 : formAt 2 4 = 3 := rfl
    rw [f4] at hz
    rcases hcc with hcc | hcc | hcc
    · rw [c1 hcc] at hok
      refine hany 3 (by omega) ?_
      have b1 : bt (s ++ { data := #[128, 128] }) (a + 1 : Nat) = 128 := bt_tail (j := 0) (by omega)
      have b2 : bt (s ++ { data := #[128, 128] }) (a + 2 : Nat) = 128 := bt_tail (j := 1) (by omega)
      have hT1 : (s ++ ({ data := #[128, 128] } : ByteArray)).size = s.size + 2 := hT _
      have hu : ∃ p, unitO (s ++ ({ data := #[128, 128] } : ByteArray)) a = some (p, 3) := ⟨_, by rw [unit_form3 (by rw [b0]; omega) (by rw [b0]; exact hk) f4, f2, f3, b1, b2, if_pos (by omega)]⟩
      obtain ⟨p, hu⟩ := hu
      exact hit_of hlt hlead hu (by show a + 3 = s.size + 2; omega)
    · rw [c2 hcc] at hok
      simp only [okRest, List.all_nil, Bool.and_true, decide_eq_true_eq, f2, f3] at hok
      refine hany 0 (by omega) ?_
      have b1 : bt (s ++ { data := #[128] }) (a + 1 : Nat) = bt s (a + 1 : Nat) := bt_append_left (by omega)
      have b2 : bt (s ++ { data := #[128] }) (a + 2 : Nat) = 128 := bt_tail (j := 0) (by omega)
      have hT1 : (s ++ ({ data := #[128] } : ByteArray)).size = s.size + 1 := hT _
      have hu : ∃ p, unitO (s ++ ({ data := #[128] } : ByteArray)) a = some (p, 3) := ⟨_, by rw [unit_form3 (by rw [b0]; omega) (by rw [b0]; exact hk) f4, f2, f3, b1, b2, if_pos (by omega)]⟩
      obtain ⟨p, hu⟩ := hu
      exact hit_of hlt hlead hu (by show a + 3 = s.size + 1; omega)
    · omega
  · have f2 : formAt 3 2 = 128 := rfl
    have f3 : formAt 3 3 = 159 := rfl
    have f4 : formAt 3 4 = 3 := rfl
    rw [f4] at hz
    rcases hcc with hcc | hcc | hcc
    · rw [c1 hcc] at hok
      refine hany 3 (by omega) ?_
      have b1 : bt (s ++ { data := #[128, 128] }) (a + 1 : Nat) = 128 := bt_tail (j := 0) (by omega)
      have b2 : bt (s ++ { data := #[128, 128] }) (a + 2 : Nat) = 128 := bt_tail (j := 1) (by omega)
      have hT1 : (s ++ ({ data := #[128, 128] } : ByteArray)).size = s.size + 2 := hT _
      have hu : ∃ p, unitO (s ++ ({ data := #[128, 128] } : ByteArray)) a = some (p, 3) := ⟨_, by rw [unit_form3 (by rw [b0]; omega) (by rw [b0]; exact hk) f4, f2, f3, b1, b2, if_pos (by omega)]⟩
      obtain ⟨p, hu⟩ := hu
      exact hit_of hlt hlead hu (by show a + 3 = s.size + 2; omega)
    · rw [c2 hcc] at hok
      simp only [okRest, List.all_nil, Bool.and_true, decide_eq_true_eq, f2, f3] at hok
      refine hany 0 (by omega) ?_
      have b1 : bt (s ++ { data := #[128] }) (a + 1 : Nat) = bt s (a + 1 : Nat) := bt_append_left (by omega)
      have b2 : bt (s ++ { data := #[128] }) (a + 2 : Nat) = 128 := bt_tail (j := 0) (by omega)
      have hT1 : (s ++ ({ data := #[128] } : ByteArray)).size = s.size + 1 := hT _
      have hu : ∃ p, unitO (s ++ ({ data := #[128] } : ByteArray)) a = some (p, 3) := ⟨_, by rw [unit_form3 (by rw [b0]; omega) (by rw [b0]; exact hk) f4, f2, f3, b1, b2, if_pos (by omega)]⟩
      obtain ⟨p, hu⟩ := hu
      exact hit_of hlt hlead hu (by show a + 3 = s.size + 1; omega)
    · omega
  · have f2 : formAt 4 2 = 128 := rfl
    have f3 : formAt 4 3 = 191 := rfl
    have f4 : formAt 4 4 = 3 := rfl
    rw [f4] at hz
    rcases hcc with hcc | hcc | hcc
    · rw [c1 hcc] at hok
      refine hany 3 (by omega) ?_
      have b1 : bt (s ++ { data := #[128, 128] }) (a + 1 : Nat) = 128 := bt_tail (j := 0) (by omega)
      have b2 : bt (s ++ { data := #[128, 128] }) (a + 2 : Nat) = 128 := bt_tail (j := 1) (by omega)
      have hT1 : (s ++ ({ data := #[128, 128] } : ByteArray)).size = s.size + 2 := hT _
      have hu : ∃ p, unitO (s ++ ({ data := #[128, 128] } : ByteArray)) a = some (p, 3) := ⟨_, by rw [unit_form3 (by rw [b0]; omega) (by rw [b0]; exact hk) f4, f2, f3, b1, b2, if_pos (by omega)]⟩
      obtain ⟨p, hu⟩ := hu
      exact hit_of hlt hlead hu (by show a + 3 = s.size + 2; omega)
    · rw [c2 hcc] at hok
      simp only [okRest, List.all_nil, Bool.and_true, decide_eq_true_eq, f2, f3] at hok
      refine hany 0 (by omega) ?_
      have b1 : bt (s ++ { data := #[128] }) (a + 1 : Nat) = bt s (a + 1 : Nat) := bt_append_left (by omega)
      have b2 : bt (s ++ { data := #[128] }) (a + 2 : Nat) = 128 := bt_tail (j := 0) (by omega)
      have hT1 : (s ++ ({ data := #[128] } : ByteArray)).size = s.size + 1 := hT _
      have hu : ∃ p, unitO (s ++ ({ data := #[128] } : ByteArray)) a = some (p, 3) := ⟨_, by rw [unit_form3 (by rw [b0]; omega) (by rw [b0]; exact hk) f4, f2, f3, b1, b2, if_pos (by omega)]⟩
      obtain ⟨p, hu⟩ := hu
      exact hit_of hlt hlead hu (by show a + 3 = s.size + 1; omega)
    · omega
  · have f2 : formAt 5 2 = 144 := rfl
    have f3 : formAt 5 3 = 191 := rfl
    have f4 : formAt 5 4 = 4 := rfl
    rw [f4] at hz
    rcases hcc with hcc | hcc | hcc
    · rw [c1 hcc] at hok
      refine hany 7 (by omega) ?_
      have b1 : bt (s ++ { data := #[144, 128, 128] }) (a + 1 : Nat) = 144 := bt_tail (j := 0) (by omega)
      have b2 : bt (s ++ { data := #[144, 128, 128] }) (a + 2 : Nat) = 128 := bt_tail (j := 1) (by omega)
      have b3 : bt (s ++ { data := #[144, 128, 128] }) (a + 3 : Nat) = 128 := bt_tail (j := 2) (by omega)
      have hT1 : (s ++ ({ data := #[144, 128, 128] } : ByteArray)).size = s.size + 3 := hT _
      have hu : ∃ p, unitO (s ++ ({ data := #[144, 128, 128] } : ByteArray)) a = some (p, 4) := ⟨_, by rw [unit_form4 (by rw [b0]; omega) (by rw [b0]; exact hk) f4, f2, f3, b1, b2, b3, if_pos (by omega)]⟩
      obtain ⟨p, hu⟩ := hu
      exact hit_of hlt hlead hu (by show a + 4 = s.size + 3; omega)
    · rw [c2 hcc] at hok
      simp only [okRest, List.all_nil, Bool.and_true, decide_eq_true_eq, f2, f3] at hok
      refine hany 3 (by omega) ?_
      have b1 : bt (s ++ { data := #[128, 128] }) (a + 1 : Nat) = bt s (a + 1 : Nat) := bt_append_left (by omega)
      have b2 : bt (s ++ { data := #[128, 128] }) (a + 2 : Nat) = 128 := bt_tail (j := 0) (by omega)
      have b3 : bt (s ++ { data := #[128, 128] }) (a + 3 : Nat) = 128 := bt_tail (j := 1) (by omega)
      have hT1 : (s ++ ({ data := #[128, 128] } : ByteArray)).size = s.size + 2 := hT _
      have hu : ∃ p, unitO (s ++ ({ data := #[128, 128] } : ByteArray)) a = some (p, 4) := ⟨_, by rw [unit_form4 (by rw [b0]; omega) (by rw [b0]; exact hk) f4, f2, f3, b1, b2, b3, if_pos (by omega)]⟩
      obtain ⟨p, hu⟩ := hu
      exact hit_of hlt hlead hu (by show a + 4 = s.size + 2; omega)
    · rw [c3 hcc] at hok
      simp only [okRest, List.all_nil, List.all_cons, Bool.and_true, Bool.and_eq_true, decide_eq_true_eq, f2, f3] at hok
      refine hany 0 (by omega) ?_
      have b1 : bt (s ++ { data := #[128] }) (a + 1 : Nat) = bt s (a + 1 : Nat) := bt_append_left (by omega)
      have b2 : bt (s ++ { data := #[128] }) (a + 2 : Nat) = bt s (a + 2 : Nat) := bt_append_left (by omega)
      have b3 : bt (s ++ { data := #[128] }) (a + 3 : Nat) = 128 := bt_tail (j := 0) (by omega)
      have hT1 : (s ++ ({ data := #[128] } : ByteArray)).size = s.size + 1 := hT _
      have hu : ∃ p, unitO (s ++ ({ data := #[128] } : ByteArray)) a = some (p, 4) := ⟨_, by rw [unit_form4 (by rw [b0]; omega) (by rw [b0]; exact hk) f4, f2, f3, b1, b2, b3, if_pos (by omega)]⟩
      obtain ⟨p, hu⟩ := hu
      exact hit_of hlt hlead hu (by show a + 4 = s.size + 1; omega)
  · have f2 : formAt 6 2 = 128 := rfl
    have f3 : formAt 6 3 = 191 := rfl
    have f4 : formAt 6 4 = 4 := rfl
    rw [f4] at hz
    rcases hcc with hcc | hcc | hcc
    · rw [c1 hcc] at hok
      refine hany 6 (by omega) ?_
      have b1 : bt (s ++ { data := #[128, 128, 128] }) (a + 1 : Nat) = 128 := bt_tail (j := 0) (by omega)
      have b2 : bt (s ++ { data := #[128, 128, 128] }) (a + 2 : Nat) = 128 := bt_tail (j := 1) (by omega)
      have b3 : bt (s ++ { data := #[128, 128, 128] }) (a + 3 : Nat) = 128 := bt_tail (j := 2) (by omega)
      have hT1 : (s ++ ({ data := #[128, 128, 128] } : ByteArray)).size = s.size + 3 := hT _
      have hu : ∃ p, unitO (s ++ ({ data := #[128, 128, 128] } : ByteArray)) a = some (p, 4) := ⟨_, by rw [unit_form4 (by rw [b0]; omega) (by rw [b0]; exact hk) f4, f2, f3, b1, b2, b3, if_pos (by omega)]⟩
      obtain ⟨p, hu⟩ := hu
      exact hit_of hlt hlead hu (by show a + 4 = s.size + 3; omega)
    · rw [c2 hcc] at hok
      simp only [okRest, List.all_nil, Bool.and_true, decide_eq_true_eq, f2, f3] at hok
      refine hany 3 (by omega) ?_
      have b1 : bt (s ++ { data := #[128, 128] }) (a + 1 : Nat) = bt s (a + 1 : Nat) := bt_append_left (by omega)
      have b2 : bt (s ++ { data := #[128, 128] }) (a + 2 : Nat) = 128 := bt_tail (j := 0) (by omega)
      have b3 : bt (s ++ { data := #[128, 128] }) (a + 3 : Nat) = 128 := bt_tail (j := 1) (by omega)
      have hT1 : (s ++ ({ data := #[128, 128] } : ByteArray)).size = s.size + 2 := hT _
      have hu : ∃ p, unitO (s ++ ({ data := #[128, 128] } : ByteArray)) a = some (p, 4) := ⟨_, by rw [unit_form4 (by rw [b0]; omega) (by rw [b0]; exact hk) f4, f2, f3, b1, b2, b3, if_pos (by omega)]⟩
      obtain ⟨p, hu⟩ := hu
      exact hit_of hlt hlead hu (by show a + 4 = s.size + 2; omega)
    · rw [c3 hcc] at hok
      simp only [okRest, List.all_nil, List.all_cons, Bool.and_true, Bool.and_eq_true, decide_eq_true_eq, f2, f3] at hok
      refine hany 0 (by omega) ?_
      have b1 : bt (s ++ { data := #[128] }) (a + 1 : Nat) = bt s (a + 1 : Nat) := bt_append_left (by omega)
      have b2 : bt (s ++ { data := #[128] }) (a + 2 : Nat) = bt s (a + 2 : Nat) := bt_append_left (by omega)
      have b3 : bt (s ++ { data := #[128] }) (a + 3 : Nat) = 128 := bt_tail (j := 0) (by omega)
      have hT1 : (s ++ ({ data := #[128] } : ByteArray)).size = s.size + 1 := hT _
      have hu : ∃ p, unitO (s ++ ({ data := #[128] } : ByteArray)) a = some (p, 4) := ⟨_, by rw [unit_form4 (by rw [b0]; omega) (by rw [b0]; exact hk) f4, f2, f3, b1, b2, b3, if_pos (by omega)]⟩
      obtain ⟨p, hu⟩ := hu
      exact hit_of hlt hlead hu (by show a + 4 = s.size + 1; omega)
  · have f2 : formAt 7 2 = 128 := rfl
    have f3 : formAt 7 3 = 143 := rfl
    have f4 : formAt 7 4 = 4 := rfl
    rw [f4] at hz
    rcases hcc with hcc | hcc | hcc
    · rw [c1 hcc] at hok
      refine hany 6 (by omega) ?_
      have b1 : bt (s ++ { data := #[128, 128, 128] }) (a + 1 : Nat) = 128 := bt_tail (j := 0) (by omega)
      have b2 : bt (s ++ { data := #[128, 128, 128] }) (a + 2 : Nat) = 128 := bt_tail (j := 1) (by omega)
      have b3 : bt (s ++ { data := #[128, 128, 128] }) (a + 3 : Nat) = 128 := bt_tail (j := 2) (by omega)
      have hT1 : (s ++ ({ data := #[128, 128, 128] } : ByteArray)).size = s.size + 3 := hT _
      have hu : ∃ p, unitO (s ++ ({ data := #[128, 128, 128] } : ByteArray)) a = some (p, 4) := ⟨_, by rw [unit_form4 (by rw [b0]; omega) (by rw [b0]; exact hk) f4, f2, f3, b1, b2, b3, if_pos (by omega)]⟩
      obtain ⟨p, hu⟩ := hu
      exact hit_of hlt hlead hu (by show a + 4 = s.size + 3; omega)
    · rw [c2 hcc] at hok
      simp only [okRest, List.all_nil, Bool.and_true, decide_eq_true_eq, f2, f3] at hok
      refine hany 3 (by omega) ?_
      have b1 : bt (s ++ { data := #[128, 128] }) (a + 1 : Nat) = bt s (a + 1 : Nat) := bt_append_left (by omega)
      have b2 : bt (s ++ { data := #[128, 128] }) (a + 2 : Nat) = 128 := bt_tail (j := 0) (by omega)
      have b3 : bt (s ++ { data := #[128, 128] }) (a + 3 : Nat) = 128 := bt_tail (j := 1) (by omega)
      have hT1 : (s ++ ({ data := #[128, 128] } : ByteArray)).size = s.size + 2 := hT _
      have hu : ∃ p, unitO (s ++ ({ data := #[128, 128] } : ByteArray)) a = some (p, 4) := ⟨_, by rw [unit_form4 (by rw [b0]; omega) (by rw [b0]; exact hk) f4, f2, f3, b1, b2, b3, if_pos (by omega)]⟩
      obtain ⟨p, hu⟩ := hu
      exact hit_of hlt hlead hu (by show a + 4 = s.size + 2; omega)
    · rw [c3 hcc] at hok
      simp only [okRest, List.all_nil, List.all_cons, Bool.and_true, Bool.and_eq_true, decide_eq_true_eq, f2, f3] at hok
      refine hany 0 (by omega) ?_
      have b1 : bt (s ++ { data := #[128] }) (a + 1 : Nat) = bt s (a + 1 : Nat) := bt_append_left (by omega)
      have b2 : bt (s ++ { data := #[128] }) (a + 2 : Nat) = bt s (a + 2 : Nat) := bt_append_left (by omega)
      have b3 : bt (s ++ { data := #[128] }) (a + 3 : Nat) = 128 := bt_tail (j := 0) (by omega)
      have hT1 : (s ++ ({ data := #[128] } : ByteArray)).size = s.size + 1 := hT _
      have hu : ∃ p, unitO (s ++ ({ data := #[128] } : ByteArray)) a = some (p, 4) := ⟨_, by rw [unit_form4 (by rw [b0]; omega) (by rw [b0]; exact hk) f4, f2, f3, b1, b2, b3, if_pos (by omega)]⟩
      obtain ⟨p, hu⟩ := hu
      exact hit_of hlt hlead hu (by show a + 4 = s.size + 1; omega)
/-- Behind the cut all is bad. -/
theorem bad_one {s : ByteArray} {i f : Nat} (hi : i < s.size) (h : unitO s i = none) : unitsFrom s (f + 1) i = (-1, (i : Int), (i : Int) + 1) :: unitsFrom s f (i + 1) := by
  have hu : unitPt s i = -1 ∧ unitLen s i = 1 := by unfold unitPt unitLen; rw [h]; exact ⟨rfl, rfl⟩
  rw [unitsFrom, if_pos hi, hu.1, hu.2]
  rfl
theorem cont_none {s : ByteArray} {i : Nat} (h1 : 128 ≤ bt s i) (h2 : bt s i ≤ 191) : unitO s i = none := by
  cases hl : leadF (bt s i) with
  | none => exact unit_none h1 hl
  | some k =>
    have := lead_some hl
    have := form_lohi k (leadF_lt hl)
    omega
theorem held_bad (s : ByteArray) (h0 : 0 < cutR s) : ∃ hs rs, unitsFrom s s.size 0 = hs ++ rs ∧ rs.length = cutR s ∧ ∀ u ∈ rs, u.1 = -1 := by
  have hc := cut_le s
  obtain ⟨c, hcd⟩ : ∃ c, c = cutR s := ⟨_, rfl⟩
  have hl := cutAux_longer s (min 3 s.size) h0
  change longer s (s.size - cutR s) at hl
  have hT := pieces s { data := #[] }
  have he : s ++ ({ data := #[] } : ByteArray) = s := bytesOf_inj (by rw [bytesOf_append]; simp [bytesOf])
  have he2 : ∀ t : ByteArray, t ++ ({ data := #[] } : ByteArray) = t := fun t => bytesOf_inj (by rw [bytesOf_append]; simp [bytesOf])
  rw [he, he2, ← hcd] at hT
  rw [← hcd] at hc h0 hl ⊢
  obtain ⟨a, ha⟩ : ∃ a, a = s.size - c := ⟨_, rfl⟩
  rw [← ha] at hl hT
  have hlt : a < s.size := by omega
  refine ⟨_, _, hT, ?_⟩
  rw [← longer_drop s a hlt] at hl
  have hl0 := hl
  obtain ⟨t, ht⟩ : ∃ t, t = s.extract a s.size := ⟨_, rfl⟩
  have hts : t.size = c := by rw [ht, size_drop]; omega
  have hbt : bytesOf t = bt s a :: (List.range (s.size - a - 1)).map (fun j => bt s (a + 1 + j : Nat)) := by rw [ht]; exact bytes_from s a hlt
  rw [← ht] at hl hl0 ⊢
  rw [run_longer hbt (by simp; omega)] at hl
  obtain ⟨k, hk, hz, h128, hok⟩ := hl
  have hn0 : unitO t 0 = none := by
    unfold unitO
    rw [if_pos (Or.inr hl0.2)]
  have hcz : c = s.size - a := by omega
  have hcc : c = 1 ∨ c = 2 ∨ c = 3 := by omega
  have hlo := form_lohi k (leadF_lt hk)
  suffices hsuf : ∀ us, us = unitsFrom t t.size 0 → us.length = c ∧ ∀ u ∈ us, u.1 = -1 by
    have h := hsuf _ rfl
    refine ⟨by rw [List.length_map]; exact h.1, fun u hu => ?_⟩
    obtain ⟨v, hv, rfl⟩ := List.mem_map.1 hu
    exact h.2 v hv
  rintro us rfl
  rcases hcc with hcc | hcc | hcc
  · rw [hts, hcc, bad_one (by omega) hn0, show unitsFrom t 0 (0 + 1) = [] from rfl]
    simp
  · have e1 : (List.range (s.size - a - 1)).map (fun j => bt s (a + 1 + j : Nat)) = [bt s (a + 1 : Nat)] := by rw [← hcz, hcc]; rfl
    rw [e1] at hok hbt
    simp only [okRest, List.all_nil, Bool.and_true, decide_eq_true_eq] at hok
    have b1 : bt t ((0 + 1 : Nat) : Int) = bt s (a + 1 : Nat) := bt_of hbt 1
    have hn1 : unitO t (0 + 1) = none := cont_none (by rw [b1]; omega) (by rw [b1]; omega)
    rw [hts, hcc, bad_one (by omega) hn0, bad_one (by omega) hn1, show unitsFrom t 0 (0 + 1 + 1) = [] from rfl]
    simp
  · have e1 : (List.range (s.size - a - 1)).map (fun j => bt s (a + 1 + j : Nat)) = [bt s (a + 1 : Nat), bt s (a + 2 : Nat)] := by rw [← hcz, hcc]; rfl
    rw [e1] at hok hbt
    simp only [okRest, List.all_nil, List.all_cons, Bool.and_true, Bool.and_eq_true, decide_eq_true_eq] at hok
    have b1 : bt t ((0 + 1 : Nat) : Int) = bt s (a + 1 : Nat) := bt_of hbt 1
    have b2 : bt t ((0 + 1 + 1 : Nat) : Int) = bt s (a + 2 : Nat) := bt_of hbt 2
    have hn1 : unitO t (0 + 1) = none := cont_none (by rw [b1]; omega) (by rw [b1]; omega)
    have hn2 : unitO t (0 + 1 + 1) = none := cont_none (by rw [b2]; omega) (by rw [b2]; omega)
    rw [hts, hcc, bad_one (by omega) hn0, bad_one (by omega) hn1, bad_one (by omega) hn2, show unitsFrom t 0 (0 + 1 + 1 + 1) = [] from rfl]
    simp
end Go.Proofs.YtfiahgahphammaaDoor
/- The walk of caesuralaw2.UnitsHeld. Conditions: the text's size; the table reads as listed. -/
namespace Go.Proofs.YtfiahgahphammaaDoor
open Go Go.RowKit Go.Proofs.YtfiahgahphammaaDoorW.PrintWords Go.Proofs.YtfiahgahphammaaDoorW.PrintLast Go.Proofs.YtfiahgahphammaaDoorW.PrintMore
def endsC : Array Value := (endsL.map Value.string).toArray
theorem ends_cell (k : Nat) (hk : k < 8) : endsC[k]? = some (.string (endsL.getD k ByteArray.empty)) := by
  have h : k = 0 ∨ k = 1 ∨ k = 2 ∨ k = 3 ∨ k = 4 ∨ k = 5 ∨ k = 6 ∨ k = 7 := by omega
  rcases h with rfl | rfl | rfl | rfl | rfl | rfl | rfl | rfl <;> rfl
theorem ends_size (k : Nat) (hk : k < 8) : (endsL.getD k ByteArray.empty).size ≤ 3 := by
  have h : k = 0 ∨ k = 1 ∨ k = 2 ∨ k = 3 ∨ k = 4 ∨ k = 5 ∨ k = 6 ∨ k = 7 := by omega
  rcases h with rfl | rfl | rfl | rfl | rfl | rfl | rfl | rfl <;> decide
theorem any_snoc (p : Nat → Bool) (k : Nat) : (List.range (k + 1)).any p = ((List.range k).any p || p k) := by rw [List.range_succ, List.any_append]; simp
set_option maxRecDepth 100000 in
set_option maxHeartbeats 8000000 in
theorem held_any (s : ByteArray) (w : World) (hf : FormsAt w) (hs : s.size ≤ 4000000000000) :
    Calls Tryd.prog 9 #[.string s] w fun e w' => e = .returned (.bool true) ∧ Below w.heap.size w w' := by
  have HF := Sh.mk hf
  clear hf
  have hc3 := cut_le s
  obtain ⟨c, hc⟩ : ∃ c, c = cutR s := ⟨_, rfl⟩
  have HFO := Sh.mk (show 0 < c → (List.range 8).any (hitR s (s.size - c)) = true by rw [hc]; exact held_found s)
  have HBA := Sh.mk (show 0 < c → ∃ hs rs, unitsFrom s s.size 0 = hs ++ rs ∧ rs.length = c ∧ ∀ u ∈ rs, u.1 = -1 by rw [hc]; exact held_bad s)
  rw [← hc] at hc3
  have HC := Sh.mk hc
  clear hc
  have l1 : decide ((c : Int) < 0) = false := by simp
  have l3 : decide (s.size < c) = false := by simp; omega
  go_enter Tryd.func9, Tryd.ntmps9
  go_wp2_with fail
  refine (cut_any s w HF.out (by omega)).mono ?_
  rintro e w1 ⟨rfl, hb⟩
  rw [← HC.out]
  have HB1 := Sh.mk hb
  clear hb
  go_wp2_with fail
  refine (first_any w1 (HF.out.below HB1.out)).mono ?_
  rintro e w2 ⟨rfl, hb⟩
  have HB2 := Sh.mk (below_of HB1.out hb)
  clear hb HB1
  by_cases h0 : c = 0
  · subst h0
    go_wp2
    go_ret
    exact ⟨rfl, HB2.out⟩
  · have l4 : (c == 0) = false := by simpa using h0
    have l4' : ((c : Int) == 0) = false := by simp; omega
    obtain ⟨a, ha⟩ : ∃ a, a = s.size - c := ⟨_, rfl⟩
    have e1 : (s.size : Int) - (c : Int) = (a : Int) := by omega
    have hfo := HFO.out (by omega)
    rw [← ha] at hfo
    have HFO2 := Sh.mk hfo
    have HBA2 := Sh.mk (HBA.out (by omega))
    have has : a < s.size := by omega
    clear ha hfo HFO HBA h0
    obtain ⟨W3, hW3⟩ : ∃ W3, W3 = w2.alloc (.cells endsC 9) := ⟨_, rfl⟩
    obtain ⟨gE, hgE⟩ : ∃ g, g = w2.heap.size := ⟨_, rfl⟩
    have HW3 := Sh.mk hW3
    have HGE := Sh.mk hgE
    have HE3 := Sh.mk (show W3.heap[gE]? = some (.cells endsC 9 (0, 0)) by rw [hW3, hgE]; exact blk_new _ _)
    have HB3 := Sh.mk (show Below w.heap.size w W3 by rw [hW3]; exact HB2.out.alloc HB2.out.size _)
    clear hW3 hgE
    go_wp2
    rw [← HGE.out]
    change Code.wp _ _ _ _ (w2.alloc (.cells endsC 9))
    rw [← HW3.out]
    go_loopw [7, 8] (fun vf vi wr => ∃ k : Nat, k ≤ 8 ∧ vi = .int .i64 k ∧ vf = .bool ((List.range k).any (hitR s a)) ∧ Sh (wr.heap[gE]? = some (.cells endsC 9 (0, 0))) ∧ Sh (Below w.heap.size w wr)) (fun _ vi _ => 8 - (intOf vi).toNat)
    case atStart => exact ⟨0, by omega, rfl, rfl, HE3, HB3⟩
    case round =>
      obtain ⟨k, hk, rfl, rfl, HE, HB⟩ := hrel
      by_cases hlt : k < 8
      · have HAS := Sh.mk (any_snoc (hitR s a) k)
        have x0 := (blk_cell HE.out k).trans (ends_cell k hlt)
        have hes := ends_size k hlt
        obtain ⟨e, he⟩ : ∃ e, e = endsL.getD k ByteArray.empty := ⟨_, rfl⟩
        have HH := Sh.mk (show hitR s a k = hitO s e (nextR (s ++ e) a) by rw [he]; rfl)
        rw [← he] at x0 hes
        have HEK := Sh.mk he
        obtain ⟨f, hfd⟩ : ∃ f, f = (List.range k).any (hitR s a) := ⟨_, rfl⟩
        rw [← hfd] at HAS ⊢
        clear he hfd
        have hcat : s.size + e.size ≤ 9223372036854775807 := by omega
        have hTs : (s ++ e).size ≤ 4000000000003 := by rw [ByteArray.size_append]; omega
        have HTS := Sh.mk hTs
        clear hTs
        go_wp2_with fail
        refine (next_any (s ++ e) a wr (HF.out.below HB.out) (by have := HTS.out; omega)).mono ?_
        rintro e9 w5 ⟨rfl, hb⟩
        have HE5 := Sh.mk (blk_below HE.out hb)
        have HB5 := Sh.mk (below_of HB.out hb)
        clear hb HE HB x0
        obtain ⟨o, ho⟩ : ∃ o, o = nextR (s ++ e) a := ⟨_, rfl⟩
        rw [← ho]
        rw [← ho] at HH
        clear ho
        obtain ⟨u, hu⟩ : ∃ u, u = oU o := ⟨_, rfl⟩
        obtain ⟨is, his⟩ : ∃ is, is = o.isSome := ⟨_, rfl⟩
        have HU0 := Sh.mk hu
        have HIS := Sh.mk his
        rw [← hu, ← his]
        clear hu his
        obtain ⟨u0, u1, u2⟩ := u
        simp only [uVal]
        obtain ⟨W9, hW9⟩ : ∃ W9, W9 = w5.alloc (.cells #[.int .i64 u0, .int .i64 u1, .int .i64 u2] 39) := ⟨_, rfl⟩
        obtain ⟨gu, hgu⟩ : ∃ gu, gu = w5.heap.size := ⟨_, rfl⟩
        have hb9 : Below w5.heap.size w5 W9 := by rw [hW9]; exact (Below.refl _ _).alloc (Nat.le_refl _) _
        have HU := Sh.mk (show W9.heap[gu]? = some (.cells #[.int .i64 u0, .int .i64 u1, .int .i64 u2] 39 (0, 0)) by rw [hW9, hgu]; exact blk_new _ _)
        have HE' := Sh.mk (blk_below HE5.out hb9)
        have HB' := Sh.mk (below_of HB5.out hb9)
        have HW9 := Sh.mk hW9
        have HGU := Sh.mk hgu
        clear hW9 hgu hb9 HE5 HB5
        go_wp2_with fail
        rw [← HW9.out, ← HGU.out]
        clear HW9 HGU
        have x0 := (blk_cell HE'.out k).trans ((ends_cell k hlt).trans (by rw [← HEK.out]))
        have w0 := blk_cell HU.out 0
        have w1 := blk_cell HU.out 1
        have w2 := blk_cell HU.out 2
        simp only [List.getElem?_toArray, List.getElem?_cons_zero, List.getElem?_cons_succ] at w0 w1 w2
        have hnx : True := trivial
        cases f with
        | true =>
          have HN := Sh.mk (show (List.range (k + 1)).any (hitR s a) = true from HAS.out)
          clear hnx
          go_quiet (fail)
          have hb10 : Below W9.heap.size W9 (W9.drewN nq) := belowN (Below.refl _ _) nq
          clear x0 w0 w1 w2
          generalize W9.drewN nq = W10 at hb10 ⊢
          have HE := Sh.mk (blk_below HE'.out hb10)
          have HB := Sh.mk (below_of HB'.out hb10)
          go_wp2
          go_roundw
          case rel => exact ⟨k + 1, by omega, by go_num, by rw [HN.out], HE, HB⟩
          case measure => simp [intOf]; omega
        | false =>
          cases is with
          | false =>
            have HN := Sh.mk (show (List.range (k + 1)).any (hitR s a) = false by rw [HAS.out, HH.out]; have := HIS.out; cases o with | none => rfl | some _ => cases this)
            clear hnx
            go_quiet (fail)
            have hb10 : Below W9.heap.size W9 (W9.drewN nq) := belowN (Below.refl _ _) nq
            clear x0 w0 w1 w2
            generalize W9.drewN nq = W10 at hb10 ⊢
            have HE := Sh.mk (blk_below HE'.out hb10)
            have HB := Sh.mk (below_of HB'.out hb10)
            go_wp2
            go_roundw
            case rel => exact ⟨k + 1, by omega, by go_num, by rw [HN.out], HE, HB⟩
            case measure => simp [intOf]; omega
          | true =>
            have HV := Sh.mk (show (List.range (k + 1)).any (hitR s a) = (u0 != -1 && (u2 == (s.size : Int) + (e.size : Int))) by
              rw [HAS.out, HH.out]
              have h1 := HIS.out
              have h2 := HU0.out
              cases o with
              | none => cases h1
              | some v =>
                have h3 : (u0, u1, u2) = v := h2
                subst h3
                rfl)
            by_cases hp : u0 = -1
            · have c1 : (u0 == -1) = true := by simpa using hp
              have c0 : (u0 != -1) = false := by simpa using hp
              have HN := Sh.mk (show (List.range (k + 1)).any (hitR s a) = false by rw [HV.out, c0]; rfl)
              clear hp HV
              clear hnx
              go_quiet (fail)
              have hb10 : Below W9.heap.size W9 (W9.drewN nq) := belowN (Below.refl _ _) nq
              clear x0 w0 w1 w2
              generalize W9.drewN nq = W10 at hb10 ⊢
              have HE := Sh.mk (blk_below HE'.out hb10)
              have HB := Sh.mk (below_of HB'.out hb10)
              go_wp2
              go_roundw
              case rel => exact ⟨k + 1, by omega, by go_num, by rw [HN.out], HE, HB⟩
              case measure => simp [intOf]; omega
            · have c1 : (u0 == -1) = false := by simpa using hp
              have c0 : (u0 != -1) = true := by simpa using hp
              by_cases he : u2 = (s.size : Int) + (e.size : Int)
              · have c2 : (u2 == (s.size : Int) + (e.size : Int)) = true := by simpa using he
                have HN := Sh.mk (show (List.range (k + 1)).any (hitR s a) = true by rw [HV.out, c0, c2]; rfl)
                clear hp HV he
                clear hnx
                go_quiet (fail)
                have hb10 : Below W9.heap.size W9 (W9.drewN nq) := belowN (Below.refl _ _) nq
                clear x0 w0 w1 w2
                generalize W9.drewN nq = W10 at hb10 ⊢
                have HE := Sh.mk (blk_below HE'.out hb10)
                have HB := Sh.mk (below_of HB'.out hb10)
                go_wp2
                go_roundw
                case rel => exact ⟨k + 1, by omega, by go_num, by rw [HN.out], HE, HB⟩
                case measure => simp [intOf]; omega
              · have c2 : (u2 == (s.size : Int) + (e.size : Int)) = false := by simpa using he
                have HN := Sh.mk (show (List.range (k + 1)).any (hitR s a) = false by rw [HV.out, c0, c2]; rfl)
                clear hp HV he
                clear hnx
                go_quiet (fail)
                have hb10 : Below W9.heap.size W9 (W9.drewN nq) := belowN (Below.refl _ _) nq
                clear x0 w0 w1 w2
                generalize W9.drewN nq = W10 at hb10 ⊢
                have HE := Sh.mk (blk_below HE'.out hb10)
                have HB := Sh.mk (below_of HB'.out hb10)
                go_wp2
                go_roundw
                case rel => exact ⟨k + 1, by omega, by go_num, by rw [HN.out], HE, HB⟩
                case measure => simp [intOf]; omega
      · obtain rfl : k = 8 := by omega
        rw [HFO2.out]
        go_wp2_with fail
        refine (split_any s wr (HF.out.below HB.out) (by omega)).mono ?_
        rintro e9 w5 ⟨v5, rfl, ho, hb⟩
        obtain ⟨hh, rr, hsum, hrr, hbad⟩ := HBA2.out
        obtain ⟨m, hm⟩ : ∃ m, (unitsFrom s s.size 0).length = m := ⟨_, rfl⟩
        obtain ⟨A5, c5, rfl, hc5, hC5⟩ := R_open ho m hm
        have HC5 := Sh.mk hC5
        have HB5 := Sh.mk (below_of HB.out hb)
        have hcm : c ≤ m := by rw [← hm, hsum, List.length_append]; omega
        have hm64 := C_len hC5
        have hms : m ≤ s.size := by rw [← hm]; exact unitsFrom_len _ _ _
        have HBADX := Sh.mk (show ∀ i, i < c → (rdU (unitsFrom s s.size 0) (m - 1 - i)).1 = -1 by
          intro i hi
          have hml : m = hh.length + c := by rw [← hm, hsum, List.length_append, hrr]
          have hlt : m - 1 - i - hh.length < rr.length := by omega
          rw [hsum]
          simp only [rdU, List.getD]
          rw [List.getElem?_append_right (by omega), List.getElem?_eq_getElem hlt]
          exact hbad _ (List.getElem_mem hlt))
        clear ho hb hC5 hsum hrr hbad hm HB
        have l5 : decide (m < c) = false := by simpa using hcm
        go_wp2
        go_loop [12] (fun vi => ∃ i : Nat, i ≤ c ∧ vi = .int .i64 i) (fun vi => c - (intOf vi).toNat)
        case atStart => exact ⟨0, by omega, rfl⟩
        case round =>
          obtain ⟨i, hi, rfl⟩ := hrel
          by_cases hlt2 : i < c
          · obtain ⟨j, hj⟩ : ∃ j, j = m - 1 - i := ⟨_, rfl⟩
            have e2 : (m : Int) - 1 - (i : Int) = (j : Int) := by omega
            have hjm : j < m := by omega
            obtain ⟨ad, e3, y0, y1, y2⟩ := C_unit HC5.out j hjm
            cases e3
            rw [hj, HBADX.out i hlt2, ← hj] at y0
            clear hj
            have z : ((-1 : Int) == -1) = true := by decide
            go_wp2
            go_round
            case rel => exact ⟨i + 1, by omega, by go_num⟩
            case measure => simp [intOf]; omega
          · obtain rfl : i = c := by omega
            go_wp2
            go_ret
            exact ⟨rfl, HB5.out⟩
end Go.Proofs.YtfiahgahphammaaDoor
