/-
Several texts as one: Bound, StepsLaw, StepsW, StepsW2, StepsR, StepsP, PickFirst, CoverLaw, CoverW.
-/
import Derived.Test.YtfiahgahphammaaDoorSplit
import Derived.Test.YtfiahgahphammaaDoorSameUnits
import Derived.Test.YtfiahgahphammaaDoorEnc2
/- Where units begin and end: a place is one where no unit of more than one byte goes on over it. Plain Lean. -/
namespace Go.Proofs.YtfiahgahphammaaDoor
open Go Go.RowKit Go.Proofs.YtfiahgahphammaaDoorW.PrintWords Go.Proofs.YtfiahgahphammaaDoorW.PrintLast Go.Proofs.YtfiahgahphammaaDoorW.PrintMore
/-- A unit, whole. -/
def unitTr (s : ByteArray) (i : Nat) : Int × Int × Int := (unitPt s i, (i : Int), (i : Int) + (unitLen s i : Int))
theorem form_lohi (k : Nat) (hk : k < 8) : 128 ≤ formAt k 2 ∧ formAt k 3 ≤ 191 ∧ 194 ≤ formAt k 0 := by
  have h : k = 0 ∨ k = 1 ∨ k = 2 ∨ k = 3 ∨ k = 4 ∨ k = 5 ∨ k = 6 ∨ k = 7 := by omega
  rcases h with rfl | rfl | rfl | rfl | rfl | rfl | rfl | rfl <;> decide
/-- What a good unit's bytes are. -/
theorem good_bytes {s : ByteArray} {i n : Nat} {p : Int} (h : unitO s i = some (p, n)) (hi : i < s.size) : 0 ≤ p ∧ 1 ≤ n ∧ n ≤ 4 ∧ i + n ≤ s.size ∧ (∀ j, 1 ≤ j → j < n → 128 ≤ bt s (i + j : Nat) ∧ bt s (i + j : Nat) ≤ 191) ∧ (2 ≤ n → 194 ≤ bt s i) := by
  have hb := bt_range s i
  by_cases h128 : bt s i < 128
  · rw [unit_ascii h128] at h
    cases h
    exact ⟨hb.1, by omega, by omega, by omega, fun j h1 h2 => by omega, fun h => by omega⟩
  · cases hl : leadF (bt s i) with
    | none => rw [unit_none (by omega) hl] at h; cases h
    | some k =>
      have hk := leadF_lt hl
      have hf := form_facts k hk
      have hlo := form_lohi k hk
      have hls := lead_some hl
      have hz : formAt k 4 = 2 ∨ formAt k 4 = 3 ∨ formAt k 4 = 4 := by omega
      have hm : 0 ≤ bt s i % (formAt k 5 + 1) := Int.emod_nonneg _ (by omega)
      rcases hz with hz | hz | hz
      · rw [unit_form2 (by omega) hl hz] at h
        split at h
        · rename_i hc
          cases h
          refine ⟨by omega, by omega, by omega, by omega, fun j h1 h2 => ?_, fun _ => by omega⟩
          obtain rfl : j = 1 := by omega
          omega
        · cases h
      · rw [unit_form3 (by omega) hl hz] at h
        split at h
        · rename_i hc
          cases h
          refine ⟨by omega, by omega, by omega, by omega, fun j h1 h2 => ?_, fun _ => by omega⟩
          have : j = 1 ∨ j = 2 := by omega
          rcases this with rfl | rfl <;> omega
        · cases h
      · rw [unit_form4 (by omega) hl hz] at h
        split at h
        · rename_i hc
          cases h
          refine ⟨by omega, by omega, by omega, by omega, fun j h1 h2 => ?_, fun _ => by omega⟩
          have : j = 1 ∨ j = 2 ∨ j = 3 := by omega
          rcases this with rfl | rfl | rfl <;> omega
        · cases h
theorem pt_good {s : ByteArray} {i : Nat} (hi : i < s.size) : unitPt s i ≠ -1 ↔ ∃ p n, unitO s i = some (p, n) := by
  unfold unitPt
  cases h : unitO s i with
  | none => simp
  | some x =>
    obtain ⟨p, n⟩ := x
    have := (good_bytes h hi).1
    simp
    omega
/-- A place over which a good unit goes on. -/
def cov (s : ByteArray) (q at_ : Nat) : Prop := unitPt s q ≠ -1 ∧ q < at_ ∧ at_ < q + unitLen s q
theorem len_one {s : ByteArray} {i : Nat} (hi : i < s.size) (h : 2 ≤ unitLen s i) : unitPt s i ≠ -1 := by
  rw [pt_good hi]
  unfold unitLen at h
  cases hu : unitO s i with
  | none => rw [hu] at h; exact absurd h (by decide)
  | some x => exact ⟨x.1, x.2, rfl⟩
theorem cov_bytes {s : ByteArray} {q at_ : Nat} (hq : q < s.size) (h : cov s q at_) : 128 ≤ bt s at_ ∧ bt s at_ ≤ 191 ∧ 194 ≤ bt s q ∧ q + unitLen s q ≤ s.size := by
  obtain ⟨h1, h2, h3⟩ := h
  obtain ⟨p, n, hu⟩ := (pt_good hq).1 h1
  have hl : unitLen s q = n := by unfold unitLen; rw [hu]
  rw [hl] at h3
  obtain ⟨_, _, _, g4, g5, g6⟩ := good_bytes hu hq
  have := g5 (at_ - q) (by omega) (by omega)
  rw [show q + (at_ - q) = at_ by omega] at this
  rw [hl]
  exact ⟨this.1, this.2, g6 (by omega), g4⟩
/-- From place i on, a unit begins at j. -/
inductive Begins (s : ByteArray) (i : Nat) : Nat → Prop
  | here : Begins s i i
  | next {j : Nat} : Begins s i j → j < s.size → Begins s i (j + unitLen s j)
theorem Begins.le {s : ByteArray} {i j : Nat} (h : Begins s i j) : i ≤ j := by
  induction h with
  | here => exact Nat.le_refl _
  | next _ _ ih => omega
theorem Begins.apart {s : ByteArray} {i j k : Nat} (hj : Begins s i j) (hk : Begins s i k) (hlt : j < k) : j + unitLen s j ≤ k := by
  induction hk with
  | here => have := hj.le; omega
  | next h1 h2 ih =>
    rename_i k'
    have := (unitLen_pos s k').1
    by_cases h : j < k'
    · have := ih h; omega
    · by_cases h3 : j = k'
      · subst h3; exact Nat.le_refl _
      · -- k' < j < k' + len: j would lie inside
        exfalso
        have : ∀ m, Begins s i m → k' < m → k' + unitLen s k' ≤ m := by
          intro m hm
          induction hm with
          | here => intro h4; have := h1.le; omega
          | next h5 h6 ih2 =>
            rename_i m'
            intro h4
            by_cases h7 : k' < m'
            · have := ih2 h7; omega
            · by_cases h8 : k' = m'
              · subst h8; exact Nat.le_refl _
              · -- m' < k' < m' + len m'
                have hm' : m' < k' := by omega
                exact absurd (Begins.apart h5 h1 hm') (by omega)
        have := this j hj (by omega)
        omega
theorem Begins.trans {s : ByteArray} {i j k : Nat} (h : Begins s i j) (h2 : Begins s j k) : Begins s i k := by
  induction h2 with
  | here => exact h
  | next _ hlt ih => exact ih.next hlt
theorem begins_cons {s : ByteArray} {i k : Nat} : Begins s i k ↔ k = i ∨ (i < s.size ∧ Begins s (i + unitLen s i) k) := by
  constructor
  · intro h
    induction h with
    | here => exact Or.inl rfl
    | next h hlt ih =>
      rcases ih with rfl | ⟨h1, h2⟩
      · exact Or.inr ⟨hlt, Begins.here⟩
      · exact Or.inr ⟨h1, h2.next hlt⟩
  · rintro (rfl | ⟨h1, h2⟩)
    · exact Begins.here
    · exact (Begins.here.next h1).trans h2
/-- Each place lies in a unit. -/
theorem in_unit (s : ByteArray) (i : Nat) : ∀ d, i + d < s.size → ∃ q, Begins s i q ∧ q ≤ i + d ∧ i + d < q + unitLen s q
  | 0, h => ⟨i, Begins.here, by omega, by have := (unitLen_pos s i).1; omega⟩
  | d + 1, h => by
    obtain ⟨q, h1, h2, h3⟩ := in_unit s i d (by omega)
    by_cases hlt : i + (d + 1) < q + unitLen s q
    · exact ⟨q, h1, by omega, hlt⟩
    · exact ⟨q + unitLen s q, h1.next (by omega), by omega, by have := (unitLen_pos s (q + unitLen s q)).1; omega⟩
theorem in_unit0 (s : ByteArray) (a : Nat) (h : a < s.size) : ∃ q, Begins s 0 q ∧ q ≤ a ∧ a < q + unitLen s q := by
  have := in_unit s 0 a (by omega)
  simpa using this
theorem begins_iff {s : ByteArray} {a : Nat} (ha : a < s.size) : Begins s 0 a ↔ ¬ ∃ q, q < a ∧ cov s q a := by
  constructor
  · rintro hB ⟨q, hq, hc⟩
    obtain ⟨r, h1, h2, h3⟩ := in_unit0 s q (by omega)
    by_cases hr : r = q
    · subst hr
      have := h1.apart hB hq
      have := hc.2.2
      omega
    · have hcr : cov s r q := ⟨len_one (by omega) (by omega), by omega, h3⟩
      have g1 := cov_bytes (by omega) hcr
      have g2 := cov_bytes (by omega) hc
      omega
  · intro h
    obtain ⟨q, h1, h2, h3⟩ := in_unit0 s a ha
    by_cases hq : q = a
    · exact hq ▸ h1
    · exact absurd ⟨q, by omega, len_one (by omega) (by omega), by omega, h3⟩ h
theorem unit_end {s : ByteArray} {q : Nat} (hq : q < s.size) : q + unitLen s q ≤ s.size := by
  unfold unitLen
  cases hu : unitO s q with
  | none => exact hq
  | some x =>
    obtain ⟨p, n⟩ := x
    exact (good_bytes hu hq).2.2.2.1
/-- A unit ends at a place. -/
theorem ends_of {s : ByteArray} {a : Nat} (h0 : 0 < a) (ha : a ≤ s.size) (h : a = s.size ∨ Begins s 0 a) : ∃ q, q < s.size ∧ Begins s 0 q ∧ q + unitLen s q = a := by
  rcases h with rfl | h
  · obtain ⟨q, h1, h2, h3⟩ := in_unit0 s (s.size - 1) (by omega)
    have := unit_end (s := s) (q := q) (by omega)
    exact ⟨q, by omega, h1, by omega⟩
  · cases h with
    | here => omega
    | next h1 h2 => exact ⟨_, h2, h1, rfl⟩
theorem ends_begins {s : ByteArray} {q : Nat} (hq : q < s.size) (hB : Begins s 0 q) : Begins s 0 (q + unitLen s q) := hB.next hq
theorem find_start (s : ByteArray) (a : Nat) : ∀ (f i : Nat), s.size ≤ i + f →
    ((Begins s i a ∧ a < s.size) → (unitsFrom s f i).find? (fun u => u.2.1 == (a : Int)) = some (unitTr s a)) ∧ (¬ (Begins s i a ∧ a < s.size) → (unitsFrom s f i).find? (fun u => u.2.1 == (a : Int)) = none)
  | 0, i, h => ⟨fun ⟨h1, h2⟩ => by have := h1.le; omega, fun _ => rfl⟩
  | f + 1, i, h => by
    have hl := unitLen_pos s i
    have ih := find_start s a f (i + unitLen s i) (by omega)
    rw [unitsFrom]
    by_cases hlt : i < s.size
    · rw [if_pos hlt, List.find?_cons]
      by_cases hia : i = a
      · subst hia
        simp only [beq_self_eq_true]
        exact ⟨fun _ => rfl, fun h => absurd ⟨Begins.here, hlt⟩ h⟩
      · have hne : ((i : Int) == (a : Int)) = false := by simp; omega
        simp only [hne]
        have hc : Begins s i a ↔ Begins s (i + unitLen s i) a := by
          rw [begins_cons (k := a) (i := i)]
          exact ⟨fun h => h.elim (fun e => absurd e.symm hia) (fun h => h.2), fun h => Or.inr ⟨hlt, h⟩⟩
        rw [hc]
        exact ih
    · rw [if_neg hlt]
      exact ⟨fun ⟨h1, h2⟩ => by have := h1.le; omega, fun _ => rfl⟩
theorem find_end (s : ByteArray) (a : Nat) : ∀ (f i : Nat), s.size ≤ i + f →
    (∀ q, Begins s i q → q < s.size → q + unitLen s q = a → (unitsFrom s f i).find? (fun u => u.2.2 == (a : Int)) = some (unitTr s q)) ∧ ((¬ ∃ q, Begins s i q ∧ q < s.size ∧ q + unitLen s q = a) → (unitsFrom s f i).find? (fun u => u.2.2 == (a : Int)) = none)
  | 0, i, h => ⟨fun q h1 h2 _ => by have := h1.le; omega, fun _ => rfl⟩
  | f + 1, i, h => by
    have hl := unitLen_pos s i
    have ih := find_end s a f (i + unitLen s i) (by omega)
    rw [unitsFrom]
    by_cases hlt : i < s.size
    · rw [if_pos hlt, List.find?_cons]
      by_cases hia : i + unitLen s i = a
      · have he : ((i : Int) + (unitLen s i : Int) == (a : Int)) = true := by simp; omega
        simp only [he]
        refine ⟨fun q h1 h2 h3 => ?_, fun h => absurd ⟨i, Begins.here, hlt, hia⟩ h⟩
        rcases begins_cons.1 h1 with rfl | ⟨_, h4⟩
        · rfl
        · have := h4.le; have := (unitLen_pos s q).1; omega
      · have hne : ((i : Int) + (unitLen s i : Int) == (a : Int)) = false := by simp; omega
        simp only [hne]
        refine ⟨fun q h1 h2 h3 => ?_, fun h => ih.2 (fun ⟨q, h1, h2, h3⟩ => h ⟨q, begins_cons.2 (Or.inr ⟨hlt, h1⟩), h2, h3⟩)⟩
        rcases begins_cons.1 h1 with rfl | ⟨_, h4⟩
        · exact absurd h3 hia
        · exact ih.1 q h4 h2 h3
    · rw [if_neg hlt]
      exact ⟨fun q h1 h2 _ => by have := h1.le; omega, fun _ => rfl⟩
end Go.Proofs.YtfiahgahphammaaDoor
/- Next and Prev: what the program finds is what the document finds in the list. Plain Lean. -/
namespace Go.Proofs.YtfiahgahphammaaDoor
open Go Go.RowKit Go.Proofs.YtfiahgahphammaaDoorW.PrintWords Go.Proofs.YtfiahgahphammaaDoorW.PrintLast Go.Proofs.YtfiahgahphammaaDoorW.PrintMore
def covB (s : ByteArray) (q a : Nat) : Bool := decide (unitPt s q ≠ -1) && decide (a < q + unitLen s q)
def insideR (s : ByteArray) (a : Nat) : Bool := (List.range 3).any fun b => decide (b + 1 ≤ a) && covB s (a - (b + 1)) a
theorem inside_iff {s : ByteArray} {a : Nat} : insideR s a = true ↔ ∃ q, q < a ∧ cov s q a := by
  simp only [insideR, covB, List.any_eq_true, List.mem_range, Bool.and_eq_true, decide_eq_true_eq]
  constructor
  · rintro ⟨b, hb, h1, h2, h3⟩
    exact ⟨a - (b + 1), by omega, h2, by omega, h3⟩
  · rintro ⟨q, hq, h1, h2, h3⟩
    have := (unitLen_pos s q).2
    exact ⟨a - q - 1, by omega, by omega, by rw [show a - (a - q - 1 + 1) = q by omega]; exact h1, by rw [show a - (a - q - 1 + 1) = q by omega]; exact h3⟩
/-- What Next answers. -/
def nextR (s : ByteArray) (a : Int) : Option (Int × Int × Int) := if a < 0 ∨ (s.size : Int) ≤ a then none else if insideR s a.toNat then none else some (unitTr s a.toNat)
theorem starts_nonneg (s : ByteArray) : ∀ (f i : Nat) (u : Int × Int × Int), u ∈ unitsFrom s f i → 0 ≤ u.2.1 ∧ 0 < u.2.2
  | 0, _, u, h => by simp [unitsFrom] at h
  | f + 1, i, u, h => by
    have hl := unitLen_pos s i
    rw [unitsFrom] at h
    split at h
    · rcases List.mem_cons.1 h with rfl | h
      · exact ⟨by simp, by simp; omega⟩
      · exact starts_nonneg s f _ u h
    · simp at h
theorem next_eq (s : ByteArray) (a : Int) : (unitsFrom s s.size 0).find? (fun u => u.2.1 == a) = nextR s a := by
  unfold nextR
  by_cases h0 : a < 0
  · rw [if_pos (Or.inl h0), List.find?_eq_none]
    intro u hu he
    have := (starts_nonneg s _ _ u hu).1
    simp at he
    omega
  · obtain ⟨k, rfl⟩ := Int.eq_ofNat_of_zero_le (show 0 ≤ a by omega)
    have hfs := find_start s k s.size 0 (by omega)
    by_cases hk : s.size ≤ k
    · rw [if_pos (Or.inr (by exact Int.ofNat_le.2 hk))]
      exact hfs.2 (fun h => by omega)
    · rw [if_neg (fun h => by rcases h with h | h <;> omega)]
      have hlt : k < s.size := by omega
      simp only [Int.toNat_natCast]
      cases hin : insideR s k with
      | true => exact hfs.2 (fun h => (begins_iff hlt).1 h.1 (inside_iff.1 hin))
      | false => exact hfs.1 ⟨(begins_iff hlt).2 (fun h => by have := inside_iff.2 h; rw [hin] at this; cases this), hlt⟩
/-- What Prev answers. -/
def prevAux (s : ByteArray) (a : Nat) : Nat → Int × Int × Int
  | 0 => unitTr s (a - 1)
  | 1 => unitTr s (a - 1)
  | b + 2 => if unitPt s (a - (b + 2)) ≠ -1 ∧ a - (b + 2) + unitLen s (a - (b + 2)) = a then unitTr s (a - (b + 2)) else prevAux s a (b + 1)
def prevR (s : ByteArray) (a : Int) : Option (Int × Int × Int) := if a ≤ 0 ∨ (s.size : Int) < a then none else if a < s.size ∧ insideR s a.toNat = true then none else some (prevAux s a.toNat (min 4 a.toNat))
theorem prevAux_eq {s : ByteArray} {a q : Nat} (hq : q < s.size) (hB : Begins s 0 q) (he : q + unitLen s q = a) (ha : a ≤ s.size) : ∀ b, a - q ≤ b → b ≤ a → prevAux s a b = unitTr s q
  | 0, h, _ => by have := (unitLen_pos s q).1; omega
  | 1, h, _ => by have := (unitLen_pos s q).1; rw [prevAux, show a - 1 = q by omega]
  | b + 2, h, hba => by
    have hl := unitLen_pos s q
    rw [prevAux]
    by_cases hbq : a - (b + 2) = q
    · rw [hbq, if_pos ⟨len_one hq (by omega), he⟩]
    · rw [if_neg ?_]
      · exact prevAux_eq hq hB he ha (b + 1) (by omega) (by omega)
      · rintro ⟨h1, h2⟩
        exact (begins_iff hq).1 hB ⟨a - (b + 2), by omega, h1, by omega, by omega⟩
theorem prev_eq (s : ByteArray) (a : Int) : (unitsFrom s s.size 0).find? (fun u => u.2.2 == a) = prevR s a := by
  unfold prevR
  by_cases h0 : a ≤ 0
  · rw [if_pos (Or.inl h0), List.find?_eq_none]
    intro u hu he
    have := (starts_nonneg s _ _ u hu).2
    simp at he
    omega
  · obtain ⟨k, rfl⟩ := Int.eq_ofNat_of_zero_le (show 0 ≤ a by omega)
    have hfe := find_end s k s.size 0 (by omega)
    by_cases hk : s.size < k
    · rw [if_pos (Or.inr (by exact Int.ofNat_lt.2 hk))]
      exact hfe.2 (fun ⟨q, h1, h2, h3⟩ => by have := unit_end h2; omega)
    · rw [if_neg (fun h => by rcases h with h | h <;> omega)]
      simp only [Int.toNat_natCast]
      by_cases hin : (k : Int) < s.size ∧ insideR s k = true
      · rw [if_pos hin]
        refine hfe.2 (fun ⟨q, h1, h2, h3⟩ => ?_)
        have hb := ends_begins h2 h1
        rw [h3] at hb
        exact (begins_iff (by omega)).1 hb (inside_iff.1 hin.2)
      · rw [if_neg hin]
        obtain ⟨q, h1, h2, h3⟩ := ends_of (s := s) (a := k) (by omega) (by omega) (by
          by_cases hks : k = s.size
          · exact Or.inl hks
          · refine Or.inr ((begins_iff (by omega)).2 (fun h => hin ⟨by omega, inside_iff.2 h⟩)))
        have hl := unitLen_pos s q
        rw [prevAux_eq h1 h2 h3 (by omega) (min 4 k) (by omega) (by omega)]
        exact hfe.1 q h2 h1 h3
end Go.Proofs.YtfiahgahphammaaDoor
/- units.inside, Next, Prev, the document's Next and Prev, walked. Conditions: the text's size; the table reads as listed. -/
namespace Go.Proofs.YtfiahgahphammaaDoor
open Go Go.RowKit Go.Proofs.YtfiahgahphammaaDoorW.PrintWords Go.Proofs.YtfiahgahphammaaDoorW.PrintLast Go.Proofs.YtfiahgahphammaaDoorW.PrintMore
attribute [local go_sem high] eqU
theorem any_range_succ {k n : Nat} {p : Nat → Bool} (hk : k < n) (h : (List.range k).any p = false) : (p k = true → (List.range n).any p = true) ∧ (p k = false → (List.range (k + 1)).any p = false) := by
  constructor
  · intro hp
    exact List.any_eq_true.2 ⟨k, by simpa using hk, hp⟩
  · intro hp
    rw [List.range_succ, List.any_append, h]
    simp [hp]
theorem any_above {k n : Nat} {p : Nat → Bool} (h : (List.range k).any p = false) (hn : ∀ b, k ≤ b → b < n → p b = false) : (List.range n).any p = false := by
  rw [List.any_eq_false] at h ⊢
  intro b hb
  by_cases hlt : b < k
  · exact h b (by simpa using hlt)
  · rw [hn b (by omega) (by simpa using hb)]
    simp
set_option maxRecDepth 100000 in
set_option maxHeartbeats 4000000 in
theorem inside_any (s : ByteArray) (a : Nat) (w : World) (hf : FormsAt w) (ha : a < s.size) (hs : s.size ≤ 140737488355327) :
    Calls Tryd.prog 41 #[.string s, .int .i64 a] w fun e w' => e = .returned (.bool (insideR s a)) ∧ Below w.heap.size w w' := by
  have HF := Sh.mk hf
  clear hf
  go_enter Tryd.func41, Tryd.ntmps41
  go_wp2
  go_loopw [5] (fun v wr => ∃ k : Nat, k ≤ 3 ∧ v = .int .i64 ((k + 1 : Nat) : Int) ∧ Sh ((List.range k).any (fun b => decide (b + 1 ≤ a) && covB s (a - (b + 1)) a) = false) ∧ Sh (Below w.heap.size w wr)) (fun v _ => 4 - (intOf v).toNat)
  case atStart => exact ⟨0, by omega, rfl, ⟨rfl⟩, ⟨Below.refl _ _⟩⟩
  case round =>
    obtain ⟨k, hk, rfl, HN, HB⟩ := hrel
    obtain ⟨b, hb⟩ : ∃ b, b = k + 1 := ⟨_, rfl⟩
    rw [← hb]
    have HBK := Sh.mk hb
    clear hb
    by_cases h3 : b ≤ 3
    · have l1 : decide (b ≤ 3) = true := by simpa using h3
      have l1' : decide ((b : Int) ≤ 3) = true := by simp; omega
      by_cases hba : b ≤ a
      · have l2 : decide (b ≤ a) = true := by simpa using hba
        have hk3 : k < 3 := by have := HBK.out; omega
        obtain ⟨q, hq⟩ : ∃ q, q = a - b := ⟨_, rfl⟩
        have e1 : (a : Int) - (b : Int) = (q : Int) := by omega
        have hqs : q < s.size := by omega
        have HQ := Sh.mk hq
        have hpos := HBK.out
        have hpos2 : 1 ≤ b := by omega
        clear hq hpos
        go_wp2_with fail
        refine (unit_any s q wr (HF.out.below HB.out) hqs hs).mono ?_
        rintro e w1 ⟨rfl, hb1⟩
        have HB1 := Sh.mk (below_of HB.out hb1)
        have HB2 : Sh (∀ o, Below w.heap.size w (w1.alloc o)) := ⟨fun o => HB1.out.alloc HB1.out.size o⟩
        have hul := unitLen_pos s q
        clear hb1 HB
        cases hc : covB s q a with
        | true =>
          have HR := Sh.mk (show insideR s a = true from (any_range_succ hk3 HN.out).1 (by have := HBK.out; have := HQ.out; simp only [Bool.and_eq_true, decide_eq_true_eq]; exact ⟨by omega, by rw [show a - (k + 1) = q by omega]; exact hc⟩))
          have c1 : (unitPt s q == -1) = false := by simp [covB] at hc; simpa using hc.1
          have c2 : decide ((a : Int) < (q : Int) + (unitLen s q : Int)) = true := by simp [covB] at hc; simp; omega
          have c0 : (unitPt s q != -1) = true := by simp [covB] at hc; simpa using hc.1
          have c3 : (unitPt s q != -1 && decide ((a : Int) < (q : Int) + (unitLen s q : Int))) = true := by rw [c0, c2]; rfl
          clear hc HN
          go_wp2
          go_ret
          exact ⟨by rw [HR.out]; rfl, HB2.out _⟩
        | false =>
          have HR := Sh.mk ((any_range_succ hk3 HN.out).2 (by have := HBK.out; have := HQ.out; simp only [Bool.and_eq_false_imp]; intro _; rw [show a - (k + 1) = q by omega]; exact hc))
          by_cases hp : unitPt s q = -1
          · have c1 : (unitPt s q == -1) = true := by simpa using hp
            have c0 : (unitPt s q != -1) = false := by simpa using hp
            have c3 : (unitPt s q != -1 && decide ((a : Int) < (q : Int) + (unitLen s q : Int))) = false := by rw [c0]; rfl
            clear hc HN hp
            go_wp2
            go_roundw
            case rel => exact ⟨k + 1, by omega, by have := HBK.out; subst this; go_num, HR, ⟨HB2.out _⟩⟩
            case measure => have := HBK.out; simp [intOf]; omega
          · have c1 : (unitPt s q == -1) = false := by simpa using hp
            have c2 : decide ((a : Int) < (q : Int) + (unitLen s q : Int)) = false := by simp [covB, hp] at hc; simp; omega
            have c0 : (unitPt s q != -1) = true := by simpa using hp
            have c3 : (unitPt s q != -1 && decide ((a : Int) < (q : Int) + (unitLen s q : Int))) = false := by rw [c0, c2]; rfl
            clear hc HN hp
            go_wp2
            go_roundw
            case rel => exact ⟨k + 1, by omega, by have := HBK.out; subst this; go_num, HR, ⟨HB2.out _⟩⟩
            case measure => have := HBK.out; simp [intOf]; omega
      · have l2 : decide (b ≤ a) = false := by simpa using hba
        have HR := Sh.mk (show insideR s a = false from any_above HN.out (fun c h1 h2 => by have := HBK.out; simp; intro h; omega))
        clear HN hba
        go_wp2
        go_ret
        exact ⟨by rw [HR.out]; rfl, HB.out⟩
    · have l1 : decide (b ≤ 3) = false := by simpa using h3
      have l1' : decide ((b : Int) ≤ 3) = false := by simp; omega
      have HR := Sh.mk (show insideR s a = false from any_above HN.out (fun c h1 h2 => by have := HBK.out; omega))
      clear HN h3
      go_wp2
      go_ret
      exact ⟨by rw [HR.out]; rfl, HB.out⟩
end Go.Proofs.YtfiahgahphammaaDoor
/- units.Next, Prev, the document's Next and Prev, walked. Conditions: the text's size; the table reads as listed. -/
namespace Go.Proofs.YtfiahgahphammaaDoor
open Go Go.RowKit Go.Proofs.YtfiahgahphammaaDoorW.PrintWords Go.Proofs.YtfiahgahphammaaDoorW.PrintLast Go.Proofs.YtfiahgahphammaaDoorW.PrintMore
/-- A unit that is answered beside a truth value. -/
def oU (o : Option (Int × Int × Int)) : Int × Int × Int := o.getD (0, 0, 0)
abbrev uVal (x : Int × Int × Int) : Value := .agg #[.int .i64 x.1, .int .i64 x.2.1, .int .i64 x.2.2]
abbrev uBox (g : Nat) (A : World) : Prop := A.heap[g]? = some (.cells #[.int .i64 0, .int .i64 0, .int .i64 0] 39 (0, 0))
set_option maxRecDepth 100000 in
set_option maxHeartbeats 8000000 in
theorem next_any (s : ByteArray) (a : Int) (w : World) (hf : FormsAt w) (hs : s.size ≤ 140737488355327) :
    Calls Tryd.prog 24 #[.string s, .int .i64 a] w fun e w' => e = .returned (.tuple #[uVal (oU (nextR s a)), .bool (nextR s a).isSome]) ∧ Below w.heap.size w w' := by
  have HF := Sh.mk hf
  clear hf
  obtain ⟨W0, hW0⟩ : ∃ W0, W0 = w.alloc (.cells #[.int .i64 0, .int .i64 0, .int .i64 0] 39) := ⟨_, rfl⟩
  obtain ⟨g, hg⟩ : ∃ g, g = w.heap.size := ⟨_, rfl⟩
  have HG := Sh.mk hg
  have HB := Sh.mk (show Below w.heap.size w W0 by rw [hW0]; exact (Below.refl _ _).alloc (Nat.le_refl _) _)
  have HX := Sh.mk (show uBox g W0 by rw [hW0, hg]; exact blk_new _ _)
  have HW := Sh.mk hW0
  have hgw : w.heap.size ≤ g := by omega
  clear hW0 hg
  by_cases hn : a < 0
  · have HR := Sh.mk (show nextR s a = none by unfold nextR; rw [if_pos (Or.inl hn)])
    have l1 : decide (a < 0) = true := by simpa using hn
    clear hn
    go_enter Tryd.func24, Tryd.ntmps24
    go_wp2_with (first | (refine wpList_store_row rfl 39 (.tmp 4) (.tmp 19) rfl g #[.int .i64 0, .int .i64 0, .int .i64 0] (by rw [HG.out]; rfl) rfl 39 #[.int .i64 0, .int .i64 0, .int .i64 0] (by rw [← HW.out]; exact HX.out) (by kernel_rfl) rfl (oneU _ _ _) ?_; rw [← HW.out, ← HG.out]))
    have hR := setRow_heap W0 g _ #[.int .i64 0, .int .i64 0, .int .i64 0] _ _ HX.out
    (try simp only [Exit.inBlock, Exit.then])
    refine bodyPost_ret (results_cell_row2 rfl _ _ g 39 _ (0, 0) _ rfl hR Tryd.underlying39 rfl (by kernel_rfl)) rfl ?_
    exact ⟨by rw [HR.out]; rfl, below_setRow HB.out hgw _⟩
  · obtain ⟨k, rfl⟩ := Int.eq_ofNat_of_zero_le (show 0 ≤ a by omega)
    have l1 : decide ((k : Int) < 0) = false := by simp
    by_cases hk : s.size ≤ k
    · have HR := Sh.mk (show nextR s (k : Int) = none by unfold nextR; rw [if_pos (Or.inr (Int.ofNat_le.2 hk))])
      have l2 : decide (s.size ≤ k) = true := by simpa using hk
      have l2' : decide (k < s.size) = false := by simpa using hk
      clear hk hn
      go_enter Tryd.func24, Tryd.ntmps24
      go_wp2_with (first | (refine wpList_store_row rfl 39 (.tmp 4) (.tmp 19) rfl g #[.int .i64 0, .int .i64 0, .int .i64 0] (by rw [HG.out]; rfl) rfl 39 #[.int .i64 0, .int .i64 0, .int .i64 0] (by rw [← HW.out]; exact HX.out) (by kernel_rfl) rfl (oneU _ _ _) ?_; rw [← HW.out, ← HG.out]))
      have hR := setRow_heap W0 g _ #[.int .i64 0, .int .i64 0, .int .i64 0] _ _ HX.out
      (try simp only [Exit.inBlock, Exit.then])
      refine bodyPost_ret (results_cell_row2 rfl _ _ g 39 _ (0, 0) _ rfl hR Tryd.underlying39 rfl (by kernel_rfl)) rfl ?_
      exact ⟨by rw [HR.out]; rfl, below_setRow HB.out hgw _⟩
    · have hlt : k < s.size := by omega
      have l2 : decide (s.size ≤ k) = false := by simpa using hk
      have HE := Sh.mk (show nextR s (k : Int) = if insideR s k then none else some (unitTr s k) by unfold nextR; rw [if_neg (fun h => by rcases h with h | h <;> omega), Int.toNat_natCast])
      clear hk hn
      go_enter Tryd.func24, Tryd.ntmps24
      go_wp2_with fail
      rw [← HW.out, ← HG.out]
      refine (inside_any s k W0 (HF.out.below HB.out) hlt hs).mono ?_
      rintro e w1 ⟨rfl, hb1⟩
      have HX1 := Sh.mk (blk_below HX.out hb1)
      have HB1 := Sh.mk (below_of HB.out hb1)
      clear HX HB hb1
      cases hin : insideR s k with
      | true =>
        have HR := Sh.mk (show nextR s (k : Int) = none by rw [HE.out, hin]; rfl)
        clear hin HE
        go_wp2_with (first | (refine wpList_store_row rfl 39 (.tmp 4) (.tmp 19) rfl g #[.int .i64 0, .int .i64 0, .int .i64 0] rfl rfl 39 #[.int .i64 0, .int .i64 0, .int .i64 0] HX1.out (by kernel_rfl) rfl (oneU _ _ _) ?_))
        have hR := setRow_heap w1 g _ #[.int .i64 0, .int .i64 0, .int .i64 0] _ _ HX1.out
        (try simp only [Exit.inBlock, Exit.then])
        refine bodyPost_ret (results_cell_row2 rfl _ _ g 39 _ (0, 0) _ rfl hR Tryd.underlying39 rfl (by kernel_rfl)) rfl ?_
        exact ⟨by rw [HR.out]; rfl, below_setRow HB1.out hgw _⟩
      | false =>
        have HR := Sh.mk (show nextR s (k : Int) = some (unitTr s k) by rw [HE.out, hin]; rfl)
        clear hin HE
        go_wp2_with fail
        refine (unit_any s k w1 (HF.out.below HB1.out) hlt hs).mono ?_
        rintro e w2 ⟨rfl, hb2⟩
        have HX2 := Sh.mk (blk_below HX1.out hb2)
        have HB2 := Sh.mk (below_of HB1.out hb2)
        clear HX1 HB1 hb2
        rw [Int.natCast_add]
        go_wp2_with (first | (refine wpList_store_row rfl 39 (.tmp 4) (.tmp 22) rfl g #[.int .i64 (unitPt s k), .int .i64 k, .int .i64 (k + unitLen s k)] rfl rfl 39 #[.int .i64 0, .int .i64 0, .int .i64 0] HX2.out (by kernel_rfl) rfl (oneU _ _ _) ?_))
        have hR := setRow_heap w2 g _ #[.int .i64 (unitPt s k), .int .i64 k, .int .i64 (k + unitLen s k)] _ _ HX2.out
        (try simp only [Exit.inBlock, Exit.then])
        refine bodyPost_ret (results_cell_row2 rfl _ _ g 39 _ (0, 0) _ rfl hR Tryd.underlying39 rfl (by kernel_rfl)) rfl ?_
        exact ⟨by rw [HR.out]; rfl, below_setRow HB2.out hgw _⟩
theorem find_snoc {xs : List (Int × Int × Int)} {k : Nat} (hk : k < xs.length) {p : Int × Int × Int → Bool} (h : (xs.take k).find? p = none) : (p (rdU xs k) = true → xs.find? p = some (rdU xs k)) ∧ (p (rdU xs k) = false → (xs.take (k + 1)).find? p = none) := by
  constructor
  · intro hp
    have e : xs = xs.take k ++ (rdU xs k :: xs.drop (k + 1)) := by
      conv => lhs; rw [← List.take_append_drop k xs, List.drop_eq_getElem_cons hk]
      simp [rdU, List.getD, hk]
    rw [e, List.find?_append, h]
    simp [rdU] at hp ⊢
    have e2 : ((xs.take k ++ (xs[k]?.getD (0, 0, 0)) :: xs.drop (k + 1))[k]?.getD (0, 0, 0)) = xs[k]?.getD (0, 0, 0) := by
      rw [List.getElem?_append_right (by simp; omega)]
      simp [List.length_take, show min k xs.length = k by omega]
    rw [e2]
    simp [hp]
  · intro hp
    rw [take_snocU xs k hk, List.find?_append, h]
    simp [hp]
end Go.Proofs.YtfiahgahphammaaDoor
/- The document's Next and Prev, walked. Conditions: the text's size. -/
namespace Go.Proofs.YtfiahgahphammaaDoor
open Go Go.RowKit Go.Proofs.YtfiahgahphammaaDoorW.PrintWords Go.Proofs.YtfiahgahphammaaDoorW.PrintLast Go.Proofs.YtfiahgahphammaaDoorW.PrintMore
set_option maxRecDepth 100000 in
set_option maxHeartbeats 8000000 in
theorem refNext_any (s : ByteArray) (a : Int) (w : World) (hs : s.size ≤ 5000000000000) :
    Calls Tryd.prog 25 #[.string s, .int .i64 a] w fun e w' => e = .returned (.tuple #[uVal (oU ((unitsFrom s s.size 0).find? (fun u => u.2.1 == a))), .bool ((unitsFrom s s.size 0).find? (fun u => u.2.1 == a)).isSome]) ∧ Below w.heap.size w w' := by
  obtain ⟨W0, hW0⟩ : ∃ W0, W0 = w.alloc (.cells #[.int .i64 0, .int .i64 0, .int .i64 0] 39) := ⟨_, rfl⟩
  obtain ⟨g, hg⟩ : ∃ g, g = w.heap.size := ⟨_, rfl⟩
  have HG := Sh.mk hg
  have HB := Sh.mk (show Below w.heap.size w W0 by rw [hW0]; exact (Below.refl _ _).alloc (Nat.le_refl _) _)
  have HX := Sh.mk (show uBox g W0 by rw [hW0, hg]; exact blk_new _ _)
  have HW := Sh.mk hW0
  have hgw : w.heap.size ≤ g := by omega
  clear hW0 hg
  obtain ⟨xs, hxs⟩ : ∃ xs, xs = unitsFrom s s.size 0 := ⟨_, rfl⟩
  rw [← hxs]
  have HXS := Sh.mk hxs
  clear hxs
  go_enter Tryd.func25, Tryd.ntmps25
  go_wp2_with fail
  rw [← HW.out, ← HG.out]
  refine (refSplit_any s W0 hs).mono ?_
  rintro e w1 ⟨v, rfl, ho, hb1⟩
  rw [← HXS.out] at ho
  obtain ⟨n, hn⟩ : ∃ n, xs.length = n := ⟨_, rfl⟩
  have hn64 : n ≤ 9223372036854775807 := by obtain ⟨_, _, _, _, hC⟩ := R_open ho n hn; exact C_len hC
  obtain ⟨A, c, rfl, hc, hC⟩ := R_open ho n hn
  have HC := Sh.mk hC
  have HX1 := Sh.mk (blk_below HX.out hb1)
  have HB1 := Sh.mk (below_of HB.out hb1)
  have HN := Sh.mk hn
  clear ho hb1 hC HX HB hn HW HG
  go_wp2
  go_loop [7] (fun i => ∃ k : Nat, k ≤ n ∧ i = .int .i64 k ∧ Sh ((xs.take k).find? (fun u => u.2.1 == a) = none)) (fun i => n - (intOf i).toNat)
  case atStart => exact ⟨0, by omega, rfl, ⟨rfl⟩⟩
  case round =>
    obtain ⟨k, hk, rfl, HF⟩ := hrel
    by_cases hlt : k < n
    · obtain ⟨ad, e1, x0, x1, x2⟩ := C_unit HC.out k hlt
      cases e1
      have HS := Sh.mk (find_snoc (by rw [HN.out]; exact hlt) HF.out)
      obtain ⟨u, hu⟩ : ∃ u, u = rdU xs k := ⟨_, rfl⟩
      rw [← hu] at x0 x1 x2 HS
      clear hu HF
      obtain ⟨u0, u1, u2⟩ := u
      simp only [] at x0 x1 x2 HS
      by_cases h : u1 = a
      · subst h
        have z : (u1 == u1) = true := by simp
        have HR := Sh.mk (HS.out.1 z)
        clear HS
        go_wp2_with (first | (refine wpList_store_row rfl 39 (.tmp 4) (.tmp 26) rfl g #[.int .i64 u0, .int .i64 u1, .int .i64 u2] rfl rfl 39 #[.int .i64 0, .int .i64 0, .int .i64 0] HX1.out (by kernel_rfl) rfl (oneU _ _ _) ?_))
        have hR := setRow_heap w1 g _ #[.int .i64 u0, .int .i64 u1, .int .i64 u2] _ _ HX1.out
        (try simp only [Exit.inBlock, Exit.then])
        refine bodyPost_ret (results_cell_row2 rfl _ _ g 39 _ (0, 0) _ rfl hR Tryd.underlying39 rfl (by kernel_rfl)) rfl ?_
        exact ⟨by rw [HR.out]; rfl, below_setRow HB1.out hgw _⟩
      · have z : (u1 == a) = false := by simpa using h
        have HR := Sh.mk (HS.out.2 z)
        clear HS h
        go_wp2
        go_round
        case rel => exact ⟨k + 1, by omega, by go_num, HR⟩
        case measure => simp [intOf]; omega
    · have HR := Sh.mk (show xs.find? (fun u => u.2.1 == a) = none by have h := HF.out; rwa [List.take_of_length_le (by have := HN.out; omega)] at h)
      clear HF
      go_wp2_with (first | (refine wpList_store_row rfl 39 (.tmp 4) (.tmp 27) rfl g #[.int .i64 0, .int .i64 0, .int .i64 0] rfl rfl 39 #[.int .i64 0, .int .i64 0, .int .i64 0] HX1.out (by kernel_rfl) rfl (oneU _ _ _) ?_))
      have hR := setRow_heap w1 g _ #[.int .i64 0, .int .i64 0, .int .i64 0] _ _ HX1.out
      (try simp only [Exit.inBlock, Exit.then])
      refine bodyPost_ret (results_cell_row2 rfl _ _ g 39 _ (0, 0) _ rfl hR Tryd.underlying39 rfl (by kernel_rfl)) rfl ?_
      exact ⟨by rw [HR.out]; rfl, below_setRow HB1.out hgw _⟩
set_option maxRecDepth 100000 in
set_option maxHeartbeats 8000000 in
theorem refPrev_any (s : ByteArray) (a : Int) (w : World) (hs : s.size ≤ 5000000000000) :
    Calls Tryd.prog 27 #[.string s, .int .i64 a] w fun e w' => e = .returned (.tuple #[uVal (oU ((unitsFrom s s.size 0).find? (fun u => u.2.2 == a))), .bool ((unitsFrom s s.size 0).find? (fun u => u.2.2 == a)).isSome]) ∧ Below w.heap.size w w' := by
  obtain ⟨W0, hW0⟩ : ∃ W0, W0 = w.alloc (.cells #[.int .i64 0, .int .i64 0, .int .i64 0] 39) := ⟨_, rfl⟩
  obtain ⟨g, hg⟩ : ∃ g, g = w.heap.size := ⟨_, rfl⟩
  have HG := Sh.mk hg
  have HB := Sh.mk (show Below w.heap.size w W0 by rw [hW0]; exact (Below.refl _ _).alloc (Nat.le_refl _) _)
  have HX := Sh.mk (show uBox g W0 by rw [hW0, hg]; exact blk_new _ _)
  have HW := Sh.mk hW0
  have hgw : w.heap.size ≤ g := by omega
  clear hW0 hg
  obtain ⟨xs, hxs⟩ : ∃ xs, xs = unitsFrom s s.size 0 := ⟨_, rfl⟩
  rw [← hxs]
  have HXS := Sh.mk hxs
  clear hxs
  go_enter Tryd.func27, Tryd.ntmps27
  go_wp2_with fail
  rw [← HW.out, ← HG.out]
  refine (refSplit_any s W0 hs).mono ?_
  rintro e w1 ⟨v, rfl, ho, hb1⟩
  rw [← HXS.out] at ho
  obtain ⟨n, hn⟩ : ∃ n, xs.length = n := ⟨_, rfl⟩
  have hn64 : n ≤ 9223372036854775807 := by obtain ⟨_, _, _, _, hC⟩ := R_open ho n hn; exact C_len hC
  obtain ⟨A, c, rfl, hc, hC⟩ := R_open ho n hn
  have HC := Sh.mk hC
  have HX1 := Sh.mk (blk_below HX.out hb1)
  have HB1 := Sh.mk (below_of HB.out hb1)
  have HN := Sh.mk hn
  clear ho hb1 hC HX HB hn HW HG
  go_wp2
  go_loop [7] (fun i => ∃ k : Nat, k ≤ n ∧ i = .int .i64 k ∧ Sh ((xs.take k).find? (fun u => u.2.2 == a) = none)) (fun i => n - (intOf i).toNat)
  case atStart => exact ⟨0, by omega, rfl, ⟨rfl⟩⟩
  case round =>
    obtain ⟨k, hk, rfl, HF⟩ := hrel
    by_cases hlt : k < n
    · obtain ⟨ad, e1, x0, x1, x2⟩ := C_unit HC.out k hlt
      cases e1
      have HS := Sh.mk (find_snoc (by rw [HN.out]; exact hlt) HF.out)
      obtain ⟨u, hu⟩ : ∃ u, u = rdU xs k := ⟨_, rfl⟩
      rw [← hu] at x0 x1 x2 HS
      clear hu HF
      obtain ⟨u0, u1, u2⟩ := u
      simp only [] at x0 x1 x2 HS
      by_cases h : u2 = a
      · subst h
        have z : (u2 == u2) = true := by simp
        have HR := Sh.mk (HS.out.1 z)
        clear HS
        go_wp2_with (first | (refine wpList_store_row rfl 39 (.tmp 4) (.tmp 26) rfl g #[.int .i64 u0, .int .i64 u1, .int .i64 u2] rfl rfl 39 #[.int .i64 0, .int .i64 0, .int .i64 0] HX1.out (by kernel_rfl) rfl (oneU _ _ _) ?_))
        have hR := setRow_heap w1 g _ #[.int .i64 u0, .int .i64 u1, .int .i64 u2] _ _ HX1.out
        (try simp only [Exit.inBlock, Exit.then])
        refine bodyPost_ret (results_cell_row2 rfl _ _ g 39 _ (0, 0) _ rfl hR Tryd.underlying39 rfl (by kernel_rfl)) rfl ?_
        exact ⟨by rw [HR.out]; rfl, below_setRow HB1.out hgw _⟩
      · have z : (u2 == a) = false := by simpa using h
        have HR := Sh.mk (HS.out.2 z)
        clear HS h
        go_wp2
        go_round
        case rel => exact ⟨k + 1, by omega, by go_num, HR⟩
        case measure => simp [intOf]; omega
    · have HR := Sh.mk (show xs.find? (fun u => u.2.2 == a) = none by have h := HF.out; rwa [List.take_of_length_le (by have := HN.out; omega)] at h)
      clear HF
      go_wp2_with (first | (refine wpList_store_row rfl 39 (.tmp 4) (.tmp 27) rfl g #[.int .i64 0, .int .i64 0, .int .i64 0] rfl rfl 39 #[.int .i64 0, .int .i64 0, .int .i64 0] HX1.out (by kernel_rfl) rfl (oneU _ _ _) ?_))
      have hR := setRow_heap w1 g _ #[.int .i64 0, .int .i64 0, .int .i64 0] _ _ HX1.out
      (try simp only [Exit.inBlock, Exit.then])
      refine bodyPost_ret (results_cell_row2 rfl _ _ g 39 _ (0, 0) _ rfl hR Tryd.underlying39 rfl (by kernel_rfl)) rfl ?_
      exact ⟨by rw [HR.out]; rfl, below_setRow HB1.out hgw _⟩
end Go.Proofs.YtfiahgahphammaaDoor
/- units.Prev, walked. Conditions: the text's size; the table reads as listed. -/
namespace Go.Proofs.YtfiahgahphammaaDoor
open Go Go.RowKit Go.Proofs.YtfiahgahphammaaDoorW.PrintWords Go.Proofs.YtfiahgahphammaaDoorW.PrintLast Go.Proofs.YtfiahgahphammaaDoorW.PrintMore
set_option maxRecDepth 100000 in
set_option maxHeartbeats 8000000 in
theorem prev_any (s : ByteArray) (a : Int) (w : World) (hf : FormsAt w) (hs : s.size ≤ 140737488355327) :
    Calls Tryd.prog 26 #[.string s, .int .i64 a] w fun e w' => e = .returned (.tuple #[uVal (oU (prevR s a)), .bool (prevR s a).isSome]) ∧ Below w.heap.size w w' := by
  have HF := Sh.mk hf
  clear hf
  obtain ⟨W0, hW0⟩ : ∃ W0, W0 = w.alloc (.cells #[.int .i64 0, .int .i64 0, .int .i64 0] 39) := ⟨_, rfl⟩
  obtain ⟨g, hg⟩ : ∃ g, g = w.heap.size := ⟨_, rfl⟩
  have HG := Sh.mk hg
  have HB := Sh.mk (show Below w.heap.size w W0 by rw [hW0]; exact (Below.refl _ _).alloc (Nat.le_refl _) _)
  have HX := Sh.mk (show uBox g W0 by rw [hW0, hg]; exact blk_new _ _)
  have HW := Sh.mk hW0
  have hgw : w.heap.size ≤ g := by omega
  clear hW0 hg
  by_cases hn : a ≤ 0
  · have HR := Sh.mk (show prevR s a = none by unfold prevR; rw [if_pos (Or.inl hn)])
    have l1 : decide (a ≤ 0) = true := by simpa using hn
    clear hn
    go_enter Tryd.func26, Tryd.ntmps26
    go_wp2_with (first | (refine wpList_store_row rfl 39 (.tmp 4) (.tmp 27) rfl g #[.int .i64 0, .int .i64 0, .int .i64 0] (by rw [HG.out]; rfl) rfl 39 #[.int .i64 0, .int .i64 0, .int .i64 0] (by rw [← HW.out]; exact HX.out) (by kernel_rfl) rfl (oneU _ _ _) ?_; rw [← HW.out, ← HG.out]))
    have hR := setRow_heap W0 g _ #[.int .i64 0, .int .i64 0, .int .i64 0] _ _ HX.out
    (try simp only [Exit.inBlock, Exit.then])
    refine bodyPost_ret (results_cell_row2 rfl _ _ g 39 _ (0, 0) _ rfl hR Tryd.underlying39 rfl (by kernel_rfl)) rfl ?_
    exact ⟨by rw [HR.out]; rfl, below_setRow HB.out hgw _⟩
  · obtain ⟨k, rfl⟩ := Int.eq_ofNat_of_zero_le (show 0 ≤ a by omega)
    have hk0 : 0 < k := by omega
    have l1 : decide ((k : Int) ≤ 0) = false := by simp; omega
    have l1' : decide (k ≤ 0) = false := by simp; omega
    have l1'' : (k == 0) = false := by simp; omega
    by_cases hk : s.size < k
    · have HR := Sh.mk (show prevR s (k : Int) = none by unfold prevR; rw [if_pos (Or.inr (Int.ofNat_lt.2 hk))])
      have l2 : decide (s.size < k) = true := by simpa using hk
      clear hk hn
      go_enter Tryd.func26, Tryd.ntmps26
      go_wp2_with (first | (refine wpList_store_row rfl 39 (.tmp 4) (.tmp 27) rfl g #[.int .i64 0, .int .i64 0, .int .i64 0] (by rw [HG.out]; rfl) rfl 39 #[.int .i64 0, .int .i64 0, .int .i64 0] (by rw [← HW.out]; exact HX.out) (by kernel_rfl) rfl (oneU _ _ _) ?_; rw [← HW.out, ← HG.out]))
      have hR := setRow_heap W0 g _ #[.int .i64 0, .int .i64 0, .int .i64 0] _ _ HX.out
      (try simp only [Exit.inBlock, Exit.then])
      refine bodyPost_ret (results_cell_row2 rfl _ _ g 39 _ (0, 0) _ rfl hR Tryd.underlying39 rfl (by kernel_rfl)) rfl ?_
      exact ⟨by rw [HR.out]; rfl, below_setRow HB.out hgw _⟩
    · have hle : k ≤ s.size := by omega
      have l2 : decide (s.size < k) = false := by simpa using hk
      have l2' : decide (k ≤ s.size) = true := by simpa using hle
      obtain ⟨m, hm⟩ : ∃ m, m = min 4 k := ⟨_, rfl⟩
      have hmin : min (4 : Int) (k : Int) = (m : Int) := by omega
      have hmin2 : (if (k : Int) < 4 then (k : Int) else 4) = (m : Int) := by split <;> omega
      have hm4 : m ≤ 4 := by omega
      have hmk : m ≤ k := by omega
      have HE0 := Sh.mk (show prevR s (k : Int) = if (k : Int) < s.size ∧ insideR s k = true then none else some (prevAux s k m) by unfold prevR; rw [if_neg (fun h => by rcases h with h | h <;> omega), Int.toNat_natCast, ← hm])
      clear hk hn hm
      by_cases hlt : k < s.size
      · have l3 : decide (k < s.size) = true := by simpa using hlt
        go_enter Tryd.func26, Tryd.ntmps26
        go_wp2_with fail
        rw [← HW.out, ← HG.out]
        refine (inside_any s k W0 (HF.out.below HB.out) hlt hs).mono ?_
        rintro e w1 ⟨rfl, hb1⟩
        have HX1 := Sh.mk (blk_below HX.out hb1)
        have HB1 := Sh.mk (below_of HB.out hb1)
        clear HX HB hb1
        cases hin : insideR s k with
        | true =>
          have HR := Sh.mk (show prevR s (k : Int) = none by rw [HE0.out, if_pos ⟨by omega, hin⟩])
          clear hin HE0
          go_wp2_with (first | (refine wpList_store_row rfl 39 (.tmp 4) (.tmp 27) rfl g #[.int .i64 0, .int .i64 0, .int .i64 0] rfl rfl 39 #[.int .i64 0, .int .i64 0, .int .i64 0] HX1.out (by kernel_rfl) rfl (oneU _ _ _) ?_))
          have hR := setRow_heap w1 g _ #[.int .i64 0, .int .i64 0, .int .i64 0] _ _ HX1.out
          (try simp only [Exit.inBlock, Exit.then])
          refine bodyPost_ret (results_cell_row2 rfl _ _ g 39 _ (0, 0) _ rfl hR Tryd.underlying39 rfl (by kernel_rfl)) rfl ?_
          exact ⟨by rw [HR.out]; rfl, below_setRow HB1.out hgw _⟩
        | false =>
          have HE := Sh.mk (show prevR s (k : Int) = some (prevAux s k m) by rw [HE0.out, if_neg (fun h => by rw [hin] at h; cases h.2)])
          clear hin HE0 HW HG
          go_wp2
          go_loopw [6] (fun v wr => ∃ b : Nat, b ≤ m ∧ v = .int .i64 b ∧ Sh (prevR s (k : Int) = some (prevAux s k b)) ∧ Sh (uBox g wr) ∧ Sh (Below w.heap.size w wr)) (fun v _ => (intOf v).toNat)
          case atStart => exact ⟨m, by omega, rfl, HE, HX1, HB1⟩
          case round =>
            obtain ⟨b, hb, rfl, HR, HX, HB⟩ := hrel
            by_cases hb1 : 1 < b
            · obtain ⟨c, hc⟩ : ∃ c, b = c + 2 := ⟨b - 2, by omega⟩
              obtain ⟨q, hq⟩ : ∃ q, q = k - b := ⟨_, rfl⟩
              have e1 : (k : Int) - (b : Int) = (q : Int) := by omega
              have hqs : q < s.size := by omega
              have HP := Sh.mk (show prevAux s k b = if unitPt s q ≠ -1 ∧ q + unitLen s q = k then unitTr s q else prevAux s k (c + 1) by rw [hc, prevAux, show k - (c + 2) = q by omega])
              have e3 : (b : Int) - 1 = ((c + 1 : Nat) : Int) := by omega
              have hcm : c + 1 ≤ m := by omega
              have hcb : c + 1 < b := by omega
              have l1 : decide ((1 : Int) < (b : Int)) = true := by simp; omega
              obtain ⟨d, hd⟩ : ∃ d, d = c + 1 := ⟨_, rfl⟩
              rw [← hd] at e3 hcm hcb HP
              clear hq hc hd
              go_wp2_with fail
              refine (unit_any s q wr (HF.out.below HB.out) hqs hs).mono ?_
              rintro e w2 ⟨rfl, hb2⟩
              have HX2 := Sh.mk (blk_below HX.out hb2)
              have HB2 := Sh.mk (below_of HB.out hb2)
              clear hb2 HX HB
              rw [Int.natCast_add]
              have HB3 : Sh (∀ o, Below w.heap.size w (w2.alloc o)) := ⟨fun o => HB2.out.alloc HB2.out.size o⟩
              have HX3 : Sh (∀ o, uBox g (w2.alloc o)) := ⟨fun o => blk_alloc HX2.out o⟩
              have hgs : g < w2.heap.size := blk_lt HX2.out
              clear HX2 HB2
              by_cases hcond : unitPt s q ≠ -1 ∧ q + unitLen s q = k
              · have HV := Sh.mk (show prevR s (k : Int) = some (unitTr s q) by rw [HR.out, HP.out, if_pos hcond])
                have c0 : (unitPt s q != -1) = true := by simpa using hcond.1
                have c1 : (unitPt s q == -1) = false := by simpa using hcond.1
                have c2 : ((q : Int) + (unitLen s q : Int) == (k : Int)) = true := by have := hcond.2; simp; omega
                have c3 : (unitPt s q != -1 && ((q : Int) + (unitLen s q : Int) == (k : Int))) = true := by rw [c0, c2]; rfl
                clear hcond HR HP
                go_wp2_with (first | (refine wpList_store_row rfl 39 (.tmp 4) (.tmp 48) rfl g #[.int .i64 (unitPt s q), .int .i64 q, .int .i64 (q + unitLen s q)] rfl rfl 39 #[.int .i64 0, .int .i64 0, .int .i64 0] (HX3.out _) (by kernel_rfl) rfl (oneU _ _ _) ?_))
                have hR := setRow_heap _ g _ #[.int .i64 (unitPt s q), .int .i64 q, .int .i64 (q + unitLen s q)] _ _ (HX3.out (.cells #[.int .i64 (unitPt s q), .int .i64 q, .int .i64 (q + unitLen s q)] 39))
                (try simp only [Exit.inBlock, Exit.then])
                refine bodyPost_ret (results_cell_row2 rfl _ _ g 39 _ (0, 0) _ rfl hR Tryd.underlying39 rfl (by kernel_rfl)) rfl ?_
                exact ⟨by rw [HV.out]; rfl, below_setRow (HB3.out _) hgw _⟩
              · have HV := Sh.mk (show prevR s (k : Int) = some (prevAux s k d) by rw [HR.out, HP.out, if_neg hcond])
                by_cases hp : unitPt s q = -1
                · have c0 : (unitPt s q != -1) = false := by simpa using hp
                  have c1 : (unitPt s q == -1) = true := by simpa using hp
                  have c3 : (unitPt s q != -1 && ((q : Int) + (unitLen s q : Int) == (k : Int))) = false := by rw [c0]; rfl
                  clear hcond HR HP hp
                  go_wp2
                  go_roundw
                  case rel => exact ⟨d, by omega, by go_num, HV, ⟨HX3.out _⟩, ⟨HB3.out _⟩⟩
                  case measure => simp [intOf]; omega
                · have c0 : (unitPt s q != -1) = true := by simpa using hp
                  have c1 : (unitPt s q == -1) = false := by simpa using hp
                  have c2 : ((q : Int) + (unitLen s q : Int) == (k : Int)) = false := by simp; intro h; exact hcond ⟨hp, by omega⟩
                  have c3 : (unitPt s q != -1 && ((q : Int) + (unitLen s q : Int) == (k : Int))) = false := by rw [c0, c2]; rfl
                  clear hcond HR HP hp
                  go_wp2
                  go_roundw
                  case rel => exact ⟨d, by omega, by go_num, HV, ⟨HX3.out _⟩, ⟨HB3.out _⟩⟩
                  case measure => simp [intOf]; omega
            · have l1 : decide ((1 : Int) < (b : Int)) = false := by simp; omega
              have hb01 : b = 0 ∨ b = 1 := by omega
              obtain ⟨q, hq⟩ : ∃ q, q = k - 1 := ⟨_, rfl⟩
              have e1 : (k : Int) - 1 = (q : Int) := by omega
              have hqs : q < s.size := by omega
              have HV := Sh.mk (show prevR s (k : Int) = some (unitTr s q) by rw [HR.out]; rcases hb01 with rfl | rfl <;> rw [hq] <;> rfl)
              clear hq HR hb01 hb1
              go_wp2_with fail
              refine (unit_any s q wr (HF.out.below HB.out) hqs hs).mono ?_
              rintro e w2 ⟨rfl, hb2⟩
              have HX2 := Sh.mk (blk_below HX.out hb2)
              have HB2 := Sh.mk (below_of HB.out hb2)
              clear hb2 HX HB
              rw [Int.natCast_add]
              go_wp2_with (first | (refine wpList_store_row rfl 39 (.tmp 4) (.tmp 52) rfl g #[.int .i64 (unitPt s q), .int .i64 q, .int .i64 (q + unitLen s q)] rfl rfl 39 #[.int .i64 0, .int .i64 0, .int .i64 0] HX2.out (by kernel_rfl) rfl (oneU _ _ _) ?_))
              have hR := setRow_heap w2 g _ #[.int .i64 (unitPt s q), .int .i64 q, .int .i64 (q + unitLen s q)] _ _ HX2.out
              (try simp only [Exit.inBlock, Exit.then])
              refine bodyPost_ret (results_cell_row2 rfl _ _ g 39 _ (0, 0) _ rfl hR Tryd.underlying39 rfl (by kernel_rfl)) rfl ?_
              exact ⟨by rw [HV.out]; rfl, below_setRow HB2.out hgw _⟩
      · have l3 : decide (k < s.size) = false := by simpa using hlt
        have HE := Sh.mk (show prevR s (k : Int) = some (prevAux s k m) by rw [HE0.out, if_neg (fun h => by omega)])
        clear HE0
        go_enter Tryd.func26, Tryd.ntmps26
        go_wp2
        rw [← HW.out, ← HG.out]
        go_loopw [6] (fun v wr => ∃ b : Nat, b ≤ m ∧ v = .int .i64 b ∧ Sh (prevR s (k : Int) = some (prevAux s k b)) ∧ Sh (uBox g wr) ∧ Sh (Below w.heap.size w wr)) (fun v _ => (intOf v).toNat)
        case atStart => exact ⟨m, by omega, rfl, HE, HX, HB⟩
        case round =>
          obtain ⟨b, hb, rfl, HR, HX, HB⟩ := hrel
          by_cases hb1 : 1 < b
          · obtain ⟨c, hc⟩ : ∃ c, b = c + 2 := ⟨b - 2, by omega⟩
            obtain ⟨q, hq⟩ : ∃ q, q = k - b := ⟨_, rfl⟩
            have e1 : (k : Int) - (b : Int) = (q : Int) := by omega
            have hqs : q < s.size := by omega
            have HP := Sh.mk (show prevAux s k b = if unitPt s q ≠ -1 ∧ q + unitLen s q = k then unitTr s q else prevAux s k (c + 1) by rw [hc, prevAux, show k - (c + 2) = q by omega])
            have e3 : (b : Int) - 1 = ((c + 1 : Nat) : Int) := by omega
            have hcm : c + 1 ≤ m := by omega
            have hcb : c + 1 < b := by omega
            have l1 : decide ((1 : Int) < (b : Int)) = true := by simp; omega
            obtain ⟨d, hd⟩ : ∃ d, d = c + 1 := ⟨_, rfl⟩
            rw [← hd] at e3 hcm hcb HP
            clear hq hc hd
            go_wp2_with fail
            refine (unit_any s q wr (HF.out.below HB.out) hqs hs).mono ?_
            rintro e w2 ⟨rfl, hb2⟩
            have HX2 := Sh.mk (blk_below HX.out hb2)
            have HB2 := Sh.mk (below_of HB.out hb2)
            clear hb2 HX HB
            rw [Int.natCast_add]
            have HB3 : Sh (∀ o, Below w.heap.size w (w2.alloc o)) := ⟨fun o => HB2.out.alloc HB2.out.size o⟩
            have HX3 : Sh (∀ o, uBox g (w2.alloc o)) := ⟨fun o => blk_alloc HX2.out o⟩
            have hgs : g < w2.heap.size := blk_lt HX2.out
            clear HX2 HB2
            by_cases hcond : unitPt s q ≠ -1 ∧ q + unitLen s q = k
            · have HV := Sh.mk (show prevR s (k : Int) = some (unitTr s q) by rw [HR.out, HP.out, if_pos hcond])
              have c0 : (unitPt s q != -1) = true := by simpa using hcond.1
              have c1 : (unitPt s q == -1) = false := by simpa using hcond.1
              have c2 : ((q : Int) + (unitLen s q : Int) == (k : Int)) = true := by have := hcond.2; simp; omega
              have c3 : (unitPt s q != -1 && ((q : Int) + (unitLen s q : Int) == (k : Int))) = true := by rw [c0, c2]; rfl
              clear hcond HR HP
              go_wp2_with (first | (refine wpList_store_row rfl 39 (.tmp 4) (.tmp 48) rfl g #[.int .i64 (unitPt s q), .int .i64 q, .int .i64 (q + unitLen s q)] rfl rfl 39 #[.int .i64 0, .int .i64 0, .int .i64 0] (HX3.out _) (by kernel_rfl) rfl (oneU _ _ _) ?_))
              have hR := setRow_heap _ g _ #[.int .i64 (unitPt s q), .int .i64 q, .int .i64 (q + unitLen s q)] _ _ (HX3.out (.cells #[.int .i64 (unitPt s q), .int .i64 q, .int .i64 (q + unitLen s q)] 39))
              (try simp only [Exit.inBlock, Exit.then])
              refine bodyPost_ret (results_cell_row2 rfl _ _ g 39 _ (0, 0) _ rfl hR Tryd.underlying39 rfl (by kernel_rfl)) rfl ?_
              exact ⟨by rw [HV.out]; rfl, below_setRow (HB3.out _) hgw _⟩
            · have HV := Sh.mk (show prevR s (k : Int) = some (prevAux s k d) by rw [HR.out, HP.out, if_neg hcond])
              by_cases hp : unitPt s q = -1
              · have c0 : (unitPt s q != -1) = false := by simpa using hp
                have c1 : (unitPt s q == -1) = true := by simpa using hp
                have c3 : (unitPt s q != -1 && ((q : Int) + (unitLen s q : Int) == (k : Int))) = false := by rw [c0]; rfl
                clear hcond HR HP hp
                go_wp2
                go_roundw
                case rel => exact ⟨d, by omega, by go_num, HV, ⟨HX3.out _⟩, ⟨HB3.out _⟩⟩
                case measure => simp [intOf]; omega
              · have c0 : (unitPt s q != -1) = true := by simpa using hp
                have c1 : (unitPt s q == -1) = false := by simpa using hp
                have c2 : ((q : Int) + (unitLen s q : Int) == (k : Int)) = false := by simp; intro h; exact hcond ⟨hp, by omega⟩
                have c3 : (unitPt s q != -1 && ((q : Int) + (unitLen s q : Int) == (k : Int))) = false := by rw [c0, c2]; rfl
                clear hcond HR HP hp
                go_wp2
                go_roundw
                case rel => exact ⟨d, by omega, by go_num, HV, ⟨HX3.out _⟩, ⟨HB3.out _⟩⟩
                case measure => simp [intOf]; omega
          · have l1 : decide ((1 : Int) < (b : Int)) = false := by simp; omega
            have hb01 : b = 0 ∨ b = 1 := by omega
            obtain ⟨q, hq⟩ : ∃ q, q = k - 1 := ⟨_, rfl⟩
            have e1 : (k : Int) - 1 = (q : Int) := by omega
            have hqs : q < s.size := by omega
            have HV := Sh.mk (show prevR s (k : Int) = some (unitTr s q) by rw [HR.out]; rcases hb01 with rfl | rfl <;> rw [hq] <;> rfl)
            clear hq HR hb01 hb1
            go_wp2_with fail
            refine (unit_any s q wr (HF.out.below HB.out) hqs hs).mono ?_
            rintro e w2 ⟨rfl, hb2⟩
            have HX2 := Sh.mk (blk_below HX.out hb2)
            have HB2 := Sh.mk (below_of HB.out hb2)
            clear hb2 HX HB
            rw [Int.natCast_add]
            go_wp2_with (first | (refine wpList_store_row rfl 39 (.tmp 4) (.tmp 52) rfl g #[.int .i64 (unitPt s q), .int .i64 q, .int .i64 (q + unitLen s q)] rfl rfl 39 #[.int .i64 0, .int .i64 0, .int .i64 0] HX2.out (by kernel_rfl) rfl (oneU _ _ _) ?_))
            have hR := setRow_heap w2 g _ #[.int .i64 (unitPt s q), .int .i64 q, .int .i64 (q + unitLen s q)] _ _ HX2.out
            (try simp only [Exit.inBlock, Exit.then])
            refine bodyPost_ret (results_cell_row2 rfl _ _ g 39 _ (0, 0) _ rfl hR Tryd.underlying39 rfl (by kernel_rfl)) rfl ?_
            exact ⟨by rw [HV.out]; rfl, below_setRow HB2.out hgw _⟩
end Go.Proofs.YtfiahgahphammaaDoor
/- caesurakit.Pick; caesuralaw2.first. Condition: the table reads as listed. -/
namespace Go.Proofs.YtfiahgahphammaaDoor
open Go Go.RowKit Go.Proofs.YtfiahgahphammaaDoorW.PrintWords Go.Proofs.YtfiahgahphammaaDoorW.PrintLast Go.Proofs.YtfiahgahphammaaDoorW.PrintMore
theorem emod_tmod (k n : Int) (h : 0 < n) : k % n = if Int.tmod k n < 0 then Int.tmod k n + n else Int.tmod k n := by
  have h1 := Int.tmod_eq_emod (a := k) (b := n)
  rw [h1]
  have := Int.emod_nonneg k (by omega : n ≠ 0)
  have := Int.emod_lt_of_pos k h
  have hna : (n.natAbs : Int) = n := Int.natAbs_of_nonneg (by omega)
  split <;> split <;> omega
set_option maxRecDepth 100000 in
theorem pick_any (k : Int) (n : Nat) (w : World) (hn : 1 ≤ n) (hn2 : n ≤ 4611686018427387904) :
    Calls Tryd.prog 23 #[.int .i64 k, .int .i64 n] w fun e w' => e = .returned (.int .i64 (k % n)) ∧ w = w' := by
  have l0 : decide (n < 1) = false := by simp; omega
  have l0' : decide ((n : Int) < 1) = false := by simp; omega
  have l1 : ((n : Int) == 0) = false := by simp; omega
  have l1' : (n == 0) = false := by simp; omega
  have hE := emod_tmod k n (by omega)
  have hb0 := Int.emod_nonneg k (by omega : (n : Int) ≠ 0)
  have hb1 := Int.emod_lt_of_pos k (show 0 < (n : Int) by omega)
  have HE := Sh.mk hE
  by_cases hneg : Int.tmod k n < 0
  · rw [if_pos hneg] at hE
    have l2 : decide (Int.tmod k n < 0) = true := by simpa using hneg
    have hr1 : -4611686018427387904 ≤ Int.tmod k n := by omega
    have hr2 : Int.tmod k n ≤ 4611686018427387904 := by omega
    have HE := Sh.mk hE
    clear hE hb0 hb1
    go_enter Tryd.func23, Tryd.ntmps23
    go_wp2
    go_ret
    exact ⟨by rw [HE.out]; rfl, rfl⟩
  · rw [if_neg hneg] at hE
    have l2 : decide (Int.tmod k n < 0) = false := by simpa using hneg
    have HE := Sh.mk hE
    have hr1 : 0 ≤ Int.tmod k n := by omega
    have hr2 : Int.tmod k n ≤ 4611686018427387904 := by omega
    clear hE hb0 hb1
    go_enter Tryd.func23, Tryd.ntmps23
    go_wp2
    go_ret
    exact ⟨by rw [HE.out]; rfl, rfl⟩
theorem units_first : unitsFrom { data := #[97, 195, 169, 128] } 4 0 = [(97, 0, 1), (233, 1, 3), (-1, 3, 4)] := by decide +kernel
/-- A literal row of three units, read. -/
theorem lit_C3 (W : World) (u0 u1 u2 : Int × Int × Int) : unitK.C (W.alloc (.cells #[.int .i64 u0.1, .int .i64 u0.2.1, .int .i64 u0.2.2, .int .i64 u1.1, .int .i64 u1.2.1, .int .i64 u1.2.2, .int .i64 u2.1, .int .i64 u2.2.1, .int .i64 u2.2.2] 39)) (some ⟨W.heap.size, 0, none⟩) 3 [u0, u1, u2] := by
  refine ⟨rfl, by omega, fun _ => ⟨_, rfl, fun j p hj => ?_⟩⟩
  refine ⟨[.int .i64 p.1, .int .i64 p.2.1, .int .i64 p.2.2], rfl, ⟨[.int .i64 p.1], [.int .i64 p.2.1, .int .i64 p.2.2], rfl, rfl, [.int .i64 p.2.1], [.int .i64 p.2.2], rfl, rfl, rfl⟩, fun i u hu => ?_⟩
  have e : ∀ m, (⟨W.heap.size, 0, none⟩ : Addr).add m = ⟨W.heap.size, m, none⟩ := fun m => by unfold Addr.add; split <;> simp_all
  rw [e, blk_cell (blk_new W _)]
  match j, hj with
  | 0, hj => cases hj; match i, hu with | 0, hu => cases hu; rfl | 1, hu => cases hu; rfl | 2, hu => cases hu; rfl
  | 1, hj => cases hj; match i, hu with | 0, hu => cases hu; rfl | 1, hu => cases hu; rfl | 2, hu => cases hu; rfl
  | 2, hj => cases hj; match i, hu with | 0, hu => cases hu; rfl | 1, hu => cases hu; rfl | 2, hu => cases hu; rfl
set_option maxRecDepth 100000 in
set_option maxHeartbeats 4000000 in
theorem first_any (w : World) (hf : FormsAt w) :
    Calls Tryd.prog 28 #[] w fun e w' => e = .returned (.bool true) ∧ Below w.heap.size w w' := by
  have HF := Sh.mk hf
  clear hf
  go_enter Tryd.func28, Tryd.ntmps28
  go_wp2_with fail
  refine (split_any { data := #[97, 195, 169, 128] } w HF.out (by decide)).mono ?_
  rintro e w1 ⟨v, rfl, ho, hb1⟩
  rw [show ({ data := #[97, 195, 169, 128] } : ByteArray).size = 4 from rfl, units_first] at ho
  obtain ⟨A, c, rfl, hc, hC⟩ := R_open ho 3 rfl
  have HC := Sh.mk hC
  have HB := Sh.mk hb1
  clear ho hC hb1
  go_wp2_with fail
  have HL := lit_C3 w1 (97, 0, 1) (233, 1, 3) (-1, 3, 4)
  have ha : Below w1.heap.size w1 (w1.alloc (.cells #[.int .i64 97, .int .i64 0, .int .i64 1, .int .i64 233, .int .i64 1, .int .i64 3, .int .i64 (-1), .int .i64 3, .int .i64 4] 39)) := (Below.refl _ _).alloc (Nat.le_refl _) _
  refine (sameUnits_any A _ c _ 3 3 _ _ _ (Kd.C_below HC.out ha) HL).mono ?_
  rintro e w2 ⟨rfl, hd⟩
  have HB2 := Sh.mk (below_of (below_of HB.out ha) hd.below)
  clear hd HL ha
  go_wp2
  go_ret
  exact ⟨rfl, HB2.out⟩
end Go.Proofs.YtfiahgahphammaaDoor
/- Units cover a text: what Next, Prev and Encode say of each. Plain Lean. -/
namespace Go.Proofs.YtfiahgahphammaaDoor
open Go Go.RowKit Go.Proofs.YtfiahgahphammaaDoorW.PrintWords Go.Proofs.YtfiahgahphammaaDoorW.PrintLast Go.Proofs.YtfiahgahphammaaDoorW.PrintMore
theorem good_enc {s : ByteArray} {i n : Nat} {p : Int} (h : unitO s i = some (p, n)) (hi : i < s.size) : isSc p = true ∧ encP p = bytesAt s i n := by
  have hg := good_unit s i hi
  have hb := good_bytes h hi
  rw [h] at hg
  simp only [optPair] at hg
  unfold goodC at hg
  rw [if_neg (by omega)] at hg
  split at hg
  · simp at hg; omega
  · unfold finP at hg
    split at hg
    · rename_i hc
      simp only [Prod.mk.injEq] at hg
      obtain ⟨h1, h2⟩ := hg
      have hn : (sizeR (bt s i)).toNat = n := by omega
      rw [h1, hn] at hc
      exact hc
    · simp at hg; omega
theorem enc_str {s : ByteArray} {i n : Nat} {p : Int} (h : unitO s i = some (p, n)) (hi : i < s.size) : (encS [p]).toList = (s.extract i (i + n)).toList ∧ encE [p] = none := by
  have hg := good_enc h hi
  have hb := good_bytes h hi
  have ha : [p].all isSc = true := by simp [hg.1]
  refine ⟨?_, by unfold encE; rw [if_pos ha]⟩
  unfold encS
  rw [if_pos ha]
  have e : [p].flatMap encP = encP p := by simp
  rw [e, str_eq_iff (encP_byte hg.1) s i n hb.2.2.2.1]
  exact hg.2
section
variable {s : ByteArray} {a : Nat}
theorem next_at (ha : a < s.size) (hB : Begins s 0 a) : nextR s a = some (unitTr s a) := by
  rw [← next_eq]; exact (find_start s a s.size 0 (by omega)).1 ⟨hB, ha⟩
theorem prev_at (ha : a < s.size) (hB : Begins s 0 a) : prevR s ((a : Int) + (unitLen s a : Int)) = some (unitTr s a) := by
  rw [← prev_eq, ← Int.natCast_add]; exact (find_end s (a + unitLen s a) s.size 0 (by omega)).1 a hB ha rfl
theorem next_in (hB : Begins s 0 a) {k : Nat} (h1 : a < k) (h2 : k < a + unitLen s a) : nextR s k = none := by
  rw [← next_eq]
  refine (find_start s k s.size 0 (by omega)).2 (fun h => ?_)
  have := hB.apart h.1 h1
  omega
theorem prev_in (hB : Begins s 0 a) {k : Nat} (h1 : a < k) (h2 : k < a + unitLen s a) : prevR s k = none := by
  rw [← prev_eq]
  refine (find_end s k s.size 0 (by omega)).2 (fun ⟨q, g1, g2, g3⟩ => ?_)
  have hk := ends_begins g2 g1
  rw [g3] at hk
  have := hB.apart hk h1
  omega
theorem next_end : nextR s s.size = none := by unfold nextR; rw [if_pos (Or.inr (Int.le_refl _))]
theorem prev_zero : prevR s 0 = none := by unfold prevR; rw [if_pos (Or.inl (Int.le_refl _))]
end
end Go.Proofs.YtfiahgahphammaaDoor
/- The walk of caesuralaw2.UnitsCover. Conditions: the text's size; the table and the sentinel lie as listed. -/
namespace Go.Proofs.YtfiahgahphammaaDoor
open Go Go.RowKit Go.Proofs.YtfiahgahphammaaDoorW.PrintWords Go.Proofs.YtfiahgahphammaaDoorW.PrintLast Go.Proofs.YtfiahgahphammaaDoorW.PrintMore
attribute [local go_sem high] eqU
set_option maxRecDepth 100000 in
set_option maxHeartbeats 16000000 in
theorem cover_any (S : List Nat) (h1 : 1 ∈ S) (E : Nat → Addr) (s : ByteArray) (w : World) (hg : GS S E w) (hf : FormsAt w) (hs : s.size ≤ 4000000000000) :
    Calls Tryd.prog 11 #[.string s] w fun e w' => e = .returned (.bool true) ∧ Below w.heap.size w w' := by
  have HF := Sh.mk hf
  have HGS := Sh.mk hg
  clear hf hg
  go_enter Tryd.func11, Tryd.ntmps11
  go_wp2_with fail
  refine (first_any w HF.out).mono ?_
  rintro e w1 ⟨rfl, hb1⟩
  have HB1 := Sh.mk hb1
  clear hb1
  go_wp2_with fail
  refine (split_any s w1 (HF.out.below HB1.out) (by omega)).mono ?_
  rintro e w2 ⟨v2, rfl, ho, hb⟩
  obtain ⟨xs, hxs⟩ : ∃ xs, xs = unitsFrom s s.size 0 := ⟨_, rfl⟩
  rw [← hxs] at ho
  obtain ⟨m, hm⟩ : ∃ m, xs.length = m := ⟨_, rfl⟩
  obtain ⟨A, c, rfl, hc, hC⟩ := R_open ho m hm
  have HC := Sh.mk hC
  have HB := Sh.mk (below_of HB1.out hb)
  have HXS := Sh.mk hxs
  have HM := Sh.mk hm
  have hms : m ≤ s.size := by rw [← hm, hxs]; exact unitsFrom_len _ _ _
  clear ho hb hC hxs hm HB1
  go_wp2
  go_loopw [5, 6] (fun va vi wr => ∃ (k f a : Nat) (pre : List (Int × Int × Int)), k ≤ m ∧ vi = .int .i64 k ∧ va = .int .i64 a ∧ Sh (xs = pre ++ unitsFrom s f a) ∧ pre.length = k ∧ s.size ≤ a + f ∧ a ≤ s.size ∧ Sh (Begins s 0 a) ∧ Sh (unitK.C wr A m xs) ∧ Sh (Below w.heap.size w wr)) (fun _ vi _ => m - (intOf vi).toNat)
  case atStart => exact ⟨0, s.size, 0, [], by omega, rfl, rfl, HXS, rfl, by omega, by omega, ⟨Begins.here⟩, HC, HB⟩
  case round =>
    obtain ⟨k, f, a, pre, hk, rfl, rfl, HX, hpl, hfa, has, HBG, HC, HB⟩ := hrel
    by_cases hkm : k < m
    · have hlt : a < s.size := by
        by_cases h : a < s.size
        · exact h
        · exfalso
          have h2 := congrArg List.length HX.out
          have h3 : unitsFrom s f a = [] := by
            cases f with
            | zero => rfl
            | succ f => rw [unitsFrom, if_neg h]
          rw [h3, List.append_nil, HM.out] at h2
          omega
      obtain ⟨f', rfl⟩ : ∃ f', f = f' + 1 := ⟨f - 1, by omega⟩
      obtain ⟨p, hp⟩ : ∃ p, p = unitPt s a := ⟨_, rfl⟩
      obtain ⟨n, hn⟩ : ∃ n, n = unitLen s a := ⟨_, rfl⟩
      have HPL := Sh.mk (show unitPt s a = p ∧ unitLen s a = n from ⟨hp.symm, hn.symm⟩)
      have hul := unitLen_pos s a
      have hend := unit_end hlt
      rw [← hn] at hul hend
      have hst : unitsFrom s (f' + 1) a = (p, (a : Int), (a : Int) + (n : Int)) :: unitsFrom s f' (a + n) := by rw [unitsFrom, if_pos hlt, hp, hn]
      have HX := Sh.mk (HX.out.trans (by rw [hst]))
      have hrd : rdU xs k = (p, (a : Int), (a : Int) + (n : Int)) := by
        rw [HX.out]
        simp only [rdU, List.getD]
        rw [List.getElem?_append_right (by omega), hpl, Nat.sub_self]
        rfl
      have HNX := Sh.mk (next_at hlt HBG.out)
      have HPX := Sh.mk (show prevR s ((a : Int) + (n : Int)) = some (unitTr s a) by rw [hn]; exact prev_at hlt HBG.out)
      obtain ⟨ad, e1, x0, x1, x2⟩ := C_unit HC.out k hkm
      cases e1
      rw [hrd] at x0 x1 x2
      simp only [] at x0 x1 x2
      clear hst hrd hp hn
      obtain ⟨V6, hV6⟩ : ∃ V, V = wr.alloc (.cells #[.int .i64 p, .int .i64 a, .int .i64 (a + n)] 39) := ⟨_, rfl⟩
      obtain ⟨gu, hgu⟩ : ∃ g, g = wr.heap.size := ⟨_, rfl⟩
      have hb6 : Below wr.heap.size wr V6 := by rw [hV6]; exact (Below.refl _ _).alloc (Nat.le_refl _) _
      have HU6 := Sh.mk (show V6.heap[gu]? = some (.cells #[.int .i64 p, .int .i64 a, .int .i64 (a + n)] 39 (0, 0)) by rw [hV6, hgu]; exact blk_new _ _)
      have HC6 := Sh.mk (Kd.C_below HC.out hb6)
      have HB6 := Sh.mk (below_of HB.out hb6)
      have HS6 := Sh.mk (show V6.heap.size = gu + 1 by rw [hV6, hgu, World.size_alloc])
      have HV6 := Sh.mk hV6
      have HGU := Sh.mk hgu
      clear hV6 hgu hb6 HC HB
      have q0 : ((a : Int) == (a : Int)) = true := by simp
      have q1 : decide ((a : Int) + (n : Int) ≤ (a : Int)) = false := by simp; omega
      have q2 : decide ((s.size : Int) < (a : Int) + (n : Int)) = false := by simp; omega
      go_wp2_with fail
      rw [← HV6.out]
      rw [← HGU.out]
      rw [← HS6.out]
      clear x0 x1 x2
      have hlit := lit_C V6 3 .i64 [p] (by simp)
      have hb7 : Below V6.heap.size V6 (V6.alloc (.cells #[.int .i64 p] 3)) := (Below.refl _ _).alloc (Nat.le_refl _) _
      refine (encode_any S h1 E _ 1 1 [p] _ ((HGS.out.below HB6.out).below hb7) hlit (by decide)).mono ?_
      rintro e7 V ⟨rfl, hb⟩
      have HV := Sh.mk (blk_below (blk_below HU6.out hb7) hb)
      have HCV := Sh.mk (Kd.C_below (Kd.C_below HC6.out hb7) hb)
      have HBV := Sh.mk (below_of (below_of HB6.out hb7) hb)
      clear hb hb7 hlit HU6 HC6 HB6 HV6 HGU
      have y0 := blk_cell HV.out 0
      have y1 := blk_cell HV.out 1
      have y2 := blk_cell HV.out 2
      simp only [List.getElem?_toArray, List.getElem?_cons_zero, List.getElem?_cons_succ] at y0 y1 y2
      cases hu : unitO s a with
      | none =>
        have hpn : p = -1 ∧ n = 1 := by rw [← HPL.out.1, ← HPL.out.2]; unfold unitPt unitLen; rw [hu]; exact ⟨rfl, rfl⟩
        have r0 : (p == -1) = true := by simp [hpn.1]
        have r1 : ((a : Int) + (n : Int) == (a : Int) + 1) = true := by simp; omega
        clear hu hpn
        go_wp2_with fail
        refine (next_any s (a : Int) V (HF.out.below HBV.out) (by omega)).mono ?_
        rintro e8 w8 ⟨rfl, hb⟩
        rw [HNX.out]
        simp only [uVal, oU, unitTr, Option.getD_some, Option.isSome_some, HPL.out.1, HPL.out.2]
        have HV8 := Sh.mk (blk_below HV.out hb)
        have HCV8 := Sh.mk (Kd.C_below HCV.out hb)
        have HBV8 := Sh.mk (below_of HBV.out hb)
        clear hb HV HCV HBV y0 y1 y2
        obtain ⟨V9, hV9⟩ : ∃ V9, V9 = w8.alloc (.cells #[.int .i64 p, .int .i64 a, .int .i64 (a + n)] 39) := ⟨_, rfl⟩
        obtain ⟨g11, hg11⟩ : ∃ g, g = w8.heap.size := ⟨_, rfl⟩
        have HV9 := Sh.mk hV9
        have HG11 := Sh.mk hg11
        have hb9 : Below w8.heap.size w8 V9 := by rw [hV9]; exact (Below.refl _ _).alloc (Nat.le_refl _) _
        have H11 := Sh.mk (show V9.heap[g11]? = some (.cells #[.int .i64 p, .int .i64 a, .int .i64 (a + n)] 39 (0, 0)) by rw [hV9, hg11]; exact blk_new _ _)
        have HU9 := Sh.mk (blk_below HV8.out hb9)
        have HC9 := Sh.mk (Kd.C_below HCV8.out hb9)
        have HB9 := Sh.mk (below_of HBV8.out hb9)
        have y0 := blk_cell HV8.out 0
        have y1 := blk_cell HV8.out 1
        have y2 := blk_cell HV8.out 2
        simp only [List.getElem?_toArray, List.getElem?_cons_zero, List.getElem?_cons_succ] at y0 y1 y2
        have hlt8 := blk_lt HV8.out
        clear hV9 hg11 hb9
        go_wp2_with fail
        rw [← HV9.out]
        rw [← HG11.out]
        clear y0 y1 y2 hlt8 HV8 HCV8 HBV8
        refine (prev_any s ((a : Int) + (n : Int)) V9 (HF.out.below HB9.out) (by omega)).mono ?_
        rintro e8 w10 ⟨rfl, hb⟩
        rw [HPX.out]
        simp only [uVal, oU, unitTr, Option.getD_some, Option.isSome_some, HPL.out.1, HPL.out.2]
        have H11a := Sh.mk (blk_below H11.out hb)
        have HUa := Sh.mk (blk_below HU9.out hb)
        have HCa := Sh.mk (Kd.C_below HC9.out hb)
        have HBa := Sh.mk (below_of HB9.out hb)
        clear hb H11 HU9 HC9 HB9
        have y0 := blk_cell HUa.out 0
        have y1 := blk_cell HUa.out 1
        have y2 := blk_cell HUa.out 2
        have v0 := blk_cell H11a.out 0
        have v1 := blk_cell H11a.out 1
        have v2 := blk_cell H11a.out 2
        simp only [List.getElem?_toArray, List.getElem?_cons_zero, List.getElem?_cons_succ] at y0 y1 y2 v0 v1 v2
        have lu := blk_lt HUa.out
        have l11 := blk_lt H11a.out
        have zp : (p == p) = true := by simp
        have za : ((a : Int) == (a : Int)) = true := by simp
        have zn : ((a : Int) + (n : Int) == (a : Int) + (n : Int)) = true := by simp
        have HBb : Sh (∀ o, Below w10.heap.size w10 (w10.alloc o)) := ⟨fun o => (Below.refl _ _).alloc (Nat.le_refl _) o⟩
        go_wp2
        clear y0 y1 y2 v0 v1 v2 lu l11
        have hb := HBb.out (.cells #[.int .i64 p, .int .i64 a, .int .i64 (a + n)] 39)
        generalize w10.alloc (.cells #[.int .i64 p, .int .i64 a, .int .i64 (a + n)] 39) = w11 at hb ⊢
        have HUb := Sh.mk (blk_below HUa.out hb)
        have HCb := Sh.mk (Kd.C_below HCa.out hb)
        have HBc := Sh.mk (below_of HBa.out hb)
        clear hb HUa HCa HBa H11a HBb
        go_loopw [15] (fun vk wr => ∃ d : Nat, 1 ≤ d ∧ d ≤ n ∧ vk = .int .i64 ((a + d : Nat) : Int) ∧ Sh (wr.heap[gu]? = some (.cells #[.int .i64 p, .int .i64 a, .int .i64 (a + n)] 39 (0, 0))) ∧ Sh (unitK.C wr (some ad) m xs) ∧ Sh (Below w.heap.size w wr)) (fun vk _ => a + n - (intOf vk).toNat)
        case atStart => exact ⟨1, by omega, by omega, by rw [Int.natCast_add]; rfl, HUb, HCb, HBc⟩
        case round =>
          obtain ⟨d, hd1, hd2, rfl, HU, HC, HB⟩ := hrel
          obtain ⟨k2, hk2⟩ : ∃ k2, k2 = a + d := ⟨_, rfl⟩
          rw [← hk2]
          have y2 := blk_cell HU.out 2
          simp only [List.getElem?_toArray, List.getElem?_cons_zero, List.getElem?_cons_succ] at y2
          by_cases hdn : d < n
          · have l9 : decide ((k2 : Int) < (a : Int) + (n : Int)) = true := by simp; omega
            have HN1 := Sh.mk (next_in HBG.out (k := k2) (by omega) (by rw [HPL.out.2]; omega))
            have HN2 := Sh.mk (prev_in HBG.out (k := k2) (by omega) (by rw [HPL.out.2]; omega))
            have HK2 := Sh.mk hk2
            have hkb : k2 ≤ s.size := by omega
            clear hk2
            go_wp2_with fail
            refine (next_any s (k2 : Int) wr (HF.out.below HB.out) (by omega)).mono ?_
            rintro e8 w12 ⟨rfl, hb⟩
            rw [HN1.out]
            simp only [uVal, oU, Option.getD_none, Option.isSome_none]
            have HU1 := Sh.mk (blk_below HU.out hb)
            have HC1 := Sh.mk (Kd.C_below HC.out hb)
            have HB1 := Sh.mk (below_of HB.out hb)
            clear hb HU HC HB y2
            obtain ⟨V13, hV13⟩ : ∃ V, V = w12.alloc (.cells #[.int .i64 0, .int .i64 0, .int .i64 0] 39) := ⟨_, rfl⟩
            have hb13 : Below w12.heap.size w12 V13 := by rw [hV13]; exact (Below.refl _ _).alloc (Nat.le_refl _) _
            have HU2 := Sh.mk (blk_below HU1.out hb13)
            have HC2 := Sh.mk (Kd.C_below HC1.out hb13)
            have HB2 := Sh.mk (below_of HB1.out hb13)
            have HV13 := Sh.mk hV13
            clear hV13 hb13
            go_wp2_with fail
            rw [← HV13.out]
            clear HU1 HC1 HB1
            refine (prev_any s (k2 : Int) V13 (HF.out.below HB2.out) (by omega)).mono ?_
            rintro e8 w14 ⟨rfl, hb⟩
            rw [HN2.out]
            simp only [uVal, oU, Option.getD_none, Option.isSome_none]
            have hb2 : Below w14.heap.size w14 (w14.alloc (.cells #[.int .i64 0, .int .i64 0, .int .i64 0] 39)) := (Below.refl _ _).alloc (Nat.le_refl _) _
            have HU3 := Sh.mk (blk_below (blk_below HU2.out hb) hb2)
            have HC3 := Sh.mk (Kd.C_below (Kd.C_below HC2.out hb) hb2)
            have HB3 := Sh.mk (below_of (below_of HB2.out hb) hb2)
            clear hb hb2 HU2 HC2 HB2
            go_wp2
            go_roundw
            case rel => exact ⟨d + 1, by omega, by omega, by have := HK2.out; subst this; go_num, HU3, HC3, HB3⟩
            case measure => have := HK2.out; simp [intOf]; omega
          · obtain rfl : d = n := by omega
            have l9 : decide ((k2 : Int) < (a : Int) + (d : Int)) = false := by simp; omega
            go_wp2
            go_roundw
            case rel => exact ⟨k + 1, f', a + d, pre ++ [(p, (a : Int), (a : Int) + (d : Int))], by omega, by go_num, by rw [Int.natCast_add], ⟨by rw [List.append_assoc]; exact HX.out⟩, by rw [List.length_append, hpl]; rfl, by omega, by omega, ⟨by have := HBG.out.next hlt; rwa [HPL.out.2] at this⟩, HC, HB⟩
            case measure => simp [intOf]; omega
      | some x =>
        obtain ⟨p', n'⟩ := x
        have hpn : p = p' ∧ n = n' := by rw [← HPL.out.1, ← HPL.out.2]; unfold unitPt unitLen; rw [hu]; exact ⟨rfl, rfl⟩
        obtain ⟨rfl, rfl⟩ := hpn
        have hg0 := (good_bytes hu hlt).1
        have HES := Sh.mk (enc_str hu hlt)
        have r0 : (p == -1) = false := by simp; omega
        rw [HES.out.2]
        simp only [errV]
        have hsl1 : (a : Int) ≤ (a : Int) + (n : Int) := by omega
        have hsl2 : (a : Int) + (n : Int) ≤ (s.size : Int) := by omega
        have hsl3 : ((a : Int) + (n : Int)).toNat = a + n := by omega
        have r2 : ((encS [p]).toList == (s.extract a (a + n)).toList) = true := by rw [HES.out.1]; simp
        clear hu
        go_wp2_with fail
        refine (next_any s (a : Int) V (HF.out.below HBV.out) (by omega)).mono ?_
        rintro e8 w8 ⟨rfl, hb⟩
        rw [HNX.out]
        simp only [uVal, oU, unitTr, Option.getD_some, Option.isSome_some, HPL.out.1, HPL.out.2]
        have HV8 := Sh.mk (blk_below HV.out hb)
        have HCV8 := Sh.mk (Kd.C_below HCV.out hb)
        have HBV8 := Sh.mk (below_of HBV.out hb)
        clear hb HV HCV HBV y0 y1 y2
        obtain ⟨V9, hV9⟩ : ∃ V9, V9 = w8.alloc (.cells #[.int .i64 p, .int .i64 a, .int .i64 (a + n)] 39) := ⟨_, rfl⟩
        obtain ⟨g11, hg11⟩ : ∃ g, g = w8.heap.size := ⟨_, rfl⟩
        have HV9 := Sh.mk hV9
        have HG11 := Sh.mk hg11
        have hb9 : Below w8.heap.size w8 V9 := by rw [hV9]; exact (Below.refl _ _).alloc (Nat.le_refl _) _
        have H11 := Sh.mk (show V9.heap[g11]? = some (.cells #[.int .i64 p, .int .i64 a, .int .i64 (a + n)] 39 (0, 0)) by rw [hV9, hg11]; exact blk_new _ _)
        have HU9 := Sh.mk (blk_below HV8.out hb9)
        have HC9 := Sh.mk (Kd.C_below HCV8.out hb9)
        have HB9 := Sh.mk (below_of HBV8.out hb9)
        have y0 := blk_cell HV8.out 0
        have y1 := blk_cell HV8.out 1
        have y2 := blk_cell HV8.out 2
        simp only [List.getElem?_toArray, List.getElem?_cons_zero, List.getElem?_cons_succ] at y0 y1 y2
        have hlt8 := blk_lt HV8.out
        clear hV9 hg11 hb9
        go_wp2_with fail
        rw [← HV9.out]
        rw [← HG11.out]
        clear y0 y1 y2 hlt8 HV8 HCV8 HBV8
        refine (prev_any s ((a : Int) + (n : Int)) V9 (HF.out.below HB9.out) (by omega)).mono ?_
        rintro e8 w10 ⟨rfl, hb⟩
        rw [HPX.out]
        simp only [uVal, oU, unitTr, Option.getD_some, Option.isSome_some, HPL.out.1, HPL.out.2]
        have H11a := Sh.mk (blk_below H11.out hb)
        have HUa := Sh.mk (blk_below HU9.out hb)
        have HCa := Sh.mk (Kd.C_below HC9.out hb)
        have HBa := Sh.mk (below_of HB9.out hb)
        clear hb H11 HU9 HC9 HB9
        have y0 := blk_cell HUa.out 0
        have y1 := blk_cell HUa.out 1
        have y2 := blk_cell HUa.out 2
        have v0 := blk_cell H11a.out 0
        have v1 := blk_cell H11a.out 1
        have v2 := blk_cell H11a.out 2
        simp only [List.getElem?_toArray, List.getElem?_cons_zero, List.getElem?_cons_succ] at y0 y1 y2 v0 v1 v2
        have lu := blk_lt HUa.out
        have l11 := blk_lt H11a.out
        have zp : (p == p) = true := by simp
        have za : ((a : Int) == (a : Int)) = true := by simp
        have zn : ((a : Int) + (n : Int) == (a : Int) + (n : Int)) = true := by simp
        have HBb : Sh (∀ o, Below w10.heap.size w10 (w10.alloc o)) := ⟨fun o => (Below.refl _ _).alloc (Nat.le_refl _) o⟩
        go_wp2
        clear y0 y1 y2 v0 v1 v2 lu l11
        have hb := HBb.out (.cells #[.int .i64 p, .int .i64 a, .int .i64 (a + n)] 39)
        generalize w10.alloc (.cells #[.int .i64 p, .int .i64 a, .int .i64 (a + n)] 39) = w11 at hb ⊢
        have HUb := Sh.mk (blk_below HUa.out hb)
        have HCb := Sh.mk (Kd.C_below HCa.out hb)
        have HBc := Sh.mk (below_of HBa.out hb)
        clear hb HUa HCa HBa H11a HBb
        go_loopw [15] (fun vk wr => ∃ d : Nat, 1 ≤ d ∧ d ≤ n ∧ vk = .int .i64 ((a + d : Nat) : Int) ∧ Sh (wr.heap[gu]? = some (.cells #[.int .i64 p, .int .i64 a, .int .i64 (a + n)] 39 (0, 0))) ∧ Sh (unitK.C wr (some ad) m xs) ∧ Sh (Below w.heap.size w wr)) (fun vk _ => a + n - (intOf vk).toNat)
        case atStart => exact ⟨1, by omega, by omega, by rw [Int.natCast_add]; rfl, HUb, HCb, HBc⟩
        case round =>
          obtain ⟨d, hd1, hd2, rfl, HU, HC, HB⟩ := hrel
          obtain ⟨k2, hk2⟩ : ∃ k2, k2 = a + d := ⟨_, rfl⟩
          rw [← hk2]
          have y2 := blk_cell HU.out 2
          simp only [List.getElem?_toArray, List.getElem?_cons_zero, List.getElem?_cons_succ] at y2
          by_cases hdn : d < n
          · have l9 : decide ((k2 : Int) < (a : Int) + (n : Int)) = true := by simp; omega
            have HN1 := Sh.mk (next_in HBG.out (k := k2) (by omega) (by rw [HPL.out.2]; omega))
            have HN2 := Sh.mk (prev_in HBG.out (k := k2) (by omega) (by rw [HPL.out.2]; omega))
            have HK2 := Sh.mk hk2
            have hkb : k2 ≤ s.size := by omega
            clear hk2
            go_wp2_with fail
            refine (next_any s (k2 : Int) wr (HF.out.below HB.out) (by omega)).mono ?_
            rintro e8 w12 ⟨rfl, hb⟩
            rw [HN1.out]
            simp only [uVal, oU, Option.getD_none, Option.isSome_none]
            have HU1 := Sh.mk (blk_below HU.out hb)
            have HC1 := Sh.mk (Kd.C_below HC.out hb)
            have HB1 := Sh.mk (below_of HB.out hb)
            clear hb HU HC HB y2
            obtain ⟨V13, hV13⟩ : ∃ V, V = w12.alloc (.cells #[.int .i64 0, .int .i64 0, .int .i64 0] 39) := ⟨_, rfl⟩
            have hb13 : Below w12.heap.size w12 V13 := by rw [hV13]; exact (Below.refl _ _).alloc (Nat.le_refl _) _
            have HU2 := Sh.mk (blk_below HU1.out hb13)
            have HC2 := Sh.mk (Kd.C_below HC1.out hb13)
            have HB2 := Sh.mk (below_of HB1.out hb13)
            have HV13 := Sh.mk hV13
            clear hV13 hb13
            go_wp2_with fail
            rw [← HV13.out]
            clear HU1 HC1 HB1
            refine (prev_any s (k2 : Int) V13 (HF.out.below HB2.out) (by omega)).mono ?_
            rintro e8 w14 ⟨rfl, hb⟩
            rw [HN2.out]
            simp only [uVal, oU, Option.getD_none, Option.isSome_none]
            have hb2 : Below w14.heap.size w14 (w14.alloc (.cells #[.int .i64 0, .int .i64 0, .int .i64 0] 39)) := (Below.refl _ _).alloc (Nat.le_refl _) _
            have HU3 := Sh.mk (blk_below (blk_below HU2.out hb) hb2)
            have HC3 := Sh.mk (Kd.C_below (Kd.C_below HC2.out hb) hb2)
            have HB3 := Sh.mk (below_of (below_of HB2.out hb) hb2)
            clear hb hb2 HU2 HC2 HB2
            go_wp2
            go_roundw
            case rel => exact ⟨d + 1, by omega, by omega, by have := HK2.out; subst this; go_num, HU3, HC3, HB3⟩
            case measure => have := HK2.out; simp [intOf]; omega
          · obtain rfl : d = n := by omega
            have l9 : decide ((k2 : Int) < (a : Int) + (d : Int)) = false := by simp; omega
            go_wp2
            go_roundw
            case rel => exact ⟨k + 1, f', a + d, pre ++ [(p, (a : Int), (a : Int) + (d : Int))], by omega, by go_num, by rw [Int.natCast_add], ⟨by rw [List.append_assoc]; exact HX.out⟩, by rw [List.length_append, hpl]; rfl, by omega, by omega, ⟨by have := HBG.out.next hlt; rwa [HPL.out.2] at this⟩, HC, HB⟩
            case measure => simp [intOf]; omega
    · have hae : a = s.size := by
        by_cases h : a < s.size
        · exfalso
          obtain ⟨f', rfl⟩ : ∃ f', f = f' + 1 := ⟨f - 1, by omega⟩
          have h2 := congrArg List.length HX.out
          rw [unitsFrom, if_pos h, List.length_append, List.length_cons, HM.out] at h2
          omega
        · omega
      subst hae
      have qz : ((s.size : Int) == (s.size : Int)) = true := by simp
      go_wp2_with fail
      refine (next_any s (s.size : Int) wr (HF.out.below HB.out) (by omega)).mono ?_
      rintro e8 w12 ⟨rfl, hb⟩
      rw [next_end]
      simp only [uVal, oU, Option.getD_none, Option.isSome_none]
      have HB1 := Sh.mk (below_of HB.out hb)
      clear hb HB
      obtain ⟨V13, hV13⟩ : ∃ V, V = w12.alloc (.cells #[.int .i64 0, .int .i64 0, .int .i64 0] 39) := ⟨_, rfl⟩
      have HB2 := Sh.mk (show Below w.heap.size w V13 by rw [hV13]; exact HB1.out.alloc HB1.out.size _)
      have HV13 := Sh.mk hV13
      clear hV13
      go_wp2_with fail
      rw [← HV13.out]
      refine (prev_any s 0 V13 (HF.out.below HB2.out) (by omega)).mono ?_
      rintro e8 w14 ⟨rfl, hb⟩
      rw [prev_zero]
      simp only [uVal, oU, Option.getD_none, Option.isSome_none]
      have HB3 := Sh.mk (below_of HB2.out hb)
      have HB4 : Sh (∀ o, Below w.heap.size w (w14.alloc o)) := ⟨fun o => HB3.out.alloc HB3.out.size o⟩
      clear hb
      go_wp2
      go_ret
      exact ⟨rfl, HB4.out _⟩
end Go.Proofs.YtfiahgahphammaaDoor
