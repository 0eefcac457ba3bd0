/-
The document's ranges: MayBe, put, ordered, normal, not, both, and what is built of them. Conditions: lists of at most 2^22 ranges.
-/
import Derived.Test.YthjdjgppghplgaaDoorRgAsk
import Derived.Test.YthjdjgppghplgaaDoorRgA5
namespace Go.Proofs.YthjdjgppghplgaaDoor
open Go Go.RowKit Go.Proofs.YthjdjgppghplgaaDoorW.PrintWords Go.Proofs.YthjdjgppghplgaaDoorW.PrintLast Go.Proofs.YthjdjgppghplgaaDoorW.PrintMore
open Go.Proofs.YthjdjgppghplgaaDoor.PRangesAnswers
theorem maybe_l0 (l : List Rg) (hl : l.length ≤ 1073741824) : ∀ (d i : Nat) (k : Nat), i + d = l.length → d < k → caesuraref3_MayBe.l0 k (toS l) (i : Int) = some (mayL (l.drop i)) := by
  intro d
  induction d with
  | zero =>
    intro i k hi hk
    obtain ⟨k, rfl⟩ : ∃ m, k = m + 1 := ⟨k - 1, by omega⟩
    simp only [caesuraref3_MayBe.l0]
    rw [if_neg (by rw [toS_len]; omega), List.drop_eq_nil_of_le (by omega)]
    rfl
  | succ d ih =>
    intro i k hi hk
    obtain ⟨k, rfl⟩ : ∃ m, k = m + 1 := ⟨k - 1, by omega⟩
    simp only [caesuraref3_MayBe.l0]
    rw [if_pos (by rw [toS_len]; omega), if_pos (by omega), rd_toS, may_step l i (by omega)]
    dsimp only
    unfold okR
    by_cases h1 : (rdR l i).1 < 0
    · rw [if_pos h1, decide_eq_false (by omega)]; rfl
    · by_cases h2 : (rdR l i).2 > 1114111
      · rw [if_neg h1, if_pos h2, decide_eq_false (by omega)]; rfl
      · by_cases h3 : (rdR l i).1 > (rdR l i).2
        · rw [if_neg h1, if_neg h2, if_pos h3, decide_eq_false (by omega)]; rfl
        · rw [if_neg h1, if_neg h2, if_neg h3, decide_eq_true (by omega), w64 (by omega) (by omega), Bool.true_and]
          exact ih (i + 1) k (by omega) (by omega)
theorem maybe_f (l : List Rg) (hl : l.length ≤ 1073741824) (k : Nat) (hk : l.length < k) : caesuraref3_MayBe.f k (toS l) = some (mayL l) := by
  unfold caesuraref3_MayBe.f
  exact maybe_l0 l hl l.length 0 k (by omega) hk
theorem toS_append (l m : List Rg) : toS (l ++ m) = toS l ++ toS m := by simp [toS]
theorem toS_one (a b : Int) : toS [(a, b)] = [⟨a, b⟩] := rfl
theorem take_rd (l : List Rg) (i : Nat) (h : i < l.length) : l.take (i + 1) = l.take i ++ [((rdR l i).1, (rdR l i).2)] := by
  have e : rdR l i = l[i] := by simp [rdR, List.getD, h]
  rw [List.take_succ_eq_append_getElem h, e]
theorem drop_rd (l : List Rg) (i : Nat) (h : i < l.length) : l.drop i = ((rdR l i).1, (rdR l i).2) :: l.drop (i + 1) := by
  have e : rdR l i = l[i] := by simp [rdR, List.getD, h]
  rw [List.drop_eq_getElem_cons h, e]
/-- A range put among others, behind those that begin no later. -/
def insR : List Rg → Rg → List Rg
  | [], x => [x]
  | r :: l, x => if r.1 > x.1 then x :: r :: l else r :: insR l x
theorem insR_len (l : List Rg) (x : Rg) : (insR l x).length = l.length + 1 := by
  induction l with
  | nil => rfl
  | cons r l ih => rw [insR]; split <;> simp [ih]
theorem insR_perm (l : List Rg) (x : Rg) : (insR l x).Perm (x :: l) := by
  induction l with
  | nil => exact List.Perm.refl _
  | cons r l ih =>
    rw [insR]
    split
    · exact List.Perm.refl _
    · exact (List.Perm.cons r ih).trans (List.Perm.swap x r l)
def Asc (l : List Rg) : Prop := l.Pairwise fun a b => a.1 ≤ b.1
theorem insR_asc (l : List Rg) (x : Rg) (h : Asc l) : Asc (insR l x) := by
  induction l with
  | nil => exact List.pairwise_singleton _ _
  | cons r l ih =>
    have h' := List.pairwise_cons.1 h
    rw [insR]
    split
    · rename_i hgt
      refine List.pairwise_cons.2 ⟨fun b hb => ?_, h⟩
      rcases List.mem_cons.1 hb with rfl | hb
      · omega
      · have := h'.1 b hb; omega
    · rename_i hle
      refine List.pairwise_cons.2 ⟨fun b hb => ?_, ih h'.2⟩
      rcases List.mem_cons.1 ((insR_perm l x).mem_iff.1 hb) with rfl | hb
      · omega
      · exact h'.1 b hb
theorem put_done (l : List Rg) (a b : Int) (hl : l.length ≤ 8388608) : ∀ (d i : Nat) (k : Nat) (out : List Rg), i + d = l.length → d < k → out.length + d ≤ 33554432 → caesuraref3_put.l0 k (toS l) (toS out) true (i : Int) a b = some (toS (out ++ l.drop i)) := by
  intro d
  induction d with
  | zero =>
    intro i k out hi hk ho
    obtain ⟨k, rfl⟩ : ∃ m, k = m + 1 := ⟨k - 1, by omega⟩
    simp only [caesuraref3_put.l0]
    rw [if_neg (by rw [toS_len]; omega), if_pos trivial, List.drop_eq_nil_of_le (by omega), List.append_nil]
  | succ d ih =>
    intro i k out hi hk ho
    obtain ⟨k, rfl⟩ : ∃ m, k = m + 1 := ⟨k - 1, by omega⟩
    simp only [caesuraref3_put.l0]
    rw [if_pos (by rw [toS_len]; omega), if_pos trivial, if_pos (by omega), if_pos (by rw [toS_len]; omega), rd_toS, w64 (by omega) (by omega), drop_rd l i (by omega)]
    have e : toS out ++ [(⟨(rdR l i).1, (rdR l i).2⟩ : S35)] = toS (out ++ [((rdR l i).1, (rdR l i).2)]) := by rw [toS_append]; rfl
    dsimp only
    rw [e]
    have := ih (i + 1) k (out ++ [((rdR l i).1, (rdR l i).2)]) (by omega) (by omega) (by simp; omega)
    rw [show ((i + 1 : Nat) : Int) = (i : Int) + 1 from rfl] at this
    rw [this, List.append_assoc]
    rfl
theorem put_l0 (l : List Rg) (a b : Int) (hl : l.length ≤ 8388608) : ∀ (d i : Nat) (k : Nat) (out : List Rg), i + d = l.length → d < k → out.length + d ≤ 16777216 → caesuraref3_put.l0 k (toS l) (toS out) false (i : Int) a b = some (toS (out ++ insR (l.drop i) (a, b))) := by
  intro d
  induction d with
  | zero =>
    intro i k out hi hk ho
    obtain ⟨k, rfl⟩ : ∃ m, k = m + 1 := ⟨k - 1, by omega⟩
    simp only [caesuraref3_put.l0]
    rw [if_neg (by rw [toS_len]; omega), if_neg (by simp), if_pos (by rw [toS_len]; omega), List.drop_eq_nil_of_le (by omega), insR, toS_append]
    rfl
  | succ d ih =>
    intro i k out hi hk ho
    obtain ⟨k, rfl⟩ : ∃ m, k = m + 1 := ⟨k - 1, by omega⟩
    simp only [caesuraref3_put.l0]
    rw [if_pos (by rw [toS_len]; omega), if_neg (by simp), if_pos (by omega), rd_toS, w64 (by omega) (by omega), drop_rd l i (by omega), insR]
    dsimp only
    by_cases hgt : (rdR l i).1 > a
    · rw [if_pos hgt, if_pos hgt, if_pos (by rw [toS_len]; omega), Option.bind_some, if_pos (by rw [List.length_append, toS_len]; simp; omega)]
      have e : toS out ++ [(⟨a, b⟩ : S35)] ++ [(⟨(rdR l i).1, (rdR l i).2⟩ : S35)] = toS (out ++ [(a, b), ((rdR l i).1, (rdR l i).2)]) := by rw [toS_append, List.append_assoc]; rfl
      rw [e]
      have := put_done l a b hl d (i + 1) k (out ++ [(a, b), ((rdR l i).1, (rdR l i).2)]) (by omega) (by omega) (by simp; omega)
      rw [show ((i + 1 : Nat) : Int) = (i : Int) + 1 from rfl] at this
      rw [this, List.append_assoc]
      rfl
    · rw [if_neg hgt, if_neg hgt, if_pos (by rw [toS_len]; omega)]
      have e : toS out ++ [(⟨(rdR l i).1, (rdR l i).2⟩ : S35)] = toS (out ++ [((rdR l i).1, (rdR l i).2)]) := by rw [toS_append]; rfl
      rw [e]
      have := ih (i + 1) k (out ++ [((rdR l i).1, (rdR l i).2)]) (by omega) (by omega) (by simp; omega)
      rw [show ((i + 1 : Nat) : Int) = (i : Int) + 1 from rfl] at this
      rw [this, List.append_assoc]
      rfl
theorem put_f (l : List Rg) (a b : Int) (hl : l.length ≤ 8388608) (k : Nat) (hk : l.length < k) : caesuraref3_put.f k (toS l) a b = some (toS (insR l (a, b))) := by
  unfold caesuraref3_put.f
  exact put_l0 l a b hl l.length 0 k [] (by omega) hk (by simp; omega)
theorem asc_snoc (l : List Rg) (x : Rg) (h : Asc l) (hx : ∀ y, y ∈ l → y.1 ≤ x.1) : Asc (l ++ [x]) := by
  unfold Asc
  rw [List.pairwise_append]
  exact ⟨h, List.pairwise_singleton _ _, fun a ha b hb => by rw [List.mem_singleton.1 hb]; exact hx a ha⟩
theorem asc_last (l : List Rg) (h : Asc l) (hn : 0 < l.length) : ∀ y, y ∈ l → y.1 ≤ (rdR l (l.length - 1)).1 := by
  intro y hy
  obtain ⟨i, hi, rfl⟩ := List.mem_iff_getElem.1 hy
  have e : rdR l (l.length - 1) = l[l.length - 1] := by simp [rdR, List.getD, show l.length - 1 < l.length by omega]
  rw [e]
  by_cases h1 : i = l.length - 1
  · subst h1; exact Int.le_refl _
  · exact List.pairwise_iff_getElem.1 h i (l.length - 1) hi (by omega) (by omega)
theorem ordered_l0 (l : List Rg) (hl : l.length ≤ 4194304) : ∀ (d i : Nat) (k : Nat) (out : List Rg), i + d = l.length → d + l.length + 1 < k → out.length = i → Asc out → out.Perm (l.take i) → ∃ r, caesuraref3_ordered.l0 k (toS l) (toS out) (i : Int) = some (toS r) ∧ Asc r ∧ r.Perm l := by
  intro d
  induction d with
  | zero =>
    intro i k out hi hk ho ha hp
    obtain ⟨k, rfl⟩ : ∃ m, k = m + 1 := ⟨k - 1, by omega⟩
    simp only [caesuraref3_ordered.l0]
    rw [if_neg (by rw [toS_len]; omega)]
    rw [List.take_of_length_le (by omega)] at hp
    exact ⟨out, rfl, ha, hp⟩
  | succ d ih =>
    intro i k out hi hk ho ha hp
    obtain ⟨k, rfl⟩ : ∃ m, k = m + 1 := ⟨k - 1, by omega⟩
    simp only [caesuraref3_ordered.l0]
    have e1 : wrap64 ((i : Int) + 1) = ((i + 1 : Nat) : Int) := by rw [w64 (by omega) (by omega)]; rfl
    have hsn : toS out ++ [(⟨(rdR l i).1, (rdR l i).2⟩ : S35)] = toS (out ++ [((rdR l i).1, (rdR l i).2)]) := by rw [toS_append]; rfl
    have hpt : (out ++ [((rdR l i).1, (rdR l i).2)]).Perm (l.take (i + 1)) := by rw [take_rd l i (by omega)]; exact hp.append_right _
    rw [if_pos (by rw [toS_len]; omega)]
    by_cases h0 : out.length = 0
    · rw [if_pos (by rw [toS_len]; omega), if_pos (by omega), if_pos (by rw [toS_len]; omega), rd_toS]
      dsimp only
      rw [hsn, e1]
      exact ih (i + 1) k _ (by omega) (by omega) (by simp; omega) (asc_snoc out _ ha (fun y hy => by rw [List.length_eq_zero_iff.1 h0] at hy; simp at hy)) hpt
    · have e2 : wrap64 (((toS out).length : Int) - 1) = ((out.length - 1 : Nat) : Int) := by rw [toS_len, w64 (by omega) (by omega)]; omega
      rw [if_neg (by rw [toS_len]; omega), e2, if_pos (by omega), if_pos (by rw [toS_len]; omega), if_pos (by omega), rd_toS, rd_toS]
      dsimp only
      by_cases hle : (rdR out (out.length - 1)).1 ≤ (rdR l i).1
      · rw [if_pos hle, if_pos (by rw [toS_len]; omega), hsn, e1]
        exact ih (i + 1) k _ (by omega) (by omega) (by simp; omega) (asc_snoc out _ ha (fun y hy => Int.le_trans (asc_last out ha (by omega) y hy) hle)) hpt
      · rw [if_neg hle, put_f out _ _ (by omega) k (by omega), Option.bind_some, e1]
        refine ih (i + 1) k _ (by omega) (by omega) (by rw [insR_len]; omega) (insR_asc _ _ ha) ?_
        exact (insR_perm _ _).trans ((List.perm_append_singleton _ _).symm.trans hpt)
theorem ordered_f (l : List Rg) (hl : l.length ≤ 4194304) (k : Nat) (hk : 2 * l.length + 1 < k) : ∃ r, caesuraref3_ordered.f k (toS l) = some (toS r) ∧ Asc r ∧ r.Perm l := by
  unfold caesuraref3_ordered.f
  exact ordered_l0 l hl l.length 0 k [] (by omega) (by omega) rfl List.Pairwise.nil (List.Perm.refl _)
theorem perm_in {l m : List Rg} (h : l.Perm m) (p : Int) : inL l p = inL m p := by
  rw [Bool.eq_iff_iff, inL_iff, inL_iff]
  constructor
  · rintro ⟨r, hr, h1⟩; exact ⟨r, h.mem_iff.1 hr, h1⟩
  · rintro ⟨r, hr, h1⟩; exact ⟨r, h.mem_iff.2 hr, h1⟩
theorem perm_may {l m : List Rg} (h : l.Perm m) (hm : mayL m = true) : mayL l = true := by
  unfold mayL at *
  rw [List.all_eq_true] at *
  exact fun r hr => hm r (h.mem_iff.1 hr)
theorem rd_last (l : List Rg) (r : Rg) : rdR (l ++ [r]) l.length = r := by simp [rdR]
theorem asc_rest {l : List Rg} (h : Asc l) {i j : Nat} (hij : i < j) (hj : j < l.length) : (rdR l i).1 ≤ (rdR l j).1 := by
  have e1 : rdR l i = l[i] := by simp [rdR, List.getD, show i < l.length by omega]
  have e2 : rdR l j = l[j] := by simp [rdR, List.getD, hj]
  rw [e1, e2]
  exact List.pairwise_iff_getElem.1 h i j (by omega) hj hij
/-- What the merging loop keeps. -/
structure Mg (l : List Rg) (i : Nat) (out : List Rg) : Prop where
  nm : Nm 0 out
  pts : ∀ p, inL out p = inL (l.take i) p
  low : ∀ m r, out = m ++ [r] → ∃ j, j < i ∧ r.1 ≤ (rdR l j).1
  len : out.length ≤ i
theorem Mg.push {l : List Rg} {i : Nat} {out : List Rg} (h : Mg l i out) (hi : i < l.length) (hm : mayL l = true) (hl : ∀ m r, out = m ++ [r] → r.2 + 2 ≤ (rdR l i).1) : Mg l (i + 1) (out ++ [((rdR l i).1, (rdR l i).2)]) := by
  have ho := okR_of hm hi
  refine ⟨?_, fun p => ?_, fun m r e => ?_, by simp; exact h.len⟩
  · rw [nm_append]
    refine ⟨h.nm, ?_, ho.2.2, ho.2.1, trivial⟩
    rcases List.eq_nil_or_concat out with rfl | ⟨m, r, rfl⟩
    · exact ho.1
    · rw [List.concat_eq_append, endN_snoc]
      exact hl m r (List.concat_eq_append)
  · rw [inL_append, h.pts, take_rd l i hi, inL_append]
  · obtain ⟨_, e2⟩ := List.append_inj' e rfl
    cases e2
    exact ⟨i, by omega, Int.le_refl _⟩
theorem Mg.grow {l : List Rg} {i : Nat} {m : List Rg} {r : Rg} (h : Mg l i (m ++ [r])) (hi : i < l.length) (hm : mayL l = true) (ha : Asc l) (hle : (rdR l i).1 ≤ r.2 + 1) (hgt : (rdR l i).2 > r.2) : Mg l (i + 1) (m ++ [(r.1, (rdR l i).2)]) := by
  have ho := okR_of hm hi
  obtain ⟨j, hj, hlow⟩ := h.low m r rfl
  have hasc := asc_rest ha hj hi
  have hn := (nm_append m [r] 0).1 h.nm
  refine ⟨?_, fun p => ?_, fun m' r' e => ?_, by have := h.len; simp at this ⊢; omega⟩
  · rw [nm_append]
    exact ⟨hn.1, hn.2.1, by show r.1 ≤ (rdR l i).2; omega, ho.2.1, trivial⟩
  · rw [take_rd l i hi, inL_append, inL_append, ← h.pts, inL_append, inL_cons, inL_cons, inL_cons, inL_nil, Bool.or_false, Bool.or_false, Bool.or_false, Bool.or_assoc]
    congr 1
    rw [Bool.eq_iff_iff]
    simp only [Bool.or_eq_true, decide_eq_true_eq]
    have := hn.2.2.1
    omega
  · obtain ⟨_, e2⟩ := List.append_inj' e rfl
    cases e2
    exact ⟨j, by omega, hlow⟩
theorem Mg.skip {l : List Rg} {i : Nat} {m : List Rg} {r : Rg} (h : Mg l i (m ++ [r])) (hi : i < l.length) (ha : Asc l) (hgt : ¬ (rdR l i).2 > r.2) : Mg l (i + 1) (m ++ [r]) := by
  obtain ⟨j, hj, hlow⟩ := h.low m r rfl
  have hasc := asc_rest ha hj hi
  refine ⟨h.nm, fun p => ?_, fun m' r' e => ?_, by have := h.len; omega⟩
  · rw [take_rd l i hi, inL_append (l.take i), ← h.pts, inL_append m, inL_cons, inL_cons, inL_nil, Bool.or_false, Bool.or_false, Bool.or_assoc]
    congr 1
    rw [Bool.eq_iff_iff]
    simp only [Bool.or_eq_true, decide_eq_true_eq]
    omega
  · obtain ⟨_, e2⟩ := List.append_inj' e rfl
    cases e2
    exact ⟨j, by omega, hlow⟩
theorem normal_l0 (l : List Rg) (hl : l.length ≤ 4194304) (hm : mayL l = true) (ha : Asc l) : ∀ (d i : Nat) (k : Nat) (out : List Rg), i + d = l.length → 2 * d < k → Mg l i out → ∃ r, caesuraref3_normal.l0 k (toS l) (toS out) (i : Int) = some (toS r) ∧ Mg l l.length r := by
  intro d
  induction d with
  | zero =>
    intro i k out hi hk h
    obtain ⟨k, rfl⟩ : ∃ m, k = m + 1 := ⟨k - 1, by omega⟩
    simp only [caesuraref3_normal.l0]
    rw [if_neg (by rw [toS_len]; omega)]
    obtain rfl : i = l.length := by omega
    exact ⟨out, rfl, h⟩
  | succ d ih =>
    intro i k out hi hk h
    obtain ⟨k, rfl⟩ : ∃ m, k = m + 1 + 1 := ⟨k - 2, by omega⟩
    have e1 : wrap64 ((i : Int) + 1) = ((i + 1 : Nat) : Int) := by rw [w64 (by omega) (by omega)]; rfl
    have hlen := h.len
    have ho := okR_of hm (i := i) (by omega)
    have hsn : toS out ++ [(⟨(rdR l i).1, (rdR l i).2⟩ : S35)] = toS (out ++ [((rdR l i).1, (rdR l i).2)]) := by rw [toS_append]; rfl
    rcases List.eq_nil_or_concat out with rfl | ⟨m, r, rfl⟩
    · simp only [caesuraref3_normal.l0]
      rw [if_pos (by rw [toS_len]; omega), if_neg (by rw [toS_len]; simp)]
      simp only [caesuraref3_normal.j1]
      rw [if_neg (by simp), if_pos (by omega), if_pos (by rw [toS_len]; omega), if_pos (by rw [toS_len]; simp), rd_toS]
      dsimp only
      rw [hsn, e1]
      exact ih (i + 1) k _ (by omega) (by omega) (h.push (by omega) hm (fun m r e => by simp at e))
    · rw [List.concat_eq_append] at h hlen hsn ⊢
      rw [List.length_append, show [r].length = 1 from rfl] at hlen
      have hml : (m ++ [r]).length = m.length + 1 := by simp
      have e2 : wrap64 (((toS (m ++ [r])).length : Int) - 1) = (m.length : Int) := by rw [toS_len, hml, w64 (by omega) (by omega)]; omega
      have hn := (nm_append m [r] 0).1 h.nm
      have hr2 : r.1 ≤ r.2 ∧ r.2 ≤ 1114111 := ⟨hn.2.2.1, hn.2.2.2.1⟩
      obtain ⟨j, hj, hlow⟩ := h.low m r rfl
      have hlast : 0 ≤ r.2 := by
        have h1 := hn.2.1
        have h2 : ∀ (q : List Rg) (lo : Int), 0 ≤ lo → Nm lo q → 0 ≤ endN lo q := by
          intro q
          induction q with
          | nil => intro lo h0 _; exact h0
          | cons a q ihq => intro lo h0 hq; exact ihq (a.2 + 2) (by have := hq.1; have := hq.2.1; omega) hq.2.2.2
        have := h2 m 0 (Int.le_refl _) hn.1
        omega
      simp only [caesuraref3_normal.l0]
      rw [if_pos (by rw [toS_len]; omega), if_pos (by rw [toS_len, hml]; omega), if_pos (by omega), e2, if_pos (by omega), if_pos (by rw [toS_len, hml]; omega), rd_toS, rd_toS, rd_last]
      dsimp only
      rw [w64 (x := r.2 + 1) (by omega) (by omega)]
      simp only [caesuraref3_normal.j1]
      by_cases hle : (rdR l i).1 ≤ r.2 + 1
      · rw [if_pos (by rw [decide_eq_true hle]), if_pos (by omega), if_pos (by rw [toS_len]; omega), e2, if_pos (by omega), if_pos (by rw [toS_len, hml]; omega), rd_toS, rd_toS, rd_last]
        dsimp only
        by_cases hgt : (rdR l i).2 > r.2
        · rw [if_pos hgt, Int.toNat_natCast, e1]
          have e3 : (toS (m ++ [r])).set m.length (⟨r.1, (rdR l i).2⟩ : S35) = toS (m ++ [(r.1, (rdR l i).2)]) := by
            rw [toS_append, toS_append, List.set_append_right _ _ (by rw [toS_len]; exact Nat.le_refl _), toS_len, Nat.sub_self]
            rfl
          rw [e3]
          exact ih (i + 1) k _ (by omega) (by omega) (h.grow (by omega) hm ha hle hgt)
        · rw [if_neg hgt, e1]
          exact ih (i + 1) k _ (by omega) (by omega) (h.skip (by omega) ha hgt)
      · rw [if_neg (by simp; omega), if_pos (by omega), if_pos (by rw [toS_len]; omega), if_pos (by rw [toS_len, hml]; omega), rd_toS]
        dsimp only
        rw [hsn, e1]
        exact ih (i + 1) k _ (by omega) (by omega) (h.push (by omega) hm (fun m' r' e => by
          obtain ⟨_, e2⟩ := List.append_inj' e rfl
          cases e2
          omega))
theorem normal_f (l : List Rg) (hl : l.length ≤ 4194304) (hm : mayL l = true) (k : Nat) (hk : 2 * l.length + 1 < k) : ∃ r, caesuraref3_normal.f k (toS l) = some (toS r) ∧ Is (inL l) r := by
  unfold caesuraref3_normal.f
  obtain ⟨q, h1, h2, h3⟩ := ordered_f l hl k hk
  rw [h1, Option.bind_some]
  have hql := h3.length_eq
  obtain ⟨r, h4, h5⟩ := normal_l0 q (by omega) (perm_may h3 hm) h2 q.length 0 k [] (by omega) (by omega) ⟨trivial, fun p => rfl, fun m r e => by simp at e, by simp⟩
  refine ⟨r, h4, h5.nm, fun p => ?_⟩
  rw [h5.pts, List.take_of_length_le (Nat.le_refl _), perm_in h3]
  cases hp : inL l p with
  | false => rw [Bool.and_false]
  | true => rw [decide_eq_true (may_in hm hp)]; rfl
/-- What stands between two rounds of turning round. -/
structure Nt (l : List Rg) (i : Nat) (a : Int) (out : List Rg) : Prop where
  up : Upto (fun p => !inL l p) out a
  lo : 0 ≤ a
  hi : a ≤ 1114112
  next : Nm (if i = 0 then 0 else a + 1) (l.drop i)
  gap : ∀ m r, out = m ++ [r] → r.2 + 1 < a
  len : out.length ≤ i
  zero : i = 0 → a = 0
theorem nm_drop_step (l : List Rg) (i : Nat) (h : i < l.length) {lo : Int} (hn : Nm lo (l.drop i)) : lo ≤ (rdR l i).1 ∧ (rdR l i).1 ≤ (rdR l i).2 ∧ (rdR l i).2 ≤ 1114111 ∧ Nm ((rdR l i).2 + 2) (l.drop (i + 1)) := by
  rw [drop_rd l i h] at hn
  exact hn
theorem in_drop {l : List Rg} (i : Nat) (hi : i ≤ l.length) {a p : Int} (h1 : ∀ j, j < i → (rdR l j).2 < a) (hp : a ≤ p) : inL l p = inL (l.drop i) p := by
  have e : l = l.take i ++ l.drop i := (List.take_append_drop i l).symm
  have hf : inL (l.take i) p = false := by
    cases hh : inL (l.take i) p with
    | false => rfl
    | true =>
      obtain ⟨r, hr, h2, h3⟩ := (inL_iff _ _).1 hh
      obtain ⟨j, hj, rfl⟩ := List.mem_iff_getElem.1 hr
      rw [List.length_take] at hj
      rw [List.getElem_take] at h3
      have e0 : rdR l j = l[j] := by simp [rdR, List.getD, show j < l.length by omega]
      have := h1 j (by omega)
      rw [e0] at this
      omega
  conv => lhs; rw [e]
  rw [inL_append, hf, Bool.false_or]
theorem not_l0 (l : List Rg) (hl : l.length ≤ 4194304) : ∀ (d i : Nat) (k : Nat) (a : Int) (out : List Rg), i + d = l.length → d < k → (∀ j, j < i → (rdR l j).2 < a) → Nt l i a out → ∃ r, caesuraref3_not.l0 k (toS l) (toS out) a (i : Int) = some (toS r) ∧ Is (fun p => !inL l p) r := by
  intro d
  induction d with
  | zero =>
    intro i k a out hi hk hj h
    obtain ⟨k, rfl⟩ : ∃ m, k = m + 1 := ⟨k - 1, by omega⟩
    have hlen := h.len
    simp only [caesuraref3_not.l0]
    rw [if_neg (by rw [toS_len]; omega)]
    have hfr : ∀ p, a ≤ p → inL l p = false := fun p hp => by
      rw [in_drop i (by omega) hj hp, List.drop_eq_nil_of_le (by omega)]; rfl
    by_cases hle : a ≤ 1114111
    · rw [if_pos hle, if_pos (by rw [toS_len]; omega)]
      have e : toS out ++ [(⟨a, 1114111⟩ : S35)] = toS (out ++ [(a, 1114111)]) := by rw [toS_append]; rfl
      rw [e]
      have hu := h.up.more (b := 1114112) (by omega) (by omega) h.lo (fun p h1 h2 => by rw [hfr p h1, hfr a (Int.le_refl _)]) (by rw [hfr a (Int.le_refl _)]; rfl) (fun m r e => by have := h.gap m r e; omega)
      exact ⟨_, rfl, hu.whole⟩
    · rw [if_neg hle]
      have := h.hi
      obtain rfl : a = 1114112 := by omega
      exact ⟨_, rfl, h.up.whole⟩
  | succ d ih =>
    intro i k a out hi hk hj h
    obtain ⟨k, rfl⟩ : ∃ m, k = m + 1 := ⟨k - 1, by omega⟩
    have hlen := h.len
    have hst := nm_drop_step l i (by omega) h.next
    have hlo := h.lo
    have e1 : wrap64 ((i : Int) + 1) = ((i + 1 : Nat) : Int) := by rw [w64 (by omega) (by omega)]; rfl
    have hil : 0 ≤ (rdR l i).1 := by have := hst.1; split at this <;> omega
    have e2 : wrap64 ((rdR l i).2 + 1) = (rdR l i).2 + 1 := w64 (by omega) (by omega)
    have hind : ∀ p, a ≤ p → inL l p = (decide ((rdR l i).1 ≤ p ∧ p ≤ (rdR l i).2) || inL (l.drop (i + 1)) p) := fun p hp => by
      rw [in_drop i (by omega) hj hp, in_step l p i (by omega)]
    have hrest : ∀ p, p ≤ (rdR l i).2 + 1 → inL (l.drop (i + 1)) p = false := fun p hp => by
      cases hh : inL (l.drop (i + 1)) p with
      | false => rfl
      | true => have := (hst.2.2.2.ge hh).1; omega
    have hin : ∀ p, a ≤ p → (rdR l i).1 ≤ p → p ≤ (rdR l i).2 → inL l p = true := fun p h0 h1 h2 => by rw [hind p h0, decide_eq_true ⟨h1, h2⟩]; rfl
    have hout : ∀ p, a ≤ p → p < (rdR l i).1 → inL l p = false := fun p h0 h1 => by rw [hind p h0, decide_eq_false (by omega), hrest p (by omega)]; rfl
    have hale : a ≤ (rdR l i).1 := by
      have h1 := hst.1
      by_cases h0 : i = 0
      · have := h.zero h0; omega
      · rw [if_neg h0] at h1; omega
    simp only [caesuraref3_not.l0]
    rw [if_pos (by rw [toS_len]; omega), if_pos (by omega), rd_toS]
    dsimp only
    rw [e1, e2]
    have hj2 : ∀ j, j < i + 1 → (rdR l j).2 < (rdR l i).2 + 1 := fun j hji => by
      by_cases e : j = i
      · subst e; omega
      · have := hj j (by omega); omega
    have hskip : ∀ q : List Rg, Upto (fun p => !inL l p) q (rdR l i).1 → Upto (fun p => !inL l p) q ((rdR l i).2 + 1) := fun q hq =>
      hq.skip (by omega) hil (fun p h1 h2 => by rw [hin p (by omega) h1 (by omega), hin (rdR l i).1 hale (Int.le_refl _) (by omega)]) (by rw [hin (rdR l i).1 hale (Int.le_refl _) (by omega)]; rfl)
    by_cases hgt : (rdR l i).1 > a
    · rw [if_pos hgt, if_pos (by rw [toS_len]; omega), w64 (x := (rdR l i).1 - 1) (by omega) (by omega)]
      have e : toS out ++ [(⟨a, (rdR l i).1 - 1⟩ : S35)] = toS (out ++ [(a, (rdR l i).1 - 1)]) := by rw [toS_append]; rfl
      rw [e]
      have hu := h.up.more (b := (rdR l i).1) (by omega) (by omega) h.lo (fun p h1 h2 => by rw [hout p h1 h2, hout a (Int.le_refl _) (by omega)]) (by rw [hout a (Int.le_refl _) (by omega)]; rfl) (fun m r e => by have := h.gap m r e; omega)
      refine ih (i + 1) k _ _ (by omega) (by omega) hj2 ⟨hskip _ hu, by omega, by omega, ?_, fun m r e => ?_, by simp; omega, fun h => by omega⟩
      · rw [if_neg (by omega)]
        rw [show (rdR l i).2 + 1 + 1 = (rdR l i).2 + 2 by omega]
        exact hst.2.2.2
      · obtain ⟨_, e2⟩ := List.append_inj' e rfl
        cases e2
        show (rdR l i).1 - 1 + 1 < _
        omega
    · have hea : (rdR l i).1 = a := by omega
      rw [if_neg hgt]
      refine ih (i + 1) k _ _ (by omega) (by omega) hj2 ⟨hskip _ (by rw [hea]; exact h.up), by omega, by omega, ?_, fun m r e => ?_, by omega, fun h => by omega⟩
      · rw [if_neg (by omega)]
        rw [show (rdR l i).2 + 1 + 1 = (rdR l i).2 + 2 by omega]
        exact hst.2.2.2
      · have := h.gap m r e
        omega
theorem not_f (l : List Rg) (hl : l.length ≤ 4194304) (hm : mayL l = true) (k : Nat) (hk : 2 * l.length + 557060 < k) : ∃ r, caesuraref3_not.f k (toS l) = some (toS r) ∧ Is (fun p => !inL l p) r := by
  unfold caesuraref3_not.f
  obtain ⟨q, h1, h2⟩ := normal_f l hl hm k (by omega)
  rw [h1, Option.bind_some]
  have hq := h2.len
  obtain ⟨r, h3, h4⟩ := not_l0 q (by omega) q.length 0 k 0 [] (by omega) (by omega) (fun j hj => absurd hj (by omega)) ⟨Upto.zero _, by omega, by omega, by rw [if_pos rfl, List.drop_zero]; exact h2.1, fun m r e => by simp at e, by simp, fun _ => rfl⟩
  exact ⟨r, h3, h4.of_eq (fun p h0 h1 => by rw [h2.in_ h0 h1])⟩
theorem both_f (l m : List Rg) (hl : l.length ≤ 1073741824) (hm : m.length ≤ 1073741824) : caesuraref3_both.f (toS l) (toS m) = some (toS (l ++ m)) := by
  unfold caesuraref3_both.f
  rw [if_pos (by rw [toS_len]; simp; omega), Option.bind_some, List.nil_append, if_pos (by rw [toS_len, toS_len]; omega), toS_append]
theorem may_append (l m : List Rg) (hl : mayL l = true) (hm : mayL m = true) : mayL (l ++ m) = true := by
  unfold mayL at *
  rw [List.all_append, hl, hm]; rfl
theorem cnt_l0 (r : List Rg) (hr : Nm 0 r) (hrl : r.length ≤ 557056) : ∀ (d i : Nat) (k : Nat), i + d = r.length → d < k → caesuraref3_Count.l0 k (toS r) (szL (r.take i)) (i : Int) = some (szL r, 0) := by
  intro d
  induction d with
  | zero =>
    intro i k hi hk
    obtain ⟨k, rfl⟩ : ∃ m, k = m + 1 := ⟨k - 1, by omega⟩
    simp only [caesuraref3_Count.l0]
    rw [if_neg (by rw [toS_len]; omega), List.take_of_length_le (by omega)]
  | succ d ih =>
    intro i k hi hk
    obtain ⟨k, rfl⟩ : ∃ m, k = m + 1 := ⟨k - 1, by omega⟩
    have h1 := sz_take r hr i
    have h2 := sz_take r hr (i + 1)
    have h3 := sz_snoc r i (by omega)
    have ho := okR_of (hr.may (by omega)) (i := i) (by omega)
    simp only [caesuraref3_Count.l0]
    rw [if_pos (by rw [toS_len]; omega), if_pos (by omega), rd_toS]
    dsimp only
    rw [w64 (x := szL (r.take i) + (rdR r i).2) (by omega) (by omega), w64 (x := szL (r.take i) + (rdR r i).2 - (rdR r i).1) (by omega) (by omega), w64 (x := szL (r.take i) + (rdR r i).2 - (rdR r i).1 + 1) (by omega) (by omega), w64 (x := (i : Int) + 1) (by omega) (by omega)]
    have := ih (i + 1) k (by omega) (by omega)
    rw [h3] at this
    rw [show szL (r.take i) + (rdR r i).2 - (rdR r i).1 + 1 = szL (r.take i) + ((rdR r i).2 - (rdR r i).1 + 1) by omega]
    exact this
section
variable (k : Nat) (hk : 8388608 ≤ k) (la lb : List Rg) (hl : la.length ≤ 1048576)
include hk hl
theorem rNormal_f : (mayL la = true → ∃ r, caesuraref3_Normal.f k (toS la) = some (toS r, 0) ∧ Is (inL la) r) ∧ (mayL la = false → caesuraref3_Normal.f k (toS la) = some (toS [], 1)) := by
  unfold caesuraref3_Normal.f
  rw [maybe_f la (by omega) k (by omega), Option.bind_some]
  refine ⟨fun h => ?_, fun h => ?_⟩
  · obtain ⟨r, h1, h2⟩ := normal_f la (by omega) h k (by omega)
    rw [if_pos h, h1, Option.bind_some]
    exact ⟨r, rfl, h2⟩
  · rw [if_neg (by rw [h]; simp)]; rfl
theorem rNot_f : (mayL la = true → ∃ r, caesuraref3_Not.f k (toS la) = some (toS r, 0) ∧ Is (fun p => !inL la p) r) ∧ (mayL la = false → caesuraref3_Not.f k (toS la) = some (toS [], 1)) := by
  unfold caesuraref3_Not.f
  rw [maybe_f la (by omega) k (by omega), Option.bind_some]
  refine ⟨fun h => ?_, fun h => ?_⟩
  · obtain ⟨r, h1, h2⟩ := not_f la (by omega) h k (by omega)
    rw [if_pos h, h1, Option.bind_some]
    exact ⟨r, rfl, h2⟩
  · rw [if_neg (by rw [h]; simp)]; rfl
theorem rCount_f : (mayL la = true → ∃ r, caesuraref3_Count.f k (toS la) = some (szL r, 0) ∧ Is (inL la) r) ∧ (mayL la = false → caesuraref3_Count.f k (toS la) = some (0, 1)) := by
  unfold caesuraref3_Count.f
  rw [maybe_f la (by omega) k (by omega), Option.bind_some]
  refine ⟨fun h => ?_, fun h => ?_⟩
  · obtain ⟨r, h1, h2⟩ := normal_f la (by omega) h k (by omega)
    have hrl := h2.len
    rw [if_pos h, h1, Option.bind_some]
    refine ⟨r, ?_, h2⟩
    exact cnt_l0 r h2.1 hrl r.length 0 k (by omega) (by omega)
  · rw [if_neg (by rw [h]; simp)]
section
variable (hlb : lb.length ≤ 1048576)
include hlb
theorem rUnion_f : ((mayL la && mayL lb) = true → ∃ r, caesuraref3_Union.f k (toS la) (toS lb) = some (toS r, 0) ∧ Is (fun p => inL la p || inL lb p) r) ∧ ((mayL la && mayL lb) = false → caesuraref3_Union.f k (toS la) (toS lb) = some (toS [], 1)) := by
  obtain ⟨k, rfl⟩ : ∃ m, k = m + 1 := ⟨k - 1, by omega⟩
  unfold caesuraref3_Union.f
  rw [maybe_f la (by omega) (k + 1) (by omega), Option.bind_some, maybe_f lb (by omega) (k + 1) (by omega), Option.bind_some]
  simp only [caesuraref3_Union.j0]
  refine ⟨fun h => ?_, fun h => ?_⟩
  · rw [Bool.and_eq_true] at h
    obtain ⟨r, h1, h2⟩ := normal_f (la ++ lb) (by rw [List.length_append]; omega) (may_append _ _ h.1 h.2) k (by rw [List.length_append]; omega)
    rw [if_pos h.1, if_pos h.2, both_f la lb (by omega) (by omega), Option.bind_some, h1, Option.bind_some]
    exact ⟨r, rfl, h2.of_eq (fun p _ _ => inL_append _ _ _)⟩
  · cases ha : mayL la with
    | false => rw [if_neg (by simp), if_neg (by simp)]; rfl
    | true =>
      rw [ha, Bool.true_and] at h
      rw [if_pos rfl, if_neg (by rw [h]; simp)]; rfl
theorem rInter_f : ((mayL la && mayL lb) = true → ∃ r, caesuraref3_Inter.f k (toS la) (toS lb) = some (toS r, 0) ∧ Is (fun p => inL la p && inL lb p) r) ∧ ((mayL la && mayL lb) = false → caesuraref3_Inter.f k (toS la) (toS lb) = some (toS [], 1)) := by
  obtain ⟨k, rfl⟩ : ∃ m, k = m + 1 := ⟨k - 1, by omega⟩
  unfold caesuraref3_Inter.f
  rw [maybe_f la (by omega) (k + 1) (by omega), Option.bind_some, maybe_f lb (by omega) (k + 1) (by omega), Option.bind_some]
  simp only [caesuraref3_Inter.j0]
  refine ⟨fun h => ?_, fun h => ?_⟩
  · rw [Bool.and_eq_true] at h
    obtain ⟨na, h1, h2⟩ := not_f la (by omega) h.1 k (by omega)
    obtain ⟨nb, h3, h4⟩ := not_f lb (by omega) h.2 k (by omega)
    have g1 := h2.len
    have g2 := h4.len
    obtain ⟨r, h5, h6⟩ := not_f (na ++ nb) (by rw [List.length_append]; omega) (may_append _ _ (h2.1.may (by omega)) (h4.1.may (by omega))) k (by rw [List.length_append]; omega)
    rw [if_pos h.1, if_pos h.2, h1, Option.bind_some, h3, Option.bind_some, both_f na nb (by omega) (by omega), Option.bind_some, h5, Option.bind_some]
    exact ⟨r, rfl, h6.of_eq (fun p h0 h1 => by rw [inL_append, h2.in_ h0 h1, h4.in_ h0 h1]; cases inL la p <;> cases inL lb p <;> rfl)⟩
  · cases ha : mayL la with
    | false => rw [if_neg (by simp), if_neg (by simp)]; rfl
    | true =>
      rw [ha, Bool.true_and] at h
      rw [if_pos rfl, if_neg (by rw [h]; simp)]; rfl
theorem rMinus_f : ((mayL la && mayL lb) = true → ∃ r, caesuraref3_Minus.f k (toS la) (toS lb) = some (toS r, 0) ∧ Is (fun p => inL la p && !inL lb p) r) ∧ ((mayL la && mayL lb) = false → caesuraref3_Minus.f k (toS la) (toS lb) = some (toS [], 1)) := by
  obtain ⟨k, rfl⟩ : ∃ m, k = m + 1 := ⟨k - 1, by omega⟩
  unfold caesuraref3_Minus.f
  rw [maybe_f la (by omega) (k + 1) (by omega), Option.bind_some, maybe_f lb (by omega) (k + 1) (by omega), Option.bind_some]
  simp only [caesuraref3_Minus.j0]
  refine ⟨fun h => ?_, fun h => ?_⟩
  · rw [Bool.and_eq_true] at h
    obtain ⟨na, h1, h2⟩ := not_f la (by omega) h.1 k (by omega)
    have g1 := h2.len
    obtain ⟨r, h5, h6⟩ := not_f (na ++ lb) (by rw [List.length_append]; omega) (may_append _ _ (h2.1.may (by omega)) h.2) k (by rw [List.length_append]; omega)
    rw [if_pos h.1, if_pos h.2, h1, Option.bind_some, both_f na lb (by omega) (by omega), Option.bind_some, h5, Option.bind_some]
    exact ⟨r, rfl, h6.of_eq (fun p h0 h1 => by rw [inL_append, h2.in_ h0 h1]; cases inL la p <;> cases inL lb p <;> rfl)⟩
  · cases ha : mayL la with
    | false => rw [if_neg (by simp), if_neg (by simp)]; rfl
    | true =>
      rw [ha, Bool.true_and] at h
      rw [if_pos rfl, if_neg (by rw [h]; simp)]; rfl
end
end
theorem R_toS {e : Nat} {w : World} {base : Nat} {ok : Nat → Prop} {v : Value} {l : List Rg} (h : k35.R e w base ok v (toS l)) : rgK.R e w base ok v l := by
  have := R_ofS h
  rw [of_to] at this
  exact this
/-- The document's answer, or its refusal. -/
def RfPost (ok : Bool) (q : Int → Bool) (w : World) (e : Ending) (w' : World) : Prop :=
  match ok with
  | true => ∃ v out, e = .returned (.tuple #[v, .int .i64 0]) ∧ Is q out ∧ rgK.R RgT w' w.heap.size (fun _ => True) v out ∧ Below w.heap.size w w'
  | false => ∃ v, e = .returned (.tuple #[v, .int .i64 1]) ∧ rgK.R RgT w' w.heap.size (fun _ => True) v [] ∧ Below w.heap.size w w'
section
variable (A B : Option Addr) (cA cB nA nB : Nat) (la lb : List Rg) (w : World) (hA : rgK.C w A nA la) (hcA : nA ≤ cA) (hna : nA ≤ 1048576)
include hA hcA hna
theorem refNormal_any : Calls Tryd.prog 32 #[.slice A nA cA] w (RfPost (mayL la) (inL la) w) := by
  have hl := hA.1
  have hf := rNormal_f 8388608 (Nat.le_refl _) la (by omega)
  cases hm : mayL la with
  | true =>
    obtain ⟨r, h1, h2⟩ := hf.1 hm
    have h := caesuraref3_Normal.calls _ A cA (toS la) (toS r) 0 w (C_toS hA) (by rw [toS_len]; omega) h1
    rw [toS_len, hl] at h
    exact h.mono fun e w' ⟨v, he, hR, hb⟩ => ⟨v, r, he, h2, R_toS hR, hb⟩
  | false =>
    have h := caesuraref3_Normal.calls _ A cA (toS la) (toS []) 1 w (C_toS hA) (by rw [toS_len]; omega) (hf.2 hm)
    rw [toS_len, hl] at h
    exact h.mono fun e w' ⟨v, he, hR, hb⟩ => ⟨v, he, R_toS hR, hb⟩
theorem refNot_any : Calls Tryd.prog 38 #[.slice A nA cA] w (RfPost (mayL la) (fun p => !inL la p) w) := by
  have hl := hA.1
  have hf := rNot_f 8388608 (Nat.le_refl _) la (by omega)
  cases hm : mayL la with
  | true =>
    obtain ⟨r, h1, h2⟩ := hf.1 hm
    have h := caesuraref3_Not.calls _ A cA (toS la) (toS r) 0 w (C_toS hA) (by rw [toS_len]; omega) h1
    rw [toS_len, hl] at h
    exact h.mono fun e w' ⟨v, he, hR, hb⟩ => ⟨v, r, he, h2, R_toS hR, hb⟩
  | false =>
    have h := caesuraref3_Not.calls _ A cA (toS la) (toS []) 1 w (C_toS hA) (by rw [toS_len]; omega) (hf.2 hm)
    rw [toS_len, hl] at h
    exact h.mono fun e w' ⟨v, he, hR, hb⟩ => ⟨v, he, R_toS hR, hb⟩
/-- The document's count, or its refusal. -/
def RcPost (ok : Bool) (q : Int → Bool) (w : World) (e : Ending) (w' : World) : Prop :=
  match ok with
  | true => ∃ out, Is q out ∧ e = .returned (.tuple #[.int .i64 (szL out), .int .i64 0]) ∧ Below w.heap.size w w'
  | false => e = .returned (.tuple #[.int .i64 0, .int .i64 1]) ∧ Below w.heap.size w w'
theorem refCount_any : Calls Tryd.prog 39 #[.slice A nA cA] w (RcPost (mayL la) (inL la) w) := by
  have hl := hA.1
  have hf := rCount_f 8388608 (Nat.le_refl _) la (by omega)
  cases hm : mayL la with
  | true =>
    obtain ⟨r, h1, h2⟩ := hf.1 hm
    have h := caesuraref3_Count.calls _ A cA (toS la) (szL r) 0 w (C_toS hA) (by rw [toS_len]; omega) h1
    rw [toS_len, hl] at h
    exact h.mono fun e w' ⟨he, hb⟩ => ⟨r, h2, he, hb⟩
  | false =>
    have h := caesuraref3_Count.calls _ A cA (toS la) 0 1 w (C_toS hA) (by rw [toS_len]; omega) (hf.2 hm)
    rw [toS_len, hl] at h
    exact h.mono fun e w' ⟨he, hb⟩ => ⟨he, hb⟩
section
variable (hB : rgK.C w B nB lb) (hcB : nB ≤ cB) (hnb : nB ≤ 1048576)
include hB hcB hnb
theorem refUnion_any : Calls Tryd.prog 35 #[.slice A nA cA, .slice B nB cB] w (RfPost (mayL la && mayL lb) (fun p => inL la p || inL lb p) w) := by
  have hl := hA.1
  have hl2 := hB.1
  have hf := rUnion_f 8388608 (Nat.le_refl _) la lb (by omega) (by omega)
  cases hm : (mayL la && mayL lb) with
  | true =>
    obtain ⟨r, h1, h2⟩ := hf.1 hm
    have h := caesuraref3_Union.calls _ A cA (toS la) B cB (toS lb) (toS r) 0 w (C_toS hA) (by rw [toS_len]; omega) (C_toS hB) (by rw [toS_len]; omega) h1
    rw [toS_len, hl, toS_len, hl2] at h
    exact h.mono fun e w' ⟨v, he, hR, hb⟩ => ⟨v, r, he, h2, R_toS hR, hb⟩
  | false =>
    have h := caesuraref3_Union.calls _ A cA (toS la) B cB (toS lb) (toS []) 1 w (C_toS hA) (by rw [toS_len]; omega) (C_toS hB) (by rw [toS_len]; omega) (hf.2 hm)
    rw [toS_len, hl, toS_len, hl2] at h
    exact h.mono fun e w' ⟨v, he, hR, hb⟩ => ⟨v, he, R_toS hR, hb⟩
theorem refInter_any : Calls Tryd.prog 36 #[.slice A nA cA, .slice B nB cB] w (RfPost (mayL la && mayL lb) (fun p => inL la p && inL lb p) w) := by
  have hl := hA.1
  have hl2 := hB.1
  have hf := rInter_f 8388608 (Nat.le_refl _) la lb (by omega) (by omega)
  cases hm : (mayL la && mayL lb) with
  | true =>
    obtain ⟨r, h1, h2⟩ := hf.1 hm
    have h := caesuraref3_Inter.calls _ A cA (toS la) B cB (toS lb) (toS r) 0 w (C_toS hA) (by rw [toS_len]; omega) (C_toS hB) (by rw [toS_len]; omega) h1
    rw [toS_len, hl, toS_len, hl2] at h
    exact h.mono fun e w' ⟨v, he, hR, hb⟩ => ⟨v, r, he, h2, R_toS hR, hb⟩
  | false =>
    have h := caesuraref3_Inter.calls _ A cA (toS la) B cB (toS lb) (toS []) 1 w (C_toS hA) (by rw [toS_len]; omega) (C_toS hB) (by rw [toS_len]; omega) (hf.2 hm)
    rw [toS_len, hl, toS_len, hl2] at h
    exact h.mono fun e w' ⟨v, he, hR, hb⟩ => ⟨v, he, R_toS hR, hb⟩
theorem refMinus_any : Calls Tryd.prog 37 #[.slice A nA cA, .slice B nB cB] w (RfPost (mayL la && mayL lb) (fun p => inL la p && !inL lb p) w) := by
  have hl := hA.1
  have hl2 := hB.1
  have hf := rMinus_f 8388608 (Nat.le_refl _) la lb (by omega) (by omega)
  cases hm : (mayL la && mayL lb) with
  | true =>
    obtain ⟨r, h1, h2⟩ := hf.1 hm
    have h := caesuraref3_Minus.calls _ A cA (toS la) B cB (toS lb) (toS r) 0 w (C_toS hA) (by rw [toS_len]; omega) (C_toS hB) (by rw [toS_len]; omega) h1
    rw [toS_len, hl, toS_len, hl2] at h
    exact h.mono fun e w' ⟨v, he, hR, hb⟩ => ⟨v, r, he, h2, R_toS hR, hb⟩
  | false =>
    have h := caesuraref3_Minus.calls _ A cA (toS la) B cB (toS lb) (toS []) 1 w (C_toS hA) (by rw [toS_len]; omega) (C_toS hB) (by rw [toS_len]; omega) (hf.2 hm)
    rw [toS_len, hl, toS_len, hl2] at h
    exact h.mono fun e w' ⟨v, he, hR, hb⟩ => ⟨v, he, R_toS hR, hb⟩
end
end
/-- The document's Has. -/
theorem rHas_l0 (l : List Rg) (p : Int) (hl : l.length ≤ 1073741824) : ∀ (d i : Nat) (k : Nat), i + d = l.length → d < k → caesuraref3_Has.l0 k (toS l) p (i : Int) = some (inL (l.drop i) p) := by
  intro d
  induction d with
  | zero =>
    intro i k hi hk
    obtain ⟨k, rfl⟩ : ∃ m, k = m + 1 := ⟨k - 1, by omega⟩
    simp only [caesuraref3_Has.l0]
    rw [if_neg (by rw [toS_len]; omega), List.drop_eq_nil_of_le (by omega)]
    rfl
  | succ d ih =>
    intro i k hi hk
    obtain ⟨k, rfl⟩ : ∃ m, k = m + 1 := ⟨k - 1, by omega⟩
    simp only [caesuraref3_Has.l0]
    rw [if_pos (by rw [toS_len]; omega), if_pos (by omega), rd_toS, in_step l p i (by omega), w64 (by omega) (by omega)]
    dsimp only
    have hih := ih (i + 1) k (by omega) (by omega)
    rw [show ((i + 1 : Nat) : Int) = (i : Int) + 1 from rfl] at hih
    by_cases h1 : (rdR l i).1 ≤ p
    · by_cases h2 : p ≤ (rdR l i).2
      · rw [if_pos h1, if_pos h2, decide_eq_true ⟨h1, h2⟩]; rfl
      · rw [if_pos h1, if_neg h2, decide_eq_false (by omega), Bool.false_or]; exact hih
    · rw [if_neg h1, decide_eq_false (by omega), Bool.false_or]; exact hih
theorem refHas_any (A : Option Addr) (c n : Nat) (l : List Rg) (p : Int) (w : World) (hC : rgK.C w A n l) (hc : n ≤ c) (hn : n ≤ 1073741824) :
    Calls Tryd.prog 34 #[.slice A n c, .int .i64 p] w fun e w' => e = .returned (.bool (inL l p)) ∧ Drawn0 w w' := by
  have hl := hC.1
  have h := caesuraref3_Has.calls (l.length + 1) A c (toS l) p (inL l p) w (C_toS hC) (by rw [toS_len]; omega) (by
    unfold caesuraref3_Has.f
    exact rHas_l0 l p (by omega) l.length 0 _ (by omega) (by omega))
  rw [toS_len, hl] at h
  exact h
theorem own_any (A : Option Addr) (c n : Nat) (l : List Rg) (w : World) (hC : rgK.C w A n l) (hc : n ≤ c) (hn : n ≤ 1073741824) :
    Calls Tryd.prog 15 #[.slice A n c] w fun e w' => ∃ v, e = .returned v ∧ rgK.R RgT w' w.heap.size (fun _ => True) v l ∧ Below w.heap.size w w' := by
  have hl := hC.1
  have h := caesuralaw3_own.calls A c (toS l) (toS l) w (C_toS hC) (by rw [toS_len]; omega) (by
    unfold caesuralaw3_own.f
    rw [if_pos (by rw [toS_len]; simp; omega), List.nil_append])
  rw [toS_len, hl] at h
  exact h.mono fun e w' ⟨v, he, hR, hb⟩ => ⟨v, he, R_toS hR, hb⟩
theorem behind_any (w : World) : Calls Tryd.prog 16 #[] w fun e w' => e = .returned (.agg #[.int .i64 77, .int .i64 7]) ∧ Below w.heap.size w w' :=
  caesuralaw3_behind.calls 77 7 w rfl
end Go.Proofs.YthjdjgppghplgaaDoor
