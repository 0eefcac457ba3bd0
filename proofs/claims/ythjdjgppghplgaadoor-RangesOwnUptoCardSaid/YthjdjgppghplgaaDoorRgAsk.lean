/-
What the statements on ranges ask: may, in, normal, edges; SameRanges. Conditions: lists of at most 2^30 ranges.
-/
import Derived.Test.YthjdjgppghplgaaDoorRgCalls2
import Derived.Test.YthjdjgppghplgaaDoorRgA4
import Derived.Test.YthjdjgppghplgaaDoorPRangesPointsx3
import Derived.Test.YthjdjgppghplgaaDoorPRangesPointsx4
import Derived.Test.YthjdjgppghplgaaDoorPRangesPointsx5
namespace Go.Proofs.YthjdjgppghplgaaDoor
open Go Go.RowKit Go.Proofs.YthjdjgppghplgaaDoorW.PrintWords Go.Proofs.YthjdjgppghplgaaDoorW.PrintLast Go.Proofs.YthjdjgppghplgaaDoorW.PrintMore
/-- A list of the second printed text's own kind. -/
def toP (l : List Rg) : List PRangesPoints.S35 := l.map fun r => ⟨r.1, r.2⟩
theorem toP_len (l : List Rg) : (toP l).length = l.length := by simp [toP]
theorem C_toP {w : World} {A : Option Addr} {n : Nat} {l : List Rg} (h : rgK.C w A n l) : PRangesPoints.k35.C w A (toP l).length (toP l) := by
  obtain ⟨h1, h2, h3⟩ := h
  rw [toP_len, h1]
  refine ⟨by rw [toP_len, h1], h2, fun h0 => ?_⟩
  obtain ⟨ad, e, hc⟩ := h3 h0
  refine ⟨ad, e, fun j p hj => ?_⟩
  simp only [toP, List.getElem?_map, Option.map_eq_some_iff] at hj
  obtain ⟨r, hr, rfl⟩ := hj
  exact hc j r hr
theorem rd_toP (l : List Rg) (k : Nat) : PRangesPoints.rd_T35 (toP l) (k : Int) = ⟨(rdR l k).1, (rdR l k).2⟩ := by
  unfold PRangesPoints.rd_T35 rdR toP
  rw [Int.toNat_natCast, List.getD_eq_getElem?_getD, List.getD_eq_getElem?_getD, List.getElem?_map]
  cases l[k]? with
  | none => rfl
  | some r => rfl
theorem may3_l0 (l : List Rg) (hl : l.length ≤ 1073741824) : ∀ (d i : Nat) (k : Nat), i + d = l.length → d < k → PRangesPoints.caesuralaw3_may.l0 k (toP l) (i : Int) = some (mayL (l.drop i)) := by
  intro d
  induction d with
  | zero =>
    intro i k hi hk
    obtain ⟨k, rfl⟩ : ∃ m, k = m + 1 := ⟨k - 1, by omega⟩
    simp only [PRangesPoints.caesuralaw3_may.l0]
    rw [if_neg (by rw [toP_len]; omega), List.drop_eq_nil_of_le (by omega)]
    rfl
  | succ d ih =>
    intro i k hi hk
    obtain ⟨k, rfl⟩ : ∃ m, k = m + 1 := ⟨k - 1, by omega⟩
    simp only [PRangesPoints.caesuralaw3_may.l0]
    rw [if_pos (by rw [toP_len]; omega), if_pos (by omega), rd_toP, may_step l i (by omega)]
    dsimp only
    unfold okR
    by_cases h1 : (rdR l i).1 < 0
    · rw [if_pos h1, decide_eq_false (by omega)]; rfl
    · by_cases h2 : (rdR l i).2 > 1114111
      · rw [if_neg h1, if_pos h2, decide_eq_false (by omega)]; rfl
      · by_cases h3 : (rdR l i).1 > (rdR l i).2
        · rw [if_neg h1, if_neg h2, if_pos h3, decide_eq_false (by omega)]; rfl
        · rw [if_neg h1, if_neg h2, if_neg h3, decide_eq_true (by omega), w64 (by omega) (by omega), Bool.true_and]
          exact ih (i + 1) k (by omega) (by omega)
theorem may3_any (A : Option Addr) (c n : Nat) (l : List Rg) (w : World) (hC : rgK.C w A n l) (hc : n ≤ c) (hn : n ≤ 1073741824) :
    Calls Tryd.prog 10 #[.slice A n c] w fun e w' => e = .returned (.bool (mayL l)) ∧ Drawn0 w w' := by
  have hl := hC.1
  have h := PRangesPoints.caesuralaw3_may.calls (l.length + 1) A c (toP l) (mayL l) w (C_toP hC) (by rw [toP_len]; omega) (by
    unfold PRangesPoints.caesuralaw3_may.f
    exact may3_l0 l (by omega) l.length 0 _ (by omega) (by omega))
  rw [toP_len, hl] at h
  exact h
theorem in_step (l : List Rg) (p : Int) (i : Nat) (h : i < l.length) : inL (l.drop i) p = (decide ((rdR l i).1 ≤ p ∧ p ≤ (rdR l i).2) || inL (l.drop (i + 1)) p) := by
  rw [List.drop_eq_getElem_cons h, inL_cons]
  simp [rdR, List.getD, h]
theorem in3_l0 (l : List Rg) (p : Int) (hl : l.length ≤ 1073741824) : ∀ (d i : Nat) (k : Nat), i + d = l.length → d < k → PRangesPoints.caesuralaw3_in.l0 k (toP l) p (i : Int) = some (inL (l.drop i) p) := by
  intro d
  induction d with
  | zero =>
    intro i k hi hk
    obtain ⟨k, rfl⟩ : ∃ m, k = m + 1 := ⟨k - 1, by omega⟩
    simp only [PRangesPoints.caesuralaw3_in.l0]
    rw [if_neg (by rw [toP_len]; omega), List.drop_eq_nil_of_le (by omega)]
    rfl
  | succ d ih =>
    intro i k hi hk
    obtain ⟨k, rfl⟩ : ∃ m, k = m + 1 := ⟨k - 1, by omega⟩
    simp only [PRangesPoints.caesuralaw3_in.l0]
    rw [if_pos (by rw [toP_len]; omega), if_pos (by omega), rd_toP, in_step l p i (by omega), w64 (by omega) (by omega)]
    dsimp only
    have hih := ih (i + 1) k (by omega) (by omega)
    rw [show ((i + 1 : Nat) : Int) = (i : Int) + 1 from rfl] at hih
    by_cases h1 : (rdR l i).1 ≤ p
    · by_cases h2 : p ≤ (rdR l i).2
      · rw [if_pos h1, if_pos h2, decide_eq_true ⟨h1, h2⟩]; rfl
      · rw [if_pos h1, if_neg h2, decide_eq_false (by omega), Bool.false_or]; exact hih
    · rw [if_neg h1, decide_eq_false (by omega), Bool.false_or]; exact hih
theorem in3_any (A : Option Addr) (c n : Nat) (l : List Rg) (p : Int) (w : World) (hC : rgK.C w A n l) (hc : n ≤ c) (hn : n ≤ 1073741824) :
    Calls Tryd.prog 25 #[.slice A n c, .int .i64 p] w fun e w' => e = .returned (.bool (inL l p)) ∧ Drawn0 w w' := by
  have hl := hC.1
  have h := PRangesPoints.caesuralaw3_in.calls (l.length + 1) A c (toP l) p (inL l p) w (C_toP hC) (by rw [toP_len]; omega) (by
    unfold PRangesPoints.caesuralaw3_in.f
    exact in3_l0 l p (by omega) l.length 0 _ (by omega) (by omega))
  rw [toP_len, hl] at h
  exact h
theorem nm_gap : ∀ (l : List Rg) (lo : Int), Nm lo l → ∀ i, i + 1 < l.length → (rdR l i).2 + 2 ≤ (rdR l (i + 1)).1
  | [], _, _, i, h => by simp at h
  | [r], _, _, i, h => by simp at h
  | r :: s :: t, lo, hn, 0, h => by
    obtain ⟨_, _, _, h4⟩ := hn
    exact h4.1
  | r :: s :: t, lo, hn, i + 1, h => by
    have := nm_gap (s :: t) (r.2 + 2) hn.2.2.2 i (by simpa using h)
    simpa [rdR] using this
theorem normal3_l0 (l : List Rg) (hN : Nm 0 l) (hl : l.length ≤ 1073741824) : ∀ (d i : Nat) (k : Nat), 1 ≤ i → (i + d = l.length ∨ l.length < i ∧ d = 0) → d + l.length + 2 < k → PRangesPoints.caesuralaw3_normal.l0 k (toP l) (i : Int) = some true := by
  intro d
  induction d with
  | zero =>
    intro i k h1 hi hk
    obtain ⟨k, rfl⟩ : ∃ m, k = m + 1 := ⟨k - 1, by omega⟩
    simp only [PRangesPoints.caesuralaw3_normal.l0]
    rw [if_neg (by rw [toP_len]; omega)]
    unfold PRangesPoints.caesuralaw3_may.f
    have := may3_l0 l hl l.length 0 k (by omega) (by omega)
    rw [show ((0 : Nat) : Int) = 0 from rfl, List.drop_zero, hN.may (by omega)] at this
    rw [this]
    rfl
  | succ d ih =>
    intro i k h1 hi hk
    obtain ⟨k, rfl⟩ : ∃ m, k = m + 1 := ⟨k - 1, by omega⟩
    have hg := nm_gap l 0 hN (i - 1) (by omega)
    have e1 : i - 1 + 1 = i := by omega
    rw [e1] at hg
    have ho1 := okR_of (hN.may (by omega)) (i := i) (by omega)
    have ho2 := okR_of (hN.may (by omega)) (i := i - 1) (by omega)
    have e2 : wrap64 ((i : Int) - 1) = ((i - 1 : Nat) : Int) := by rw [w64 (by omega) (by omega)]; omega
    simp only [PRangesPoints.caesuralaw3_normal.l0]
    rw [if_pos (by rw [toP_len]; omega), if_pos (by omega), e2, if_pos (by omega), if_pos (by rw [toP_len]; omega), rd_toP, rd_toP]
    dsimp only
    rw [w64 (x := (rdR l (i - 1)).2 + 2) (by omega) (by omega), if_neg (by omega), w64 (by omega) (by omega)]
    exact ih (i + 1) k (by omega) (by omega) (by omega)
theorem normal3_any (A : Option Addr) (c n : Nat) (l : List Rg) (w : World) (hN : Nm 0 l) (hC : rgK.C w A n l) (hc : n ≤ c) (hn : n ≤ 1073741824) :
    Calls Tryd.prog 23 #[.slice A n c] w fun e w' => e = .returned (.bool true) ∧ Drawn0 w w' := by
  have hl := hC.1
  have h := PRangesPoints.caesuralaw3_normal.calls (2 * l.length + 4) A c (toP l) true w (C_toP hC) (by rw [toP_len]; omega) (by
    unfold PRangesPoints.caesuralaw3_normal.f
    by_cases h0 : l.length = 0
    · exact normal3_l0 l hN (by omega) 0 1 _ (by omega) (by omega) (by omega)
    · exact normal3_l0 l hN (by omega) (l.length - 1) 1 _ (by omega) (by omega) (by omega))
  rw [toP_len, hl] at h
  exact h
theorem edges3_l1 (l m : List Rg) (x : Int) (hl : m.length ≤ 1073741824) : ∀ (d i : Nat) (k : Nat) (xs : List Int), i + d = m.length → d < k → xs.length + 4 * d ≤ 17592186044415 → ∃ r, PRangesPoints.caesuralaw3_edges.l1 k xs (i : Int) (toP l) (toP m) x = some r ∧ r.length = xs.length + 4 * d := by
  intro d
  induction d with
  | zero =>
    intro i k xs hi hk hx
    obtain ⟨k, rfl⟩ : ∃ m, k = m + 1 := ⟨k - 1, by omega⟩
    simp only [PRangesPoints.caesuralaw3_edges.l1]
    rw [if_neg (by rw [toP_len]; omega)]
    exact ⟨xs, rfl, by omega⟩
  | succ d ih =>
    intro i k xs hi hk hx
    obtain ⟨k, rfl⟩ : ∃ m, k = m + 1 := ⟨k - 1, by omega⟩
    simp only [PRangesPoints.caesuralaw3_edges.l1]
    rw [if_pos (by rw [toP_len]; omega), if_pos (by omega), Option.bind_some, if_pos (by simp only [List.length_cons, List.length_nil]; omega), w64 (x := (i : Int) + 1) (by omega) (by omega)]
    obtain ⟨r, h1, h2⟩ := ih (i + 1) k (xs ++ [wrap64 ((PRangesPoints.rd_T35 (toP m) i).f0 - 1), (PRangesPoints.rd_T35 (toP m) i).f0, (PRangesPoints.rd_T35 (toP m) i).f1, wrap64 ((PRangesPoints.rd_T35 (toP m) i).f1 + 1)]) (by omega) (by omega) (by simp only [List.length_append, List.length_cons, List.length_nil]; omega)
    refine ⟨r, h1, ?_⟩
    rw [h2]
    simp only [List.length_append, List.length_cons, List.length_nil]
    omega
theorem edges3_l0 (l m : List Rg) (x : Int) (hl : l.length ≤ 1073741824) (hm : m.length ≤ 1073741824) : ∀ (d i : Nat) (k : Nat) (xs : List Int), i + d = l.length → d + m.length + 1 < k → xs.length + 4 * d + 4 * m.length ≤ 17592186044415 → ∃ r, PRangesPoints.caesuralaw3_edges.l0 k xs (i : Int) (toP l) (toP m) x = some r ∧ r.length = xs.length + 4 * d + 4 * m.length := by
  intro d
  induction d with
  | zero =>
    intro i k xs hi hk hx
    obtain ⟨k, rfl⟩ : ∃ m, k = m + 1 := ⟨k - 1, by omega⟩
    simp only [PRangesPoints.caesuralaw3_edges.l0]
    rw [if_neg (by rw [toP_len]; omega)]
    obtain ⟨r, h1, h2⟩ := edges3_l1 l m x hm m.length 0 k xs (by omega) (by omega) (by omega)
    exact ⟨r, h1, by omega⟩
  | succ d ih =>
    intro i k xs hi hk hx
    obtain ⟨k, rfl⟩ : ∃ m, k = m + 1 := ⟨k - 1, by omega⟩
    simp only [PRangesPoints.caesuralaw3_edges.l0]
    rw [if_pos (by rw [toP_len]; omega), if_pos (by omega), Option.bind_some, if_pos (by simp only [List.length_cons, List.length_nil]; omega), w64 (x := (i : Int) + 1) (by omega) (by omega)]
    obtain ⟨r, h1, h2⟩ := ih (i + 1) k (xs ++ [wrap64 ((PRangesPoints.rd_T35 (toP l) i).f0 - 1), (PRangesPoints.rd_T35 (toP l) i).f0, (PRangesPoints.rd_T35 (toP l) i).f1, wrap64 ((PRangesPoints.rd_T35 (toP l) i).f1 + 1)]) (by omega) (by omega) (by simp only [List.length_append, List.length_cons, List.length_nil]; omega)
    refine ⟨r, h1, ?_⟩
    rw [h2]
    simp only [List.length_append, List.length_cons, List.length_nil]
    omega
theorem edges3_any (A B : Option Addr) (cA cB nA nB : Nat) (la lb : List Rg) (x : Int) (w : World) (hA : rgK.C w A nA la) (hB : rgK.C w B nB lb) (hcA : nA ≤ cA) (hcB : nB ≤ cB) (hna : nA ≤ 1048576) (hnb : nB ≤ 1048576) :
    Calls Tryd.prog 24 #[.agg #[.slice A nA cA, .slice B nB cB, .int .i64 x]] w fun e w' => ∃ v r, e = .returned v ∧ (Kd.int .i64).R 3 w' w.heap.size (fun _ => True) v r ∧ r.length ≤ 8388611 ∧ Below w.heap.size w w' := by
  have h1 := hA.1
  have h2 := hB.1
  obtain ⟨r, hr, hrl⟩ := edges3_l0 la lb x (by omega) (by omega) la.length 0 (la.length + lb.length + 2) [0, 1114111, x] (by omega) (by omega) (by simp only [List.length_cons, List.length_nil]; omega)
  have h := PRangesPoints.caesuralaw3_edges.calls (la.length + lb.length + 2) A cA (toP la) B cB (toP lb) x r w (C_toP hA) (by rw [toP_len]; omega) (C_toP hB) (by rw [toP_len]; omega) hr
  rw [toP_len, toP_len, h1, h2] at h
  refine h.mono ?_
  rintro e w' ⟨v, rfl, hR, hb⟩
  exact ⟨v, r, rfl, hR, by simp only [List.length_cons, List.length_nil] at hrl; omega, hb⟩
theorem drop_step (l m : List Rg) (i : Nat) (h : i < l.length) (h' : i < m.length) : decide (l.drop i = m.drop i) = (((rdR l i).1 == (rdR m i).1) && (((rdR l i).2 == (rdR m i).2) && decide (l.drop (i + 1) = m.drop (i + 1)))) := by
  rw [List.drop_eq_getElem_cons h, List.drop_eq_getElem_cons h']
  have e1 : rdR l i = l[i] := by simp [rdR, List.getD, h]
  have e2 : rdR m i = m[i] := by simp [rdR, List.getD, h']
  rw [e1, e2, Bool.eq_iff_iff]
  simp only [decide_eq_true_eq, Bool.and_eq_true, beq_iff_eq, List.cons.injEq]
  constructor
  · rintro ⟨a, b⟩; rw [a]; exact ⟨rfl, rfl, b⟩
  · rintro ⟨a, b, c⟩; exact ⟨Prod.ext a b, c⟩
theorem same_l0 (l m : List Rg) (hl : l.length ≤ 1073741824) (hlm : l.length = m.length) : ∀ (d i : Nat) (k : Nat), i + d = l.length → d < k → PRangesAnswers.caesuraref0_SameRanges.l0 k (toS l) (toS m) (i : Int) = some (decide (l.drop i = m.drop i)) := by
  intro d
  induction d with
  | zero =>
    intro i k hi hk
    obtain ⟨k, rfl⟩ : ∃ m, k = m + 1 := ⟨k - 1, by omega⟩
    simp only [PRangesAnswers.caesuraref0_SameRanges.l0]
    rw [if_neg (by rw [toS_len]; omega), List.drop_eq_nil_of_le (by omega), List.drop_eq_nil_of_le (by omega)]
    rfl
  | succ d ih =>
    intro i k hi hk
    obtain ⟨k, rfl⟩ : ∃ m, k = m + 1 := ⟨k - 1, by omega⟩
    simp only [PRangesAnswers.caesuraref0_SameRanges.l0]
    rw [if_pos (by rw [toS_len]; omega), if_pos (by omega), if_pos (by rw [toS_len]; omega), rd_toS, rd_toS, drop_step l m i (by omega) (by omega)]
    dsimp only
    have hih := ih (i + 1) k (by omega) (by omega)
    rw [show ((i + 1 : Nat) : Int) = (i : Int) + 1 from rfl] at hih
    rw [w64 (x := (i : Int) + 1) (by omega) (by omega), hih]
    cases ((rdR l i).1 == (rdR m i).1) <;> cases ((rdR l i).2 == (rdR m i).2) <;> rfl
theorem same_any (A B : Option Addr) (cA cB nA nB : Nat) (la lb : List Rg) (w : World) (hA : rgK.C w A nA la) (hB : rgK.C w B nB lb) (hcA : nA ≤ cA) (hcB : nB ≤ cB) (hn : nA ≤ 1073741824) :
    Calls Tryd.prog 21 #[.slice A nA cA, .slice B nB cB] w fun e w' => e = .returned (.bool (decide (la = lb))) ∧ Drawn0 w w' := by
  have h1 := hA.1
  have h2 := hB.1
  have h := PRangesAnswers.caesuraref0_SameRanges.calls (la.length + 1) A cA (toS la) B cB (toS lb) (decide (la = lb)) w (C_toS hA) (by rw [toS_len]; omega) (C_toS hB) (by rw [toS_len]; omega) (by
    unfold PRangesAnswers.caesuraref0_SameRanges.f
    rw [toS_len, toS_len]
    by_cases hl : la.length = lb.length
    · rw [if_pos (by omega)]
      exact same_l0 la lb (by omega) hl la.length 0 _ (by omega) (by omega)
    · rw [if_neg (by omega), decide_eq_false (fun h => hl (by rw [h]))])
  rw [toS_len, toS_len, h1, h2] at h
  exact h
end Go.Proofs.YthjdjgppghplgaaDoor
