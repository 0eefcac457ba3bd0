/-
Ranges of numbers, as lists: the one normal list of a set of points; edges, and what lies between them; how many points there are. Plain Lean.
-/
import Derived.Test.YthjdjgppghplgaaDoorGl
namespace Go.Proofs.YthjdjgppghplgaaDoor
abbrev Rg : Type := Int × Int
/-- Does a number lie in one of the ranges? -/
def inL (l : List Rg) (p : Int) : Bool := l.any fun r => decide (r.1 ≤ p) && decide (p ≤ r.2)
def okR (r : Rg) : Bool := decide (0 ≤ r.1 ∧ r.2 ≤ 1114111 ∧ r.1 ≤ r.2)
/-- May a list be? -/
def mayL (l : List Rg) : Bool := l.all okR
/-- Normal, from a number on. -/
def Nm : Int → List Rg → Prop
  | _, [] => True
  | lo, r :: t => lo ≤ r.1 ∧ r.1 ≤ r.2 ∧ r.2 ≤ 1114111 ∧ Nm (r.2 + 2) t
/-- The normal list of the points of which q holds. -/
def Is (q : Int → Bool) (l : List Rg) : Prop := Nm 0 l ∧ ∀ p, inL l p = (decide (0 ≤ p ∧ p ≤ 1114111) && q p)
theorem inL_cons (r : Rg) (l : List Rg) (p : Int) : inL (r :: l) p = (decide (r.1 ≤ p ∧ p ≤ r.2) || inL l p) := by
  simp [inL]
theorem inL_append (l m : List Rg) (p : Int) : inL (l ++ m) p = (inL l p || inL m p) := by simp [inL]
theorem inL_nil (p : Int) : inL [] p = false := rfl
theorem inL_iff (l : List Rg) (p : Int) : inL l p = true ↔ ∃ r, r ∈ l ∧ r.1 ≤ p ∧ p ≤ r.2 := by
  simp [inL]
theorem Nm.mono {lo lo' : Int} {l : List Rg} (h : Nm lo' l) (hl : lo ≤ lo') : Nm lo l := by
  cases l with
  | nil => trivial
  | cons r t => exact ⟨by have := h.1; omega, h.2⟩
theorem Nm.ge : ∀ {l : List Rg} {lo p : Int}, Nm lo l → inL l p = true → lo ≤ p ∧ p ≤ 1114111
  | [], _, _, _, h => by simp [inL] at h
  | r :: t, lo, p, hn, h => by
    obtain ⟨h1, h2, h3, h4⟩ := hn
    rw [inL_cons, Bool.or_eq_true, decide_eq_true_eq] at h
    rcases h with h | h
    · omega
    · have := h4.ge h; omega
theorem nm_uniq : ∀ {l m : List Rg} {lo : Int}, Nm lo l → Nm lo m → (∀ p, inL l p = inL m p) → l = m
  | [], [], _, _, _, _ => rfl
  | [], s :: u, lo, _, hm, h => by
    have := h s.1
    rw [inL_cons, inL_nil, decide_eq_true ⟨Int.le_refl _, hm.2.1⟩] at this
    simp at this
  | r :: t, [], lo, hl, _, h => by
    have := h r.1
    rw [inL_cons, inL_nil, decide_eq_true ⟨Int.le_refl _, hl.2.1⟩] at this
    simp at this
  | r :: t, s :: u, lo, hl, hm, h => by
    obtain ⟨l1, l2, l3, l4⟩ := hl
    obtain ⟨m1, m2, m3, m4⟩ := hm
    have a1 : inL (r :: t) r.1 = true := by rw [inL_cons, decide_eq_true ⟨Int.le_refl _, l2⟩]; rfl
    have b1 : inL (s :: u) s.1 = true := by rw [inL_cons, decide_eq_true ⟨Int.le_refl _, m2⟩]; rfl
    have nl : Nm r.1 (r :: t) := ⟨Int.le_refl _, l2, l3, l4⟩
    have nm : Nm s.1 (s :: u) := ⟨Int.le_refl _, m2, m3, m4⟩
    have c1 := (nm.ge ((h r.1).symm.trans a1)).1
    have c2 := (nl.ge ((h s.1).trans b1)).1
    have e1 : r.1 = s.1 := by omega
    have e2 : r.2 = s.2 := by
      by_cases g1 : r.2 < s.2
      · have x := h (r.2 + 1)
        rw [inL_cons, inL_cons, decide_eq_true (p := s.1 ≤ r.2 + 1 ∧ r.2 + 1 ≤ s.2) ⟨by omega, by omega⟩, decide_eq_false (p := r.1 ≤ r.2 + 1 ∧ r.2 + 1 ≤ r.2) (by omega)] at x
        simp at x
        have := (l4.ge x).1
        omega
      · by_cases g2 : s.2 < r.2
        · have x := h (s.2 + 1)
          rw [inL_cons, inL_cons, decide_eq_true (p := r.1 ≤ s.2 + 1 ∧ s.2 + 1 ≤ r.2) ⟨by omega, by omega⟩, decide_eq_false (p := s.1 ≤ s.2 + 1 ∧ s.2 + 1 ≤ s.2) (by omega)] at x
          simp at x
          have := (m4.ge x).1
          omega
        · omega
    have e : r = s := Prod.ext e1 e2
    subst e
    congr 1
    refine nm_uniq l4 m4 (fun p => ?_)
    have x := h p
    rw [inL_cons, inL_cons] at x
    by_cases g : r.1 ≤ p ∧ p ≤ r.2
    · have f1 : inL t p = false := by
        cases hh : inL t p with
        | false => rfl
        | true => have := (l4.ge hh).1; omega
      have f2 : inL u p = false := by
        cases hh : inL u p with
        | false => rfl
        | true => have := (m4.ge hh).1; omega
      rw [f1, f2]
    · rw [decide_eq_false g, Bool.false_or, Bool.false_or] at x
      exact x
theorem Is.uniq {q q' : Int → Bool} {l m : List Rg} (h : Is q l) (h' : Is q' m) (hq : ∀ p, 0 ≤ p → p ≤ 1114111 → q p = q' p) : l = m := by
  refine nm_uniq h.1 h'.1 (fun p => ?_)
  rw [h.2, h'.2]
  by_cases g : 0 ≤ p ∧ p ≤ 1114111
  · rw [hq p g.1 g.2]
  · rw [decide_eq_false g]; rfl
theorem Is.in_ {q : Int → Bool} {l : List Rg} (h : Is q l) {p : Int} (h0 : 0 ≤ p) (h1 : p ≤ 1114111) : inL l p = q p := by
  rw [h.2, decide_eq_true ⟨h0, h1⟩]; rfl
theorem Is.of_eq {q q' : Int → Bool} {l : List Rg} (h : Is q l) (hq : ∀ p, 0 ≤ p → p ≤ 1114111 → q p = q' p) : Is q' l := by
  refine ⟨h.1, fun p => ?_⟩
  rw [h.2]
  by_cases g : 0 ≤ p ∧ p ≤ 1114111
  · rw [hq p g.1 g.2]
  · rw [decide_eq_false g]; rfl
theorem Nm.may : ∀ {l : List Rg} {lo : Int}, 0 ≤ lo → Nm lo l → mayL l = true
  | [], _, _, _ => rfl
  | r :: t, lo, h0, h => by
    obtain ⟨h1, h2, h3, h4⟩ := h
    unfold mayL okR
    rw [List.all_cons, decide_eq_true ⟨by omega, by omega, by omega⟩]
    exact Nm.may (by omega) h4
theorem may_in {l : List Rg} (h : mayL l = true) {p : Int} (hp : inL l p = true) : 0 ≤ p ∧ p ≤ 1114111 := by
  obtain ⟨r, hr, h1, h2⟩ := (inL_iff l p).1 hp
  have := List.all_eq_true.1 h r hr
  simp only [okR, decide_eq_true_eq] at this
  omega
/-- Where a list has got to. -/
def endN : Int → List Rg → Int
  | lo, [] => lo
  | _, r :: t => endN (r.2 + 2) t
theorem nm_append : ∀ (l m : List Rg) (lo : Int), Nm lo (l ++ m) ↔ Nm lo l ∧ Nm (endN lo l) m
  | [], m, lo => by simp [Nm, endN]
  | r :: t, m, lo => by
    rw [List.cons_append]
    simp only [Nm, endN]
    rw [nm_append t m (r.2 + 2)]
    constructor
    · rintro ⟨a, b, c, d, e⟩; exact ⟨⟨a, b, c, d⟩, e⟩
    · rintro ⟨⟨a, b, c, d⟩, e⟩; exact ⟨a, b, c, d, e⟩
theorem endN_snoc : ∀ (l : List Rg) (r : Rg) (lo : Int), endN lo (l ++ [r]) = r.2 + 2
  | [], r, lo => rfl
  | s :: t, r, lo => by rw [List.cons_append]; exact endN_snoc t r _
/-- What has come of the points ahead of a place. -/
structure Upto (q : Int → Bool) (out : List Rg) (at_ : Int) : Prop where
  h1 : ∀ p, inL out p = (decide (0 ≤ p ∧ p < at_) && q p)
  h2 : Nm 0 out
theorem Upto.zero (q : Int → Bool) : Upto q [] 0 := ⟨fun p => by rw [inL_nil, decide_eq_false (by omega)]; rfl, trivial⟩
theorem Upto.last {q : Int → Bool} {out : List Rg} {r : Rg} {a : Int} (h : Upto q (out ++ [r]) a) : r.2 < a ∧ 0 ≤ r.1 ∧ r.1 ≤ r.2 := by
  have hn := (nm_append out [r] 0).1 h.h2
  have hr : r.1 ≤ r.2 := hn.2.2.1
  have hp := h.h1 r.2
  rw [inL_append, inL_cons, decide_eq_true ⟨hr, Int.le_refl _⟩, Bool.true_or, Bool.or_true] at hp
  have := hp.symm
  rw [Bool.and_eq_true, decide_eq_true_eq] at this
  have hp1 := h.h1 r.1
  rw [inL_append, inL_cons, decide_eq_true ⟨Int.le_refl _, hr⟩, Bool.true_or, Bool.or_true] at hp1
  have t1 := hp1.symm
  rw [Bool.and_eq_true, decide_eq_true_eq] at t1
  omega
theorem upto_in {q : Int → Bool} {a b p : Int} (hab : a < b) (h0 : 0 ≤ a) (hc : ∀ p, a ≤ p → p < b → q p = q a) : (decide (0 ≤ p ∧ p < b) && q p) = ((decide (0 ≤ p ∧ p < a) && q p) || (decide (a ≤ p ∧ p < b) && q a)) := by
  by_cases g1 : a ≤ p ∧ p < b
  · rw [decide_eq_true g1, decide_eq_true (p := 0 ≤ p ∧ p < b) ⟨by omega, by omega⟩, decide_eq_false (p := 0 ≤ p ∧ p < a) (by omega), hc p g1.1 g1.2]; simp
  · rw [decide_eq_false g1]
    by_cases g2 : 0 ≤ p ∧ p < a
    · rw [decide_eq_true g2, decide_eq_true (p := 0 ≤ p ∧ p < b) ⟨by omega, by omega⟩]; simp
    · rw [decide_eq_false g2, decide_eq_false (p := 0 ≤ p ∧ p < b) (by omega)]; rfl
theorem Upto.skip {q : Int → Bool} {out : List Rg} {a b : Int} (h : Upto q out a) (hab : a < b) (h0 : 0 ≤ a) (hc : ∀ p, a ≤ p → p < b → q p = q a) (hq : q a = false) : Upto q out b :=
  ⟨fun p => by rw [h.h1, upto_in hab h0 hc, hq, Bool.and_false, Bool.or_false], h.h2⟩
theorem Upto.more {q : Int → Bool} {out : List Rg} {a b : Int} (h : Upto q out a) (hab : a < b) (hb : b ≤ 1114112) (h0 : 0 ≤ a) (hc : ∀ p, a ≤ p → p < b → q p = q a) (hq : q a = true) (hl : ∀ l r, out = l ++ [r] → r.2 + 1 ≠ a) : Upto q (out ++ [(a, b - 1)]) b := by
  refine ⟨fun p => ?_, ?_⟩
  · rw [inL_append, h.h1, upto_in hab h0 hc, hq, Bool.and_true, inL_cons, inL_nil, Bool.or_false]
    congr 2
    simp only [eq_iff_iff]; omega
  · rw [nm_append]
    refine ⟨h.h2, ?_, by show a ≤ b - 1; omega, by show b - 1 ≤ 1114111; omega, trivial⟩
    rcases List.eq_nil_or_concat out with rfl | ⟨l, r, rfl⟩
    · exact h0
    · rw [List.concat_eq_append] at h hl ⊢
      rw [endN_snoc]
      have := h.last
      have := hl l r rfl
      show r.2 + 2 ≤ a
      omega
theorem Upto.join {q : Int → Bool} {l : List Rg} {r : Rg} {a b : Int} (h : Upto q (l ++ [r]) a) (hab : a < b) (hb : b ≤ 1114112) (hc : ∀ p, a ≤ p → p < b → q p = q a) (hq : q a = true) (hr : r.2 + 1 = a) : Upto q (l ++ [(r.1, b - 1)]) b := by
  have hla := h.last
  refine ⟨fun p => ?_, ?_⟩
  · rw [upto_in hab (by omega) hc, ← h.h1, hq, Bool.and_true, inL_append, inL_append, inL_cons, inL_cons, inL_nil, Bool.or_false, Bool.or_false, Bool.or_assoc]
    congr 1
    rw [Bool.eq_iff_iff]
    simp only [Bool.or_eq_true, decide_eq_true_eq]
    omega
  · have := (nm_append l [r] 0).1 h.h2
    rw [nm_append]
    exact ⟨this.1, this.2.1, by show r.1 ≤ b - 1; omega, by show b - 1 ≤ 1114111; omega, trivial⟩
theorem Upto.whole {q : Int → Bool} {out : List Rg} (h : Upto q out 1114112) : Is q out := ⟨h.h2, fun p => by rw [h.h1]; congr 2; simp only [eq_iff_iff]; omega⟩
/-- An edge: where, by what, of which list. -/
abbrev Ed : Type := Int × Int × Int
def edgesOf (l : List Rg) (j : Int) : List Ed := l.flatMap fun r => [(r.1, 1, j), (r.2 + 1, -1, j)]
def dep : List Ed → Int → Int → Int
  | [], _, _ => 0
  | e :: es, j, p => (if e.2.2 = j ∧ e.1 ≤ p then e.2.1 else 0) + dep es j p
def tot : List Ed → Int → Int
  | [], _ => 0
  | e :: es, j => (if e.2.2 = j then e.2.1 else 0) + tot es j
def cnt : List Rg → Int → Int
  | [], _ => 0
  | r :: l, p => (if r.1 ≤ p ∧ p ≤ r.2 then 1 else 0) + cnt l p
theorem dep_append (es fs : List Ed) (j p : Int) : dep (es ++ fs) j p = dep es j p + dep fs j p := by
  induction es with
  | nil => simp [dep]
  | cons e es ih => rw [List.cons_append, dep, dep, ih]; omega
theorem tot_append (es fs : List Ed) (j : Int) : tot (es ++ fs) j = tot es j + tot fs j := by
  induction es with
  | nil => simp [tot]
  | cons e es ih => rw [List.cons_append, tot, tot, ih]; omega
theorem dep_perm {es fs : List Ed} (h : es.Perm fs) (j p : Int) : dep es j p = dep fs j p := by
  induction h with
  | nil => rfl
  | cons x _ ih => rw [dep, dep, ih]
  | swap x y l => simp only [dep]; omega
  | trans _ _ i1 i2 => rw [i1, i2]
theorem dep_edges : ∀ (l : List Rg) (j p : Int), mayL l = true → dep (edgesOf l j) j p = cnt l p
  | [], _, _, _ => rfl
  | r :: l, j, p, h => by
    unfold mayL at h
    rw [List.all_cons, Bool.and_eq_true] at h
    have ih := dep_edges l j p h.2
    have hr := h.1
    simp only [okR, decide_eq_true_eq] at hr
    have e : edgesOf (r :: l) j = (r.1, 1, j) :: (r.2 + 1, -1, j) :: edgesOf l j := rfl
    rw [e, dep, dep, cnt, ih]
    simp only [true_and]
    split <;> split <;> split <;> omega
theorem dep_other : ∀ (l : List Rg) (j k p : Int), j ≠ k → dep (edgesOf l j) k p = 0
  | [], _, _, _, _ => rfl
  | r :: l, j, k, p, h => by
    have e : edgesOf (r :: l) j = (r.1, 1, j) :: (r.2 + 1, -1, j) :: edgesOf l j := rfl
    rw [e, dep, dep, dep_other l j k p h]
    simp [h]
theorem cnt_nonneg : ∀ (l : List Rg) (p : Int), 0 ≤ cnt l p
  | [], _ => by simp [cnt]
  | r :: l, p => by have := cnt_nonneg l p; rw [cnt]; split <;> omega
theorem cnt_in : ∀ (l : List Rg) (p : Int), decide (0 < cnt l p) = inL l p
  | [], _ => rfl
  | r :: l, p => by
    have h1 := cnt_nonneg l p
    have ih := cnt_in l p
    rw [inL_cons, ← ih, cnt, Bool.eq_iff_iff]
    simp only [Bool.or_eq_true, decide_eq_true_eq]
    split <;> omega
theorem dep_low : ∀ (es : List Ed) (j p : Int), (∀ e, e ∈ es → e.1 ≤ p) → dep es j p = tot es j
  | [], _, _, _ => rfl
  | e :: es, j, p, h => by
    rw [dep, tot, dep_low es j p (fun x hx => h x (List.mem_cons_of_mem _ hx))]
    have := h e List.mem_cons_self
    simp [this]
theorem dep_high : ∀ (es : List Ed) (j p : Int), (∀ e, e ∈ es → p < e.1) → dep es j p = 0
  | [], _, _, _ => rfl
  | e :: es, j, p, h => by
    rw [dep, dep_high es j p (fun x hx => h x (List.mem_cons_of_mem _ hx))]
    have := h e List.mem_cons_self
    rw [if_neg (by omega)]; rfl
/-- All edges of two lists, in some order that rises. -/
structure Edges (a b : List Rg) (es : List Ed) : Prop where
  perm : es.Perm (edgesOf a 0 ++ edgesOf b 1)
  rise : ∀ i j, (hij : i < j) → (hj : j < es.length) → (es[i]'(by omega)).1 ≤ es[j].1
theorem Edges.held {a b : List Rg} {es : List Ed} (h : Edges a b es) (ha : mayL a = true) (hb : mayL b = true) {i : Nat} (hi : i ≤ es.length) {p : Int} (h1 : ∀ k, (hk : k < i) → (es[k]'(by omega)).1 ≤ p) (h2 : (hk : i < es.length) → p < es[i].1) :
    decide (0 < tot (es.take i) 0) = inL a p ∧ decide (0 < tot (es.take i) 1) = inL b p := by
  have hlow : ∀ e, e ∈ es.take i → e.1 ≤ p := by
    intro e he
    obtain ⟨k, hk, rfl⟩ := List.mem_iff_getElem.1 he
    rw [List.length_take] at hk
    rw [List.getElem_take]
    exact h1 k (by omega)
  have hhigh : ∀ e, e ∈ es.drop i → p < e.1 := by
    intro e he
    obtain ⟨k, hk, rfl⟩ := List.mem_iff_getElem.1 he
    rw [List.length_drop] at hk
    rw [List.getElem_drop]
    have g := h2 (by omega)
    by_cases e0 : k = 0
    · subst e0; simpa using g
    · have := h.rise i (i + k) (by omega) (by omega)
      omega
  have key : ∀ j, dep es j p = tot (es.take i) j := by
    intro j
    conv => lhs; rw [← List.take_append_drop i es]
    rw [dep_append, dep_low _ _ _ hlow, dep_high _ _ _ hhigh]
    omega
  have k0 := (key 0).symm.trans (dep_perm h.perm 0 p)
  have k1 := (key 1).symm.trans (dep_perm h.perm 1 p)
  rw [dep_append, dep_edges a 0 p ha, dep_other b 1 0 p (by omega)] at k0
  rw [dep_append, dep_other a 0 1 p (by omega), dep_edges b 1 p hb] at k1
  rw [k0, k1, ← cnt_in, ← cnt_in]
  refine ⟨?_, ?_⟩ <;> congr 2 <;> omega
theorem edgesOf_len : ∀ (l : List Rg) (j : Int), (edgesOf l j).length = 2 * l.length
  | [], _ => rfl
  | r :: l, j => by
    have e : edgesOf (r :: l) j = (r.1, 1, j) :: (r.2 + 1, -1, j) :: edgesOf l j := rfl
    rw [e, List.length_cons, List.length_cons, edgesOf_len l j, List.length_cons]
    omega
theorem edgesOf_mem {l : List Rg} {j : Int} {e : Ed} (h : e ∈ edgesOf l j) (hm : mayL l = true) : (e.2.1 = 1 ∨ e.2.1 = -1) ∧ e.2.2 = j ∧ 0 ≤ e.1 ∧ e.1 ≤ 1114112 := by
  obtain ⟨r, hr, he⟩ := List.mem_flatMap.1 h
  have := List.all_eq_true.1 hm r hr
  simp only [okR, decide_eq_true_eq] at this
  simp only [List.mem_cons, List.not_mem_nil, or_false] at he
  rcases he with rfl | rfl
  · exact ⟨Or.inl rfl, rfl, by omega, by omega⟩
  · exact ⟨Or.inr rfl, rfl, by omega, by omega⟩
theorem Edges.mem {a b : List Rg} {es : List Ed} (h : Edges a b es) (ha : mayL a = true) (hb : mayL b = true) {e : Ed} (he : e ∈ es) : (e.2.1 = 1 ∨ e.2.1 = -1) ∧ (e.2.2 = 0 ∨ e.2.2 = 1) ∧ 0 ≤ e.1 ∧ e.1 ≤ 1114112 := by
  have := h.perm.mem_iff.1 he
  rw [List.mem_append] at this
  rcases this with h1 | h1
  · obtain ⟨x, y, z⟩ := edgesOf_mem h1 ha; exact ⟨x, Or.inl y, z⟩
  · obtain ⟨x, y, z⟩ := edgesOf_mem h1 hb; exact ⟨x, Or.inr y, z⟩
theorem tot_bound (es : List Ed) (j : Int) (h : ∀ e, e ∈ es → e.2.1 = 1 ∨ e.2.1 = -1) : -(es.length : Int) ≤ tot es j ∧ tot es j ≤ es.length := by
  induction es with
  | nil => simp [tot]
  | cons e es ih =>
    have := ih (fun x hx => h x (List.mem_cons_of_mem _ hx))
    have := h e List.mem_cons_self
    rw [tot, List.length_cons]
    split <;> omega
/-- How many points there are. -/
def szL (l : List Rg) : Int := (l.map fun r => r.2 - r.1 + 1).sum
def cd (q : Int → Bool) : Int → Nat → Int
  | _, 0 => 0
  | lo, k + 1 => (if q lo then 1 else 0) + cd q (lo + 1) k
theorem cd_ext {q q' : Int → Bool} : ∀ (k : Nat) (lo : Int), (∀ p, lo ≤ p → p < lo + k → q p = q' p) → cd q lo k = cd q' lo k
  | 0, _, _ => rfl
  | k + 1, lo, h => by
    rw [cd, cd, h lo (by omega) (by omega), cd_ext k (lo + 1) (fun p h1 h2 => h p (by omega) (by omega))]
theorem cd_add (q : Int → Bool) : ∀ (k m : Nat) (lo : Int), cd q lo (k + m) = cd q lo k + cd q (lo + k) m
  | 0, m, lo => by simp [cd]
  | k + 1, m, lo => by
    rw [show k + 1 + m = (k + m) + 1 by omega, cd, cd, cd_add q k m (lo + 1), show lo + 1 + (k : Int) = lo + ((k + 1 : Nat) : Int) by omega]
    omega
theorem cd_true {q : Int → Bool} : ∀ (k : Nat) (lo : Int), (∀ p, lo ≤ p → p < lo + k → q p = true) → cd q lo k = k
  | 0, _, _ => rfl
  | k + 1, lo, h => by
    rw [cd, h lo (by omega) (by omega), cd_true k (lo + 1) (fun p h1 h2 => h p (by omega) (by omega))]
    simp; omega
theorem cd_false {q : Int → Bool} : ∀ (k : Nat) (lo : Int), (∀ p, lo ≤ p → p < lo + k → q p = false) → cd q lo k = 0
  | 0, _, _ => rfl
  | k + 1, lo, h => by
    rw [cd, h lo (by omega) (by omega), cd_false k (lo + 1) (fun p h1 h2 => h p (by omega) (by omega))]
    simp
theorem cd_or_and (q r : Int → Bool) : ∀ (k : Nat) (lo : Int), cd (fun p => q p || r p) lo k + cd (fun p => q p && r p) lo k = cd q lo k + cd r lo k
  | 0, _ => by simp [cd]
  | k + 1, lo => by
    have := cd_or_and q r k (lo + 1)
    simp only [cd]
    by_cases h1 : q lo = true <;> by_cases h2 : r lo = true <;> simp [h1, h2] <;> omega
theorem cd_not (q : Int → Bool) : ∀ (k : Nat) (lo : Int), cd q lo k + cd (fun p => !q p) lo k = k
  | 0, _ => by simp [cd]
  | k + 1, lo => by
    have := cd_not q k (lo + 1)
    simp only [cd]
    by_cases h1 : q lo = true <;> simp [h1] <;> omega
theorem szL_cons (r : Rg) (l : List Rg) : szL (r :: l) = r.2 - r.1 + 1 + szL l := by simp [szL]
theorem sz_cd : ∀ (l : List Rg) (lo : Int) (k : Nat), Nm lo l → lo + k = 1114112 → szL l = cd (inL l) lo k
  | [], lo, k, _, _ => by rw [cd_false (q := inL []) k lo (fun _ _ _ => rfl)]; rfl
  | r :: t, lo, k, h, hk => by
    obtain ⟨h1, h2, h3, h4⟩ := h
    obtain ⟨x, hx⟩ : ∃ x : Nat, (x : Int) = r.1 - lo := ⟨(r.1 - lo).toNat, by omega⟩
    obtain ⟨y, hy⟩ : ∃ y : Nat, (y : Int) = r.2 - r.1 + 1 := ⟨(r.2 - r.1 + 1).toNat, by omega⟩
    obtain ⟨z, hz⟩ : ∃ z : Nat, k = x + (y + z) := ⟨k - x - y, by omega⟩
    have ht : ∀ p, p ≤ r.2 + 1 → inL t p = false := fun p hp => by
      cases hh : inL t p with
      | false => rfl
      | true => have := (h4.ge hh).1; omega
    have e1 : cd (inL (r :: t)) lo x = 0 := cd_false x lo (fun p g1 g2 => by rw [inL_cons, decide_eq_false (by omega), ht p (by omega)]; rfl)
    have e2 : cd (inL (r :: t)) (lo + x) y = y := cd_true y _ (fun p g1 g2 => by rw [inL_cons, decide_eq_true (by omega)]; rfl)
    have e3 : cd (inL (r :: t)) (lo + x + y) z = cd (inL t) (lo + x + y) z := cd_ext z _ (fun p g1 g2 => by rw [inL_cons, decide_eq_false (by omega)]; rfl)
    have e4 := sz_cd t (lo + x + y) z (h4.mono (by omega)) (by omega)
    rw [hz, cd_add, cd_add, e1, e2, e3, ← e4, szL_cons]
    omega
/-- What a normal list's count is. -/
theorem Is.size {q : Int → Bool} {l : List Rg} (h : Is q l) {k : Nat} (hk : (k : Int) = 1114112) : szL l = cd q 0 k := by
  rw [sz_cd l 0 k h.1 (by omega)]
  exact cd_ext k 0 (fun p h0 h1 => h.in_ h0 (by omega))
end Go.Proofs.YthjdjgppghplgaaDoor
