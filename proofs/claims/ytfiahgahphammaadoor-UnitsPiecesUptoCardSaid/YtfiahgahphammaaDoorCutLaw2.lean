/-
The document's begins and Cut are the program's. Plain Lean over the printed functions. Conditions: at most 2^47 bytes.
-/
import Derived.Test.YtfiahgahphammaaDoorCutLaw
namespace Go.Proofs.YtfiahgahphammaaDoor
open Go Go.RowKit Go.Proofs.YtfiahgahphammaaDoorW.PrintWords Go.Proofs.YtfiahgahphammaaDoorW.PrintLast Go.Proofs.YtfiahgahphammaaDoorW.PrintMore Go.Proofs.YtfiahgahphammaaDoor.PUnitsCuts
theorem bytesOf_append (a b : ByteArray) : bytesOf (a ++ b) = bytesOf a ++ bytesOf b := by
  simp [bytesOf, ByteArray.data_append]
def padTo : Nat → ByteArray → ByteArray
  | 0, x => x
  | m + 1, x => padTo m (x ++ (⟨#[128]⟩ : ByteArray))
theorem bytesOf_padTo : ∀ (m : Nat) (x : ByteArray), bytesOf (padTo m x) = bytesOf x ++ List.replicate m 128
  | 0, x => by simp [padTo]
  | m + 1, x => by rw [padTo, bytesOf_padTo m, bytesOf_append, List.append_assoc]; rfl
theorem size_padTo (m : Nat) (x : ByteArray) : (padTo m x).size = x.size + m := by
  rw [← bytesOf_length, bytesOf_padTo, List.length_append, bytesOf_length, List.length_replicate]
def secsL : List ByteArray := [(⟨#[128]⟩ : ByteArray), (⟨#[144]⟩ : ByteArray), (⟨#[160]⟩ : ByteArray)]
theorem l1_f (x0 : ByteArray) (n : Int) (j : Int) : ∀ (m : Nat) (x : ByteArray) (F : Nat), (x.size : Int) + m = n → n ≤ 4 → m + 11 ≤ F →
    caesuraref2_begins.l1 F x0 n secsL j x = if (goodC (padTo m x) 0).2 = n then some true else caesuraref2_begins.l0 (F - m - 1) x0 n secsL (wrap64 (j + 1))
  | 0, x, F, hx, hn, hF => by
    obtain ⟨K, rfl⟩ : ∃ K, F = K + 10 + 1 := ⟨F - 11, by omega⟩
    rw [caesuraref2_begins.l1, if_neg (by omega)]
    have := good_f K x 0 (by omega) (by omega)
    rw [show ((0 : Nat) : Int) = 0 from rfl] at this
    rw [this]
    rfl
  | m + 1, x, F, hx, hn, hF => by
    obtain ⟨K, rfl⟩ : ∃ K, F = K + 1 := ⟨F - 1, by omega⟩
    rw [caesuraref2_begins.l1, if_pos (by omega), if_pos (by omega)]
    rw [l1_f x0 n j m (x ++ (⟨#[128]⟩ : ByteArray)) K (by rw [ByteArray.size_append]; show ((x.size + 1 : Nat) : Int) + m = n; omega) hn (by omega)]
    rw [show K + 1 - (m + 1) - 1 = K - m - 1 by omega]
    rfl
/-- What a second is put behind. -/
def stOf (t : ByteArray) (j : Nat) : ByteArray := if t.size = 1 then t ++ secsL.getD j ByteArray.empty else t
theorem lb_f (t : ByteArray) (n : Int) (j m F : Nat) (hj : j < 3) (hm : ((stOf t j).size : Int) + m = n) (hn : n ≤ 4) (hF : m + 13 ≤ F) :
    caesuraref2_begins.l0 F t n secsL j = if (goodC (padTo m (stOf t j)) 0).2 = n then some true else caesuraref2_begins.l0 (F - m - 3) t n secsL ((j + 1 : Nat) : Int) := by
  obtain ⟨K, rfl⟩ : ∃ K, F = K + 1 + 1 := ⟨F - 2, by omega⟩
  have hw : wrap64 ((j : Int) + 1) = ((j + 1 : Nat) : Int) := by unfold wrap64; omega
  have hlen : (secsL.length : Int) = 3 := rfl
  have hl1 := l1_f t n j m (stOf t j) K hm hn (by omega)
  rw [hw] at hl1
  rw [caesuraref2_begins.l0, if_pos (by rw [hlen]; omega)]
  by_cases h1 : t.size = 1
  · rw [if_pos (by omega), if_pos (by omega)]
    have hs : rdOf ByteArray.empty secsL (j : Int) = secsL.getD j ByteArray.empty := rfl
    have hsz : (secsL.getD j ByteArray.empty).size = 1 := by
      have : j = 0 ∨ j = 1 ∨ j = 2 := by omega
      rcases this with rfl | rfl | rfl <;> rfl
    have hst : stOf t j = t ++ secsL.getD j ByteArray.empty := by unfold stOf; rw [if_pos h1]
    rw [hs, if_pos (by rw [h1, hsz]; omega), caesuraref2_begins.j1, ← hst, hl1, show K + 1 + 1 - m - 3 = K - m - 1 by omega]
  · rw [if_neg (by omega)]
    have hst : stOf t j = t := by unfold stOf; rw [if_neg h1]
    rw [hst] at hl1
    rw [caesuraref2_begins.j1, hst, hl1, show K + 1 + 1 - m - 3 = K - m - 1 by omega]
theorem lend_f (t : ByteArray) (n : Int) (F : Nat) (hF : 1 ≤ F) : caesuraref2_begins.l0 F t n secsL ((3 : Nat) : Int) = some false := by
  obtain ⟨K, rfl⟩ : ∃ K, F = K + 1 := ⟨F - 1, by omega⟩
  rw [caesuraref2_begins.l0, if_neg (show ¬ (((3 : Nat) : Int) < (secsL.length : Int)) by decide)]
theorem three_f {c0 c1 c2 : Prop} [Decidable c0] [Decidable c1] [Decidable c2] : (if c0 then some true else if c1 then some true else if c2 then some true else some false) = some (decide (c0 ∨ c1 ∨ c2)) := by
  by_cases h0 : c0 <;> by_cases h1 : c1 <;> by_cases h2 : c2 <;> simp [h0, h1, h2]
/-- The seconds serve every form. -/
theorem some_second (k : Nat) (hk : k < 8) (m : Nat) : okRest k (128 :: List.replicate m 128) = true ∨ okRest k (144 :: List.replicate m 128) = true ∨ okRest k (160 :: List.replicate m 128) = true := by
  have hr : (List.replicate m (128 : Int)).all (fun c => decide (128 ≤ c ∧ c ≤ 191)) = true := by simp
  have h : k = 0 ∨ k = 1 ∨ k = 2 ∨ k = 3 ∨ k = 4 ∨ k = 5 ∨ k = 6 ∨ k = 7 := by omega
  simp only [okRest, hr, Bool.and_true]
  rcases h with rfl | rfl | rfl | rfl | rfl | rfl | rfl | rfl <;> decide
theorem okRest_pad (k : Nat) (b : Int) (r : List Int) (m : Nat) : okRest k (b :: r ++ List.replicate m 128) = okRest k (b :: r) := by
  simp [okRest]
theorem begins_f (K : Nat) (t : ByteArray) (h0 : 1 ≤ t.size) (h3 : t.size ≤ 3) : ∃ b : Bool, caesuraref2_begins.f (K + 40) t = some b ∧ (b = true ↔ longer t 0) := by
  obtain ⟨a, r, hb⟩ : ∃ a r, bytesOf t = a :: r := by
    cases h : bytesOf t with
    | nil => have := bytesOf_length t; rw [h] at this; simp at this; omega
    | cons a r => exact ⟨a, r, rfl⟩
  have hs := size_of hb
  simp only [List.length_cons] at hs
  have e0 := bt_of hb 0
  simp only [List.getD_cons_zero] at e0
  have hrange := bt_range t (0 : Nat)
  rw [e0] at hrange
  have hsz := sizeR_le a
  have hlong := run_longer hb (by omega)
  unfold caesuraref2_begins.f
  rw [if_pos (by omega), show K + 40 = (K + 37) + 3 by omega, size_f, show bt t 0 = a from e0]
  simp only [Option.bind_some]
  by_cases hle : sizeR a ≤ (t.size : Int)
  · rw [if_pos hle]
    refine ⟨false, rfl, ?_⟩
    rw [hlong]
    constructor
    · intro h; cases h
    · rintro ⟨k, hk, hz, _⟩
      have := (lead_size hk).1
      omega
  · rw [if_neg hle]
    obtain ⟨n, hn⟩ : ∃ n : Nat, sizeR a = n := ⟨(sizeR a).toNat, by omega⟩
    rw [hn] at hle hsz ⊢
    have h128 : 128 ≤ a := by
      by_cases h : a < 128
      · unfold sizeR at hn; rw [if_pos h] at hn; omega
      · omega
    have hst : ∀ j, j < 3 → (stOf t j).size = max 2 t.size := by
      intro j hj
      unfold stOf
      by_cases h1 : t.size = 1
      · have hsz : (secsL.getD j ByteArray.empty).size = 1 := by
          have : j = 0 ∨ j = 1 ∨ j = 2 := by omega
          rcases this with rfl | rfl | rfl <;> rfl
        rw [if_pos h1, ByteArray.size_append, hsz, h1]; rfl
      · rw [if_neg h1]; omega
    obtain ⟨m, hm⟩ : ∃ m : Nat, max 2 t.size + m = n := ⟨n - max 2 t.size, by omega⟩
    have step := fun j (hj : j < 3) F hF => lb_f t (n : Int) j m F hj (by rw [hst j hj]; omega) (by omega) hF
    have s0 := step 0 (by omega) (K + 37 + 3) (by omega)
    rw [step 1 (by omega) _ (by omega), step 2 (by omega) _ (by omega), lend_f _ _ _ (by omega), three_f] at s0
    refine ⟨_, s0, ?_⟩
    rw [decide_eq_true_iff, hlong]
    have hbytes : ∀ j, j < 3 → bytesOf (padTo m (stOf t j)) = a :: ((if t.size = 1 then bytesOf (secsL.getD j ByteArray.empty) else r) ++ List.replicate m 128) := by
      intro j hj
      rw [bytesOf_padTo]
      unfold stOf
      by_cases h1 : t.size = 1
      · rw [if_pos h1, if_pos h1, bytesOf_append, hb]
        have : r = [] := List.length_eq_zero_iff.1 (by omega)
        subst this
        rfl
      · rw [if_neg h1, if_neg h1, hb]
        rfl
    have key : ∀ j, j < 3 → ((goodC (padTo m (stOf t j)) 0).2 = (n : Int) ↔ ∃ k, leadF a = some k ∧ formAt k 4 = n ∧ okRest k ((if t.size = 1 then bytesOf (secsL.getD j ByteArray.empty) else r) ++ List.replicate m 128) = true) := by
      intro j hj
      have hlen : ((if t.size = 1 then bytesOf (secsL.getD j ByteArray.empty) else r) ++ List.replicate m 128).length + 1 = n := by
        have h := size_of (hbytes j hj)
        rw [size_padTo, hst j hj, List.length_cons] at h
        omega
      have hpg : ∀ X : List Int, bytesOf (padTo m (stOf t j)) = a :: X → X.length + 1 = n → ((goodC (padTo m (stOf t j)) 0).2 = (n : Int) ↔ ∃ k, leadF a = some k ∧ formAt k 4 = n ∧ okRest k X = true) := by
        intro X hX hl
        have h := pad_good hX (by omega) (by omega) h128
        rw [show ((X.length : Int) + 1) = (n : Int) by omega] at h
        exact h
      exact hpg _ (hbytes j hj) hlen
    rw [key 0 (by omega), key 1 (by omega), key 2 (by omega)]
    by_cases h1 : t.size = 1
    · simp only [if_pos h1]
      have hr0 : r = [] := List.length_eq_zero_iff.1 (by omega)
      subst hr0
      constructor
      · have : ∀ x, (∃ k, leadF a = some k ∧ formAt k 4 = (n : Int) ∧ okRest k x = true) → ∃ k, leadF a = some k ∧ ((([] : List Int).length : Int)) + 1 < formAt k 4 ∧ 128 ≤ a ∧ okRest k [] = true := by
          rintro x ⟨k, hk, hz, _⟩
          exact ⟨k, hk, by simp; omega, h128, rfl⟩
        rintro (h | h | h) <;> exact this _ h
      · rintro ⟨k, hk, _, _, _⟩
        have hz := (lead_size hk).1
        rcases some_second k (leadF_lt hk) m with h | h | h
        · exact Or.inl ⟨k, hk, hz.symm.trans hn, h⟩
        · exact Or.inr (Or.inl ⟨k, hk, hz.symm.trans hn, h⟩)
        · exact Or.inr (Or.inr ⟨k, hk, hz.symm.trans hn, h⟩)
    · simp only [if_neg h1]
      cases r with
      | nil => exact absurd (by simpa using hs) h1
      | cons b r' =>
        simp only [okRest_pad, or_self]
        constructor
        · rintro ⟨k, hk, hz, ho⟩
          exact ⟨k, hk, by rw [hz]; omega, h128, ho⟩
        · rintro ⟨k, hk, hz, _, ho⟩
          exact ⟨k, hk, by rw [← (lead_size hk).1]; exact hn, ho⟩
theorem bytesOf_drop (s : ByteArray) (i : Nat) (h : i ≤ s.size) : bytesOf (s.extract i s.size) = (List.range (s.size - i)).map fun j => bt s (i + j : Nat) := by
  have := bytesOf_extract s i (s.size - i) (by omega)
  rwa [show i + (s.size - i) = s.size by omega] at this
theorem bt_drop (s : ByteArray) (i j : Nat) (h : i + j < s.size) : bt (s.extract i s.size) j = bt s (i + j : Nat) := by
  rw [bt_of (bytesOf_drop s i (by omega)) j]
  have hj : j < s.size - i := by omega
  simp [List.getD, List.getElem?_map, List.getElem?_range hj]
theorem size_drop (s : ByteArray) (i : Nat) : (s.extract i s.size).size = s.size - i := by rw [ByteArray.size_extract]; omega
theorem tail_drop (s : ByteArray) (i : Nat) (hi : i ≤ s.size) : ∀ (m n : Nat) (lo hi p : Int), tailR (s.extract i s.size) 0 m n lo hi p = tailR s i m n lo hi p
  | 0, _, _, _, _ => rfl
  | m + 1, n, lo, hi', p => by
    rw [tailR, tailR, size_drop]
    by_cases hlt : i + n < s.size
    · rw [Nat.zero_add, bt_drop s i n hlt]
      by_cases hc : lo ≤ bt s (i + n : Nat) ∧ bt s (i + n : Nat) ≤ hi'
      · rw [if_pos ⟨by omega, hc⟩, if_pos ⟨hlt, hc⟩, tail_drop s i hi]
      · rw [if_neg (fun h => hc h.2), if_neg (fun h => hc h.2)]
    · rw [if_neg (fun h => hlt (by have := h.1; omega)), if_neg (fun h => hlt h.1)]
theorem run_drop (s : ByteArray) (i : Nat) (hi : i < s.size) : runR (s.extract i s.size) 0 = runR s i := by
  have h0 := bt_drop s i 0 (by omega)
  rw [Nat.add_zero] at h0
  unfold runR
  rw [h0]
  simp only [tail_drop s i (by omega)]
theorem longer_drop (s : ByteArray) (i : Nat) (hi : i < s.size) : longer (s.extract i s.size) 0 ↔ longer s i := by
  unfold longer
  rw [run_drop s i hi, size_drop, Nat.sub_zero]
instance (s : ByteArray) (i : Nat) : Decidable (longer s i) := inferInstanceAs (Decidable (_ ∧ _))
/-- The program's Cut. -/
def cutAux (s : ByteArray) : Nat → Nat
  | 0 => 0
  | b + 1 => if longer s (s.size - (b + 1)) then b + 1 else cutAux s b
def cutR (s : ByteArray) : Nat := cutAux s (min 3 s.size)
theorem cut_l0 (s : ByteArray) (hs : s.size ≤ 140737488355327) : ∀ (b F : Nat), b ≤ 3 → b + 41 ≤ F → caesuraref2_Cut.l0 F s b = some ((cutAux s (min b s.size) : Nat) : Int)
  | 0, F, _, hF => by
    obtain ⟨K, rfl⟩ : ∃ K, F = K + 1 := ⟨F - 1, by omega⟩
    rw [caesuraref2_Cut.l0, if_neg (by omega)]
    simp [cutAux]
  | b + 1, F, hb, hF => by
    obtain ⟨K, rfl⟩ : ∃ K, F = K + 40 + 1 := ⟨F - 41, by omega⟩
    have hw : wrap64 (((b + 1 : Nat) : Int) - 1) = (b : Int) := by unfold wrap64; omega
    have ih := cut_l0 s hs b (K + 40) (by omega) (by omega)
    rw [caesuraref2_Cut.l0, if_pos (by omega), hw, ih]
    by_cases hle : b + 1 ≤ s.size
    · have hw2 : wrap64 ((s.size : Int) - ((b + 1 : Nat) : Int)) = ((s.size - (b + 1) : Nat) : Int) := by unfold wrap64; omega
      rw [if_pos (by omega), hw2, if_pos (by omega), if_pos (by omega), Int.toNat_natCast]
      obtain ⟨t, ht, hlong⟩ := begins_f K (s.extract (s.size - (b + 1)) s.size) (by rw [size_drop]; omega) (by rw [size_drop]; omega)
      rw [ht, Option.bind_some]
      rw [longer_drop s _ (by omega)] at hlong
      rw [show min (b + 1) s.size = b + 1 by omega, show min b s.size = b by omega, cutAux]
      by_cases hl : longer s (s.size - (b + 1))
      · rw [if_pos (hlong.2 hl), if_pos hl]
      · rw [if_neg (fun h => hl (hlong.1 h)), if_neg hl]
    · rw [if_neg (by omega), show min (b + 1) s.size = min b s.size by omega]
theorem cut_f (s : ByteArray) (hs : s.size ≤ 140737488355327) : caesuraref2_Cut.f 44 s = some ((cutR s : Nat) : Int) := cut_l0 s hs 3 44 (by omega) (by omega)
end Go.Proofs.YtfiahgahphammaaDoor
