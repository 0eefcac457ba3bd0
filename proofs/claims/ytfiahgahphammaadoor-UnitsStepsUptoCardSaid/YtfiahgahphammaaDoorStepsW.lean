/-
units.inside, Next, Prev, the document's Next and Prev, walked. Conditions: the text's size; the table reads as listed.
-/
import Derived.Test.YtfiahgahphammaaDoorStepsLaw
import Derived.Test.YtfiahgahphammaaDoorSameUnits
namespace Go.Proofs.YtfiahgahphammaaDoor
open Go Go.RowKit Go.Proofs.YtfiahgahphammaaDoorW.PrintWords Go.Proofs.YtfiahgahphammaaDoorW.PrintLast Go.Proofs.YtfiahgahphammaaDoorW.PrintMore
attribute [local go_sem high] eqU
theorem any_range_succ {k n : Nat} {p : Nat → Bool} (hk : k < n) (h : (List.range k).any p = false) : (p k = true → (List.range n).any p = true) ∧ (p k = false → (List.range (k + 1)).any p = false) := by
  constructor
  · intro hp
    exact List.any_eq_true.2 ⟨k, by simpa using hk, hp⟩
  · intro hp
    rw [List.range_succ, List.any_append, h]
    simp [hp]
theorem any_above {k n : Nat} {p : Nat → Bool} (h : (List.range k).any p = false) (hn : ∀ b, k ≤ b → b < n → p b = false) : (List.range n).any p = false := by
  rw [List.any_eq_false] at h ⊢
  intro b hb
  by_cases hlt : b < k
  · exact h b (by simpa using hlt)
  · rw [hn b (by omega) (by simpa using hb)]
    simp
set_option maxRecDepth 100000 in
set_option maxHeartbeats 4000000 in
theorem inside_any (s : ByteArray) (a : Nat) (w : World) (hf : FormsAt w) (ha : a < s.size) (hs : s.size ≤ 140737488355327) :
    Calls Tryd.prog 41 #[.string s, .int .i64 a] w fun e w' => e = .returned (.bool (insideR s a)) ∧ Below w.heap.size w w' := by
  have HF := Sh.mk hf
  clear hf
  go_enter Tryd.func41, Tryd.ntmps41
  go_wp2
  go_loopw [5] (fun v wr => ∃ k : Nat, k ≤ 3 ∧ v = .int .i64 ((k + 1 : Nat) : Int) ∧ Sh ((List.range k).any (fun b => decide (b + 1 ≤ a) && covB s (a - (b + 1)) a) = false) ∧ Sh (Below w.heap.size w wr)) (fun v _ => 4 - (intOf v).toNat)
  case atStart => exact ⟨0, by omega, rfl, ⟨rfl⟩, ⟨Below.refl _ _⟩⟩
  case round =>
    obtain ⟨k, hk, rfl, HN, HB⟩ := hrel
    obtain ⟨b, hb⟩ : ∃ b, b = k + 1 := ⟨_, rfl⟩
    rw [← hb]
    have HBK := Sh.mk hb
    clear hb
    by_cases h3 : b ≤ 3
    · have l1 : decide (b ≤ 3) = true := by simpa using h3
      have l1' : decide ((b : Int) ≤ 3) = true := by simp; omega
      by_cases hba : b ≤ a
      · have l2 : decide (b ≤ a) = true := by simpa using hba
        have hk3 : k < 3 := by have := HBK.out; omega
        obtain ⟨q, hq⟩ : ∃ q, q = a - b := ⟨_, rfl⟩
        have e1 : (a : Int) - (b : Int) = (q : Int) := by omega
        have hqs : q < s.size := by omega
        have HQ := Sh.mk hq
        have hpos := HBK.out
        have hpos2 : 1 ≤ b := by omega
        clear hq hpos
        go_wp2_with fail
        refine (unit_any s q wr (HF.out.below HB.out) hqs hs).mono ?_
        rintro e w1 ⟨rfl, hb1⟩
        have HB1 := Sh.mk (below_of HB.out hb1)
        have HB2 : Sh (∀ o, Below w.heap.size w (w1.alloc o)) := ⟨fun o => HB1.out.alloc HB1.out.size o⟩
        have hul := unitLen_pos s q
        clear hb1 HB
        cases hc : covB s q a with
        | true =>
          have HR := Sh.mk (show insideR s a = true from (any_range_succ hk3 HN.out).1 (by have := HBK.out; have := HQ.out; simp only [Bool.and_eq_true, decide_eq_true_eq]; exact ⟨by omega, by rw [show a - (k + 1) = q by omega]; exact hc⟩))
          have c1 : (unitPt s q == -1) = false := by simp [covB] at hc; simpa using hc.1
          have c2 : decide ((a : Int) < (q : Int) + (unitLen s q : Int)) = true := by simp [covB] at hc; simp; omega
          have c0 : (unitPt s q != -1) = true := by simp [covB] at hc; simpa using hc.1
          have c3 : (unitPt s q != -1 && decide ((a : Int) < (q : Int) + (unitLen s q : Int))) = true := by rw [c0, c2]; rfl
          clear hc HN
          go_wp2
          go_ret
          exact ⟨by rw [HR.out]; rfl, HB2.out _⟩
        | false =>
          have HR := Sh.mk ((any_range_succ hk3 HN.out).2 (by have := HBK.out; have := HQ.out; simp only [Bool.and_eq_false_imp]; intro _; rw [show a - (k + 1) = q by omega]; exact hc))
          by_cases hp : unitPt s q = -1
          · have c1 : (unitPt s q == -1) = true := by simpa using hp
            have c0 : (unitPt s q != -1) = false := by simpa using hp
            have c3 : (unitPt s q != -1 && decide ((a : Int) < (q : Int) + (unitLen s q : Int))) = false := by rw [c0]; rfl
            clear hc HN hp
            go_wp2
            go_roundw
            case rel => exact ⟨k + 1, by omega, by have := HBK.out; subst this; go_num, HR, ⟨HB2.out _⟩⟩
            case measure => have := HBK.out; simp [intOf]; omega
          · have c1 : (unitPt s q == -1) = false := by simpa using hp
            have c2 : decide ((a : Int) < (q : Int) + (unitLen s q : Int)) = false := by simp [covB, hp] at hc; simp; omega
            have c0 : (unitPt s q != -1) = true := by simpa using hp
            have c3 : (unitPt s q != -1 && decide ((a : Int) < (q : Int) + (unitLen s q : Int))) = false := by rw [c0, c2]; rfl
            clear hc HN hp
            go_wp2
            go_roundw
            case rel => exact ⟨k + 1, by omega, by have := HBK.out; subst this; go_num, HR, ⟨HB2.out _⟩⟩
            case measure => have := HBK.out; simp [intOf]; omega
      · have l2 : decide (b ≤ a) = false := by simpa using hba
        have HR := Sh.mk (show insideR s a = false from any_above HN.out (fun c h1 h2 => by have := HBK.out; simp; intro h; omega))
        clear HN hba
        go_wp2
        go_ret
        exact ⟨by rw [HR.out]; rfl, HB.out⟩
    · have l1 : decide (b ≤ 3) = false := by simpa using h3
      have l1' : decide ((b : Int) ≤ 3) = false := by simp; omega
      have HR := Sh.mk (show insideR s a = false from any_above HN.out (fun c h1 h2 => by have := HBK.out; omega))
      clear HN h3
      go_wp2
      go_ret
      exact ⟨by rw [HR.out]; rfl, HB.out⟩
end Go.Proofs.YtfiahgahphammaaDoor
