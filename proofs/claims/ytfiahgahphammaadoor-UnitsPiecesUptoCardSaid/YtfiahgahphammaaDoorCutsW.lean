/-
units.Cut and the law UnitsCuts, walked. Conditions: the table reads as listed; at most 2^47 bytes.
-/
import Derived.Test.YtfiahgahphammaaDoorCutLaw2
namespace Go.Proofs.YtfiahgahphammaaDoor
open Go Go.RowKit Go.Proofs.YtfiahgahphammaaDoorW.PrintWords Go.Proofs.YtfiahgahphammaaDoorW.PrintLast Go.Proofs.YtfiahgahphammaaDoorW.PrintMore Go.Proofs.YtfiahgahphammaaDoor.PUnitsCuts
set_option maxRecDepth 100000 in
set_option maxHeartbeats 4000000 in
theorem cut_any (s : ByteArray) (w : World) (hf : FormsAt w) (hs : s.size ≤ 140737488355327) :
    Calls Tryd.prog 18 #[.string s] w fun e w' => e = .returned (.int .i64 (cutR s : Nat)) ∧ Below w.heap.size w w' := by
  have HF := Sh.mk hf
  clear hf
  obtain ⟨m, hm⟩ : ∃ m, m = min 3 s.size := ⟨_, rfl⟩
  have HM := Sh.mk (show cutR s = cutAux s m by rw [hm]; rfl)
  have hmin : (if (s.size : Int) < 3 then (s.size : Int) else 3) = m := by split <;> omega
  have hmin2 : min (3 : Int) (s.size : Int) = m := by omega
  have hm3 : m ≤ 3 := by omega
  have hms : m ≤ s.size := by omega
  clear hm
  go_enter Tryd.func18, Tryd.ntmps18
  go_wp2
  go_loopw [3] (fun vb wr => ∃ b : Nat, b ≤ m ∧ vb = .int .i64 b ∧ Sh (cutR s = cutAux s b) ∧ Sh (Below w.heap.size w wr)) (fun vb _ => (intOf vb).toNat)
  case atStart => exact ⟨m, by omega, rfl, HM, ⟨Below.refl _ _⟩⟩
  case round =>
    obtain ⟨b, hb, rfl, HC, HB⟩ := hrel
    by_cases hb0 : b = 0
    · subst hb0
      go_wp2
      go_ret
      exact ⟨by rw [HC.out]; rfl, HB.out⟩
    · obtain ⟨c, hc⟩ : ∃ c, b = c + 1 := ⟨b - 1, by omega⟩
      have e0 : cutAux s b = if longer s (s.size - b) then b else cutAux s c := by rw [hc]; rfl
      have e3 : (b : Int) - 1 = (c : Int) := by omega
      have hcm : c ≤ m := by omega
      have hcb : c < b := by omega
      have hb1 : 1 ≤ b := by omega
      clear hc
      have e1 : (s.size : Int) - (b : Int) = ((s.size - b : Nat) : Int) := by omega
      obtain ⟨i, hi⟩ : ∃ i, i = s.size - b := ⟨_, rfl⟩
      rw [← hi] at e1 e0
      have hi2 : i < s.size := by omega
      have HI := Sh.mk hi
      have HE0 := Sh.mk e0
      clear hi e0
      go_wp2_with fail
      refine (run_any s i wr (HF.out.below HB.out) hi2 hs).mono ?_
      rintro e w1 ⟨rfl, hb1⟩
      have HB1 := Sh.mk (below_of HB.out hb1)
      clear hb1 HB
      by_cases hl : longer s i
      · have HE := Sh.mk (HC.out.trans (HE0.out.trans (if_pos hl)))
        have l1 : (((runR s i).1 : Int) == (b : Int)) = true := by have h := hl.1; have := HI.out; simp; omega
        have l1' : ((runR s i).1 == b) = true := by have h := hl.1; have := HI.out; simp; omega
        have l2 : decide ((runR s i).1 < (runR s i).2.1) = true := by simpa using hl.2
        clear hl HC HM HE0
        go_wp2
        go_ret
        exact ⟨by rw [HE.out]; rfl, HB1.out⟩
      · have HE := Sh.mk (HC.out.trans (HE0.out.trans (if_neg hl)))
        by_cases h1 : (runR s i).1 = b
        · have l1 : (((runR s i).1 : Int) == (b : Int)) = true := by simp; omega
          have l1' : ((runR s i).1 == b) = true := by simp; omega
          have l2 : decide ((runR s i).1 < (runR s i).2.1) = false := by
            simp only [decide_eq_false_iff_not]
            intro h
            exact hl ⟨by have := HI.out; omega, h⟩
          clear hl HC HM h1 HE0
          go_wp2
          go_roundw
          case rel => exact ⟨c, by omega, by go_num, HE, HB1⟩
          case measure => simp [intOf]; omega
        · have l1 : (((runR s i).1 : Int) == (b : Int)) = false := by simp; omega
          have l1' : ((runR s i).1 == b) = false := by simp; omega
          clear hl HC HM h1 HE0
          go_wp2
          go_roundw
          case rel => exact ⟨c, by omega, by go_num, HE, HB1⟩
          case measure => simp [intOf]; omega
set_option maxRecDepth 100000 in
theorem cuts_any (s : ByteArray) (w : World) (hf : FormsAt w) (hs : s.size ≤ 140737488355327) :
    Calls Tryd.prog 4 #[.string s] w fun e w' => e = .returned (.bool true) ∧ Below w.heap.size w w' := by
  have hcc : (((cutR s : Nat) : Int) == ((cutR s : Nat) : Int)) = true := by simp
  go_enter Tryd.func4, Tryd.ntmps4
  go_wp2_with fail
  refine (cut_any s w hf hs).mono ?_
  rintro e w1 ⟨rfl, hb⟩
  go_wp2_with fail
  refine (caesuraref2_Cut.calls 44 s _ w1 (cut_f s hs)).mono ?_
  rintro e w2 ⟨rfl, hb2⟩
  go_wp2
  go_ret
  exact ⟨rfl, below_of hb hb2⟩
end Go.Proofs.YtfiahgahphammaaDoor
