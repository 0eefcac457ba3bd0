/-
The document's Scalar, One, Encode. Conditions: at most 2^44 points.
-/
import Derived.Test.YtfiahgahphammaaDoorEnc2
import Derived.Test.YtfiahgahphammaaDoorNum
namespace Go.Proofs.YtfiahgahphammaaDoor
open Go Go.RowKit Go.Proofs.YtfiahgahphammaaDoorW.PrintWords Go.Proofs.YtfiahgahphammaaDoorW.PrintLast Go.Proofs.YtfiahgahphammaaDoorW.PrintMore
set_option maxRecDepth 100000 in
theorem refScalar_any (p : Int) (w : World) :
    Calls Tryd.prog 34 #[.int .i64 p] w fun e w' => e = .returned (.bool (isSc p)) ∧ w = w' := by
  by_cases h1 : 0 ≤ p
  · by_cases h2 : p ≤ 1114111
    · by_cases h3 : p < 55296
      · have e : isSc p = true := by simp [isSc]; omega
        rw [e]
        clear e
        have b1 : decide (0 ≤ p) = true := by simpa using h1
        have b2 : decide (p ≤ 1114111) = true := by simpa using h2
        have b3 : decide (p < 55296) = true := by simpa using h3
        clear h1 h2 h3
        go_enter Tryd.func34, Tryd.ntmps34
        go_wp2
        go_ret
        exact ⟨rfl, rfl⟩
      · by_cases h4 : 57343 < p
        · have e : isSc p = true := by simp [isSc]; omega
          rw [e]
          clear e
          have b1 : decide (0 ≤ p) = true := by simpa using h1
          have b2 : decide (p ≤ 1114111) = true := by simpa using h2
          have b3 : decide (p < 55296) = false := by simpa using h3
          have b4 : decide (57343 < p) = true := by simpa using h4
          clear h1 h2 h3 h4
          go_enter Tryd.func34, Tryd.ntmps34
          go_wp2
          go_ret
          exact ⟨rfl, rfl⟩
        · have e : isSc p = false := by simp [isSc]; omega
          rw [e]
          clear e
          have b1 : decide (0 ≤ p) = true := by simpa using h1
          have b2 : decide (p ≤ 1114111) = true := by simpa using h2
          have b3 : decide (p < 55296) = false := by simpa using h3
          have b4 : decide (57343 < p) = false := by simpa using h4
          clear h1 h2 h3 h4
          go_enter Tryd.func34, Tryd.ntmps34
          go_wp2
          go_ret
          exact ⟨rfl, rfl⟩
    · have e : isSc p = false := by simp [isSc]; omega
      rw [e]
      clear e
      have b1 : decide (0 ≤ p) = true := by simpa using h1
      have b2 : decide (p ≤ 1114111) = false := by simpa using h2
      clear h1 h2
      go_enter Tryd.func34, Tryd.ntmps34
      go_wp2
      go_ret
      exact ⟨rfl, rfl⟩
  · have e : isSc p = false := by simp [isSc]; omega
    rw [e]
    clear e
    have b1 : decide (0 ≤ p) = false := by simpa using h1
    clear h1
    go_enter Tryd.func34, Tryd.ntmps34
    go_wp2
    go_ret
    exact ⟨rfl, rfl⟩
/-- A literal's row as text. -/
theorem lit_str (W : World) (xs : List Int) (hm : xs.length ≤ 9223372036854775807) : (convert 53 9 (.slice (some ⟨W.heap.size, 0, none⟩) xs.length xs.length)).run Tryd.prog (W.alloc (.cells (nums .u8 xs).toArray 5)) = .ok (.string (strOfNums xs)) (W.alloc (.cells (nums .u8 xs).toArray 5)) :=
  own_string (P := Tryd.prog) Tryd.underlying53 Tryd.underlying5 Tryd.underlying9 (own_lit W W.heap.size 5 .u8 xs (Nat.le_refl _) hm)
set_option maxRecDepth 100000 in
set_option maxHeartbeats 2000000 in
theorem one_any (p : Int) (w : World) (hp : 0 ≤ p) (hp2 : p ≤ 1114111) :
    Calls Tryd.prog 35 #[.int .i64 p] w fun e w' => e = .returned (.string (strOfNums (encP p))) ∧ Below w.heap.size w w' := by
  have hB := Below.refl w.heap.size w
  by_cases h1 : p < 128
  · have e : encP p = [p] := by unfold encP; rw [if_pos h1]
    rw [e]
    clear e
    have b1 : decide (p < 128) = true := by simpa using h1
    have hcv := lit_str w [p] (by simp)
    simp only [nums, List.map_cons, List.map_nil, List.length_cons, List.length_nil, Nat.zero_add] at hcv
    go_enter Tryd.func35, Tryd.ntmps35
    go_wp2
    go_ret
    exact ⟨rfl, hB.alloc (Nat.le_refl _) _⟩
  · have b1 : decide (p < 128) = false := by simpa using h1
    by_cases h2 : p < 2048
    · have e : encP p = [192 + p / 64, 128 + p % 64] := by unfold encP; rw [if_neg h1, if_pos h2]
      rw [e]
      clear e
      have b2 : decide (p < 2048) = true := by simpa using h2
      have hcv := lit_str w [192 + p / 64, 128 + p % 64] (by simp)
      simp only [nums, List.map_cons, List.map_nil, List.length_cons, List.length_nil, Nat.zero_add, Nat.reduceAdd] at hcv
      go_enter Tryd.func35, Tryd.ntmps35
      go_wp2
      go_ret
      exact ⟨rfl, hB.alloc (Nat.le_refl _) _⟩
    · have b2 : decide (p < 2048) = false := by simpa using h2
      by_cases h3 : p < 65536
      · have e : encP p = [224 + p / 4096, 128 + p / 64 % 64, 128 + p % 64] := by unfold encP; rw [if_neg h1, if_neg h2, if_pos h3]
        rw [e]
        clear e
        have b3 : decide (p < 65536) = true := by simpa using h3
        have hcv := lit_str w [224 + p / 4096, 128 + p / 64 % 64, 128 + p % 64] (by simp)
        simp only [nums, List.map_cons, List.map_nil, List.length_cons, List.length_nil, Nat.zero_add, Nat.reduceAdd] at hcv
        go_enter Tryd.func35, Tryd.ntmps35
        go_wp2
        go_ret
        exact ⟨rfl, hB.alloc (Nat.le_refl _) _⟩
      · have e : encP p = [240 + p / 262144, 128 + p / 4096 % 64, 128 + p / 64 % 64, 128 + p % 64] := by unfold encP; rw [if_neg h1, if_neg h2, if_neg h3]
        rw [e]
        clear e
        have b3 : decide (p < 65536) = false := by simpa using h3
        have hcv := lit_str w [240 + p / 262144, 128 + p / 4096 % 64, 128 + p / 64 % 64, 128 + p % 64] (by simp)
        simp only [nums, List.map_cons, List.map_nil, List.length_cons, List.length_nil, Nat.zero_add, Nat.reduceAdd] at hcv
        go_enter Tryd.func35, Tryd.ntmps35
        go_wp2
        go_ret
        exact ⟨rfl, hB.alloc (Nat.le_refl _) _⟩
theorem encP_byte {p : Int} (h : isSc p = true) : ∀ x ∈ encP p, 0 ≤ x ∧ x < 256 := by
  have := isSc_ge h
  unfold encP
  intro x hx
  repeat' (first | split at hx)
  all_goals
    simp only [List.mem_cons, List.not_mem_nil, or_false] at hx
    omega
set_option maxRecDepth 100000 in
set_option maxHeartbeats 2000000 in
theorem refEncode_any (A : Option Addr) (c : Nat) (n : Nat) (l : List Int) (w : World) (hr : Kd.C (Kd.int .i64) w A n l) (hs : n ≤ 17592186044415) :
    Calls Tryd.prog 14 #[.slice A n c] w fun e w' => e = .returned (.tuple #[.string (encS l), .int .i64 (numOf (encE l))]) ∧ Below w.heap.size w w' := by
  have HR := Sh.mk hr
  have HN := Sh.mk hr.1
  clear hr
  go_enter Tryd.func14, Tryd.ntmps14
  go_wp2
  go_loopw [4, 5] (fun v i wr => ∃ k : Nat, k ≤ n ∧ i = .int .i64 k ∧ Sh ((l.take k).all isSc = true) ∧ Sh (Kd.R (Kd.int .u8) 5 wr w.heap.size (fun _ => True) v ((l.take k).flatMap encP)) ∧ Sh (Below w.heap.size w wr)) (fun _ i _ => n - (intOf i).toNat)
  case atStart => exact ⟨0, by omega, rfl, ⟨rfl⟩, ⟨Kd.R_nil _ _ _ _ _⟩, ⟨Below.refl _ _⟩⟩
  case round =>
    obtain ⟨k, hk, rfl, HA, HO, HB⟩ := hrel
    by_cases hlt : k < n
    · obtain ⟨ad, e1, hx⟩ := C_at (Kd.C_below HR.out HB.out) k hlt
      cases e1
      have hlen := flat_len (l.take k)
      have hlen2 : (l.take k).length ≤ k := List.length_take_le _ _
      cases hsc : isSc (rd l k) with
      | true =>
        have hge := isSc_ge hsc
        have HS := Sh.mk hsc
        have HL4 := Sh.mk (encP_len (rd l k))
        have HY := Sh.mk (bytesOf_str (encP_byte hsc))
        clear hsc
        go_wp2_with fail
        refine (refScalar_any (rd l k) _).mono ?_
        rintro e w1 ⟨rfl, rfl⟩
        rw [HS.out]
        go_wp2_with fail
        refine (one_any (rd l k) _ hge.1 hge.2).mono ?_
        rintro e w1 ⟨rfl, hb⟩
        have HO1 := Sh.mk (Kd.R_below HO.out hb)
        have HB1 := Sh.mk (below_of HB.out hb)
        clear HO HB hx hb
        go_wp2_with (first | ((with_reducible refine gate_builtin (b := .append) (xs := #[.tmp 26, .tmp 27]) rfl ?_); refine app_strB 53 9 5 Tryd.underlying53 Tryd.underlying9 info_u8 (w0 := w) (.tmp 26) (.tmp 27) _ _ (strOfNums (encP (rd l k))) rfl rfl rfl rfl HO1 HB1 HB1.out.size (by have := HL4.out; rw [strOfNums_size]; omega) ?_; clear HO1 HB1; intro v1 w2 HO HB))
        go_roundw
        case rel => exact ⟨k + 1, by omega, by go_num, ⟨all_take (by rw [HN.out]; exact hlt) HA.out HS.out⟩, ⟨by rw [flat_take (by rw [HN.out]; exact hlt), ← HY.out]; exact HO.out⟩, HB⟩
        case measure => simp [intOf]; omega
      | false =>
        have HS := Sh.mk hsc
        clear hsc
        go_wp2_with fail
        refine (refScalar_any (rd l k) _).mono ?_
        rintro e w1 ⟨rfl, rfl⟩
        rw [HS.out]
        go_wp2
        go_ret2
        have hf := all_not (by rw [HN.out]; exact hlt) HS.out
        exact ⟨by simp [encS, encE, hf, numOf], HB.out⟩
    · have e : l.take k = l := List.take_of_length_le (by rw [HN.out]; omega)
      rw [e] at HO HA
      have hcv := own_string (P := Tryd.prog) Tryd.underlying53 Tryd.underlying5 Tryd.underlying9 (Kd.own_of_R HO.out)
      go_wp2
      go_ret2
      exact ⟨by simp [encS, encE, HA.out, numOf], HB.out⟩
end Go.Proofs.YtfiahgahphammaaDoor
