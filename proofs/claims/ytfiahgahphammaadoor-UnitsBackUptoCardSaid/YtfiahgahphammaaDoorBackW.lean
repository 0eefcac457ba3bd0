/-
The walk of caesuralaw2.UnitsBack, with scalar and the document's Points. Conditions: at most 2^20 numbers; the table and the sentinel lie as listed.
-/
import Derived.Test.YtfiahgahphammaaDoorBackLaw
import Derived.Test.YtfiahgahphammaaDoorSameUnits
import Derived.Test.YtfiahgahphammaaDoorLists
import Derived.Test.YtfiahgahphammaaDoorPickFirst
namespace Go.Proofs.YtfiahgahphammaaDoor
open Go Go.RowKit Go.Proofs.YtfiahgahphammaaDoorW.PrintWords Go.Proofs.YtfiahgahphammaaDoorW.PrintLast Go.Proofs.YtfiahgahphammaaDoorW.PrintMore
set_option maxRecDepth 100000 in
set_option maxHeartbeats 4000000 in
theorem lawScalar_any (x : Int) (w : World) :
    Calls Tryd.prog 29 #[.int .i64 x] w fun e w' => e = .returned (.int .i64 (scalarF x)) ∧ w = w' := by
  have h1 := Int.emod_nonneg x (by omega : (1114112 : Int) ≠ 0)
  have h2 := Int.emod_lt_of_pos x (show (0 : Int) < 1114112 by omega)
  obtain ⟨r, hr⟩ : ∃ r, r = x % 1114112 := ⟨_, rfl⟩
  have HS := Sh.mk (show scalarF x = if 55296 ≤ r ∧ r ≤ 57343 then r - 55296 else r by rw [hr]; rfl)
  rw [← hr] at h1 h2
  have hpick := pick_any x 1114112 w (by omega) (by omega)
  rw [show (((1114112 : Nat) : Int)) = 1114112 from rfl, ← hr] at hpick
  have HPK := Sh.mk hpick
  clear hr hpick
  go_enter Tryd.func29, Tryd.ntmps29
  go_wp2_with fail
  refine HPK.out.mono ?_
  rintro e w1 ⟨rfl, rfl⟩
  by_cases ha : 55296 ≤ r
  · have l1 : decide (55296 ≤ r) = true := by simpa using ha
    by_cases hb : r ≤ 57343
    · have l2 : decide (r ≤ 57343) = true := by simpa using hb
      have HR := Sh.mk (HS.out.trans (if_pos ⟨ha, hb⟩))
      clear hb HS
      go_wp2
      go_ret
      exact ⟨by rw [HR.out]; rfl, rfl⟩
    · have l2 : decide (r ≤ 57343) = false := by simpa using hb
      have HR := Sh.mk (HS.out.trans (if_neg (fun h => hb h.2)))
      clear hb HS
      go_wp2
      go_ret
      exact ⟨by rw [HR.out]; rfl, rfl⟩
  · have l1 : decide (55296 ≤ r) = false := by simpa using ha
    have HR := Sh.mk (HS.out.trans (if_neg (fun h => ha h.1)))
    clear ha HS
    go_wp2
    go_ret
    exact ⟨by rw [HR.out]; rfl, rfl⟩
set_option maxRecDepth 100000 in
set_option maxHeartbeats 4000000 in
theorem points_any (A : Option Addr) (c n : Nat) (xs : List (Int × Int × Int)) (w : World) (hr : unitK.C w A n xs) (hs : n ≤ 17592186044415) :
    Calls Tryd.prog 30 #[.slice A n c] w fun e w' => ∃ v, e = .returned v ∧ Kd.R (Kd.int .i64) 3 w' w.heap.size (fun _ => True) v (xs.map (·.1)) ∧ Below w.heap.size w w' := by
  have HR := Sh.mk hr
  have HN := Sh.mk hr.1
  clear hr
  go_enter Tryd.func30, Tryd.ntmps30
  go_wp2
  go_loopw [3, 4] (fun v i wr => ∃ k : Nat, k ≤ n ∧ i = .int .i64 k ∧ Sh (Kd.R (Kd.int .i64) 3 wr w.heap.size (fun _ => True) v ((xs.take k).map (·.1))) ∧ Sh (Below w.heap.size w wr)) (fun _ i _ => n - (intOf i).toNat)
  case atStart => exact ⟨0, by omega, rfl, ⟨Kd.R_nil _ _ _ _ _⟩, ⟨Below.refl _ _⟩⟩
  case round =>
    obtain ⟨k, hk, rfl, HO, HB⟩ := hrel
    by_cases hlt : k < n
    · obtain ⟨ad, e1, x0, x1, x2⟩ := C_unit (Kd.C_below HR.out HB.out) k hlt
      cases e1
      have hlen : ((xs.take k).map (·.1)).length ≤ k := by rw [List.length_map]; exact List.length_take_le _ _
      go_wp2_with (first | ((with_reducible refine gate_builtin (b := .append) (xs := #[.tmp 11, .tmp 17]) rfl ?_); refine app_int 22 3 .i64 8 Tryd.underlying22 info_i64 (by omega) (w0 := w) (.tmp 11) (.tmp 17) _ _ _ rfl rfl rfl rfl HO HB (by omega) ?_; clear HO HB; intro v1 w1 HO HB))
      go_roundw
      case rel => exact ⟨k + 1, by omega, by go_num, by rw [take_snocU xs k (by rw [HN.out]; exact hlt), List.map_append]; exact HO, HB⟩
      case measure => simp [intOf]; omega
    · have e : xs.take k = xs := List.take_of_length_le (by rw [HN.out]; omega)
      rw [e] at HO
      go_wp2
      go_ret
      exact ⟨_, rfl, HO.out, HB.out⟩
set_option maxRecDepth 100000 in
set_option maxHeartbeats 8000000 in
theorem back_any (S : List Nat) (h1 : 1 ∈ S) (E : Nat → Addr) (A : Option Addr) (c n : Nat) (l : List Int) (w : World) (hg : GS S E w) (hf : FormsAt w) (hr : Kd.C (Kd.int .i64) w A n l) (hs : n ≤ 1000000000000) :
    Calls Tryd.prog 10 #[.slice A n c] w fun e w' => e = .returned (.bool true) ∧ Below w.heap.size w w' := by
  have HR := Sh.mk hr
  have HN := Sh.mk hr.1
  have HG := Sh.mk hg
  have HF := Sh.mk hf
  clear hr hg hf
  go_enter Tryd.func10, Tryd.ntmps10
  go_wp2
  go_loopw [3, 4] (fun v i wr => ∃ k : Nat, k ≤ n ∧ i = .int .i64 k ∧ Sh (Kd.R (Kd.int .i64) 3 wr w.heap.size (fun _ => True) v ((l.take k).map scalarF)) ∧ Sh (Below w.heap.size w wr)) (fun _ i _ => n - (intOf i).toNat)
  case atStart => exact ⟨0, by omega, rfl, ⟨Kd.R_nil _ _ _ _ _⟩, ⟨Below.refl _ _⟩⟩
  case round =>
    obtain ⟨k, hk, rfl, HO, HB⟩ := hrel
    by_cases hlt : k < n
    · obtain ⟨ad, e1, hx⟩ := C_at (Kd.C_below HR.out HB.out) k hlt
      cases e1
      have hlen : ((l.take k).map scalarF).length ≤ k := by rw [List.length_map]; exact List.length_take_le _ _
      go_wp2_with fail
      refine (lawScalar_any (rd l k) wr).mono ?_
      rintro e w1 ⟨rfl, rfl⟩
      go_wp2_with (first | ((with_reducible refine gate_builtin (b := .append) (xs := #[.tmp 16, .tmp 22]) rfl ?_); refine app_int 22 3 .i64 8 Tryd.underlying22 info_i64 (by omega) (w0 := w) (.tmp 16) (.tmp 22) _ _ _ rfl rfl rfl rfl HO HB (by omega) ?_; clear HO HB; intro v1 w1 HO HB))
      go_roundw
      case rel => exact ⟨k + 1, by omega, by go_num, by rw [take_snoc l k (by rw [HN.out]; exact hlt), List.map_append]; exact HO, HB⟩
      case measure => simp [intOf]; omega
    · have e : l.take k = l := List.take_of_length_le (by rw [HN.out]; omega)
      rw [e] at HO
      obtain ⟨q, hq⟩ : ∃ q, q = l.map scalarF := ⟨_, rfl⟩
      rw [← hq] at HO
      have hql : q.length = n := by rw [hq, List.length_map, HN.out]
      have hqa : q.all isSc = true := by
        rw [hq, List.all_eq_true]
        intro x hx
        obtain ⟨y, _, rfl⟩ := List.mem_map.1 hx
        exact scalarF_sc y
      obtain ⟨A1, c1, rfl, hc1, hC1⟩ := R_open HO.out n hql
      have HC1 := Sh.mk hC1
      have HBK := Sh.mk (back_enc q hqa)
      have HENC := Sh.mk (show encE q = none by unfold encE; rw [if_pos hqa])
      have HSZ := Sh.mk (show (encS q).size ≤ 4 * n by unfold encS; rw [if_pos hqa, strOfNums_size]; have := flat_len q; omega)
      clear hC1 hqa hq
      go_wp2_with fail
      refine (encode_any S h1 E A1 c1 n q wr (HG.out.below HB.out) HC1.out (by omega)).mono ?_
      rintro e w2 ⟨rfl, hb⟩
      rw [HENC.out]
      have HC2 := Sh.mk (Kd.C_below HC1.out hb)
      have HB2 := Sh.mk (below_of HB.out hb)
      clear HB HO HC1 hb
      simp only [errV]
      go_wp2_with fail
      refine (split_any (encS q) w2 (HF.out.below HB2.out) (by have := HSZ.out; omega)).mono ?_
      rintro e w3 ⟨v3, rfl, ho, hb⟩
      obtain ⟨m, hm⟩ : ∃ m, (unitsFrom (encS q) (encS q).size 0).length = m := ⟨_, rfl⟩
      obtain ⟨A3, c3, rfl, hc3, hC3⟩ := R_open ho m hm
      have hmn : m ≤ 17592186044415 := by rw [← hm]; have := unitsFrom_len (encS q) (encS q).size 0; have := HSZ.out; omega
      have HC3 := Sh.mk hC3
      have HC23 := Sh.mk (Kd.C_below HC2.out hb)
      have HB3 := Sh.mk (below_of HB2.out hb)
      clear HB2 HC2 hb ho hC3 hm
      go_wp2_with fail
      refine (first_any w3 (HF.out.below HB3.out)).mono ?_
      rintro e w4 ⟨rfl, hb⟩
      have HC34 := Sh.mk (Kd.C_below HC3.out hb)
      have HC24 := Sh.mk (Kd.C_below HC23.out hb)
      have HB4 := Sh.mk (below_of HB3.out hb)
      clear HB3 HC3 HC23 hb
      go_wp2_with fail
      refine (points_any A3 c3 m _ w4 HC34.out hmn).mono ?_
      rintro e w5 ⟨v5, rfl, ho, hb⟩
      rw [HBK.out] at ho
      obtain ⟨A5, c5, rfl, hc5, hC5⟩ := R_open ho n hql
      have HC5 := Sh.mk hC5
      have HC25 := Sh.mk (Kd.C_below HC24.out hb)
      have HB5 := Sh.mk (below_of HB4.out hb)
      clear HB4 HC34 HC24 hb ho hC5
      go_wp2_with fail
      refine (sameInts_any A5 A1 c5 c1 n n q q w5 HC5.out HC25.out).mono ?_
      rintro e w6 ⟨rfl, hd⟩
      rw [show decide (q = q) = true by simp]
      have HB6 := Sh.mk (below_of HB5.out hd.below)
      clear hd
      go_wp2
      go_ret
      exact ⟨rfl, HB6.out⟩
end Go.Proofs.YtfiahgahphammaaDoor
