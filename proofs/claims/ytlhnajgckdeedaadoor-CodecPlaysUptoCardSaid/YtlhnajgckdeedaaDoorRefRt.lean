/-
The document's reader's Text, walked. Conditions: at most 2^47 - 4096 bytes.
-/
import Derived.Test.YtlhnajgckdeedaaDoorRefRd
namespace Go.Proofs.YtlhnajgckdeedaaDoor
open Go Go.RowKit Go.Proofs.YtlhnajgckdeedaaDoorW.PrintWords Go.Proofs.YtlhnajgckdeedaaDoorW.PrintLast Go.Proofs.YtlhnajgckdeedaaDoorW.PrintMore
def RRtPost (B b : Nat) (A : Option Addr) (c : Nat) (xs : List Int) (pos : Nat) (w : World) (r : Except Nat (List Int × Nat)) (e : Ending) (w' : World) : Prop :=
  match r with
  | .ok (l, q) => e = .returned (.tuple #[.string (strOfNums l), .int .i64 0]) ∧ RRd w' B b A c xs q ∧ w.grownBy w' (some b)
  | .error g => e = .returned (.tuple #[.string { data := #[] }, .int .i64 (g : Int)]) ∧ RRd w' B b A c xs pos ∧ w.grownBy w' (some b)
theorem rnum_err : ∀ (k i m : Nat) (l : List Int) (g : Nat), rnum k i m l = .error g → g = 4 ∨ g = 10
  | 0, _, _, _, g, h => by simp only [rnum, Except.error.injEq] at h; omega
  | _ + 1, _, _, [], g, h => by simp only [rnum, Except.error.injEq] at h; omega
  | k + 1, i, m, b :: l, g, h => by
    rw [rnum] at h
    split at h
    · split at h
      · simp only [Except.error.injEq] at h; omega
      · cases h
    · exact rnum_err k _ _ l g h
set_option maxHeartbeats 8000000 in
set_option maxRecDepth 100000 in
theorem refRtext_any (B b : Nat) (A : Option Addr) (c : Nat) (xs : List Int) (pos : Nat) (most : Int) (w : World) (h : RRd w B b A c xs pos) (hx : ∀ x ∈ xs, 0 ≤ x ∧ x < 256) :
    Calls Tryd.prog 31 #[.pointer (some ⟨b, 0, none⟩), .int .i64 most] w (RRtPost B b A c xs pos w (rtext most xs pos)) := by
  have H := Sh.mk h
  have hp := h.pos_le
  have hl := C_len h.C
  have x1 := blk_cell h.blk 1
  simp only [List.getElem?_toArray, List.getElem?_cons_zero, List.getElem?_cons_succ] at x1
  have HXb := Sh.mk hx
  obtain ⟨RR, hRR⟩ : ∃ RR, RR = rtext most xs pos := ⟨_, rfl⟩
  rw [← hRR]
  clear h hx
  go_enter Tryd.func31, Tryd.ntmps31
  go_wp2_with fail
  refine (refRnum_any B b A c xs pos w H.out HXb.out).mono ?_
  unfold rtext at hRR
  have HRR := Sh.mk hRR
  clear hRR
  cases hr : rnum 9 0 0 (xs.drop pos) with
  | error g =>
    rw [hr] at HRR
    rintro e w1 ⟨rfl, hd⟩
    have HR1 := Sh.mk (H.out.below hd.below)
    have HG1 := Sh.mk (drawn_grown hd (some b))
    have hg0 : ((g : Int) != 0) = true := by
      have := rnum_err _ _ _ _ g hr
      simp
      omega
    clear hr hd x1
    go_wp2
    go_ret2
    rw [HRR.out]
    exact ⟨rfl, HR1.out, HG1.out⟩
  | ok xu =>
    obtain ⟨x, u⟩ := xu
    rw [hr] at HRR
    simp only at HRR
    obtain ⟨lo, hlo⟩ : ∃ lo, lo = pos + u := ⟨_, rfl⟩
    rw [← hlo] at HRR
    rintro e w1 ⟨rfl, hrd, hgr, hx63⟩
    rw [← hlo] at hrd
    clear hlo
    have HR1 := Sh.mk hrd
    have HG1 := Sh.mk hgr
    have hpu := hrd.pos_le
    have xf := blk_frozen hrd.blk 1
    have x0b := blk_cell hrd.blk 0
    have x1b := blk_cell hrd.blk 1
    simp only [List.getElem?_toArray, List.getElem?_cons_zero, List.getElem?_cons_succ] at x0b x1b
    clear hr hrd hgr x1
    have HR2 := Sh.mk (HR1.out.move pos hp)
    have HG2 := Sh.mk (grown_set HG1.out 1 (.int .i64 (pos : Int)))
    by_cases hm : most < (x : Int)
    · rw [if_pos hm] at HRR
      have hm1 : decide (most < (x : Int)) = true := by simpa using hm
      go_wp2
      go_ret2
      rw [HRR.out]
      exact ⟨rfl, HR2.out, HG2.out⟩
    · rw [if_neg hm] at HRR
      have hm1 : decide (most < (x : Int)) = false := by simpa using hm
      clear hm
      by_cases hs : xs.length - lo < x
      · rw [if_pos hs] at HRR
        have hs1 : decide ((xs.length : Int) - (lo : Int) < (x : Int)) = true := by simp; omega
        go_wp2
        go_ret2
        rw [HRR.out]
        exact ⟨rfl, HR2.out, HG2.out⟩
      · rw [if_neg hs] at HRR
        have hs1 : decide ((xs.length : Int) - (lo : Int) < (x : Int)) = false := by simp; omega
        obtain ⟨q, hq0⟩ : ∃ q, q = lo + x := ⟨_, rfl⟩
        have hq : (lo : Int) + (x : Int) = (q : Int) := by omega
        have hql : q ≤ xs.length := by omega
        rw [← hq0] at HRR
        have hwr : IntKind.i64.wrap ((lo : Int) + (x : Int)) = (q : Int) := by rw [IntKind.wrap_i64]; omega
        have HR3 := Sh.mk (HR2.out.move q hql)
        have HG3 := Sh.mk (grown_set HG2.out 1 (.int .i64 (q : Int)))
        have hcl : xs.length ≤ c := by
          obtain ⟨A2, c2, e1, h1, _⟩ := Kd.R_reads HR3.out.row
          injection e1 with _ _ e1
          omega
        obtain ⟨i0, hi, hzz⟩ := Option.map_eq_some_iff.1 info_u8
        simp only [Prod.mk.injEq] at hzz
        have hcut := cut_mid 28 5 .i64 .i64 Tryd.underlying28 hi 1 hzz.2.1 A xs.length c (lo : Int) (q : Int) (by omega) (by omega) (by omega) hcl
        have hmid := Kd.C_mid (lo := lo) (hi := q) HR3.out.C (by omega) (by omega) hcl
        have hlen : ((xs.take q).drop lo).length = x := by rw [List.length_drop, List.length_take]; omega
        rw [hlen] at hmid
        simp only [Int.toNat_natCast] at hcut
        rw [show q - lo = x by omega] at hcut
        obtain ⟨A2, hA2⟩ : ∃ A2, A2 = (if c = lo then A else A.map (·.add (lo * 1))) := ⟨_, rfl⟩
        rw [← hA2] at hcut
        have hmid2 : (Kd.int .u8).C ((w1.setCell ⟨b, 1, none⟩ (.int .i64 (pos : Int))).setCell ⟨b, 1, none⟩ (.int .i64 (q : Int))) A2 x ((xs.take q).drop lo) := by rw [hA2]; exact hmid
        obtain ⟨l, hl2⟩ : ∃ l, l = (xs.take q).drop lo := ⟨_, rfl⟩
        rw [← hl2] at hmid2 HRR
        obtain ⟨c2, hc2⟩ : ∃ c2, c2 = c - lo := ⟨_, rfl⟩
        rw [← hc2] at hcut
        have hstr : (convert 28 9 (.slice A2 x c2)).run Tryd.prog ((w1.setCell ⟨b, 1, none⟩ (.int .i64 (pos : Int))).setCell ⟨b, 1, none⟩ (.int .i64 (q : Int))) = .ok (.string (strOfNums l)) ((w1.setCell ⟨b, 1, none⟩ (.int .i64 (pos : Int))).setCell ⟨b, 1, none⟩ (.int .i64 (q : Int))) :=
          Kd.C_string Tryd.underlying28 Tryd.underlying5 Tryd.underlying9 hmid2
        clear hA2 hmid hmid2 hlen hi hzz hl2 hc2 hq0
        go_wp2
        go_ret2
        rw [HRR.out]
        exact ⟨rfl, HR3.out, HG3.out⟩
end Go.Proofs.YtlhnajgckdeedaaDoor
