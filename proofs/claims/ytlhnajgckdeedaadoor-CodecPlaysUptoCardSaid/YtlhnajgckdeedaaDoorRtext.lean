/-
codec.Reader's Text: what is read of bytes. Conditions: ErrMany, ErrShort and ErrForm read as listed.
-/
import Derived.Test.YtlhnajgckdeedaaDoorRnum
namespace Go.Proofs.YtlhnajgckdeedaaDoor
open Go Go.RowKit Go.Proofs.YtlhnajgckdeedaaDoorW.PrintWords Go.Proofs.YtlhnajgckdeedaaDoorW.PrintLast Go.Proofs.YtlhnajgckdeedaaDoorW.PrintMore
/-- What Text reads from a place on: a refusal, or the bytes and the place behind them. -/
def rtext (most : Int) (xs : List Int) (pos : Nat) : Except Nat (List Int × Nat) :=
  match rnum 9 0 0 (xs.drop pos) with
  | .error g => .error g
  | .ok (x, u) => if most < (x : Int) then .error 3 else if xs.length - (pos + u) < x then .error 4 else .ok ((xs.take (pos + u + x)).drop (pos + u), pos + u + x)
def RtPost (E : Nat → Addr) (B b : Nat) (A : Option Addr) (c : Nat) (xs : List Int) (pos : Nat) (w : World) (r : Except Nat (List Int × Nat)) (e : Ending) (w' : World) : Prop :=
  match r with
  | .ok (l, q) => e = .returned (.tuple #[.string (strOfNums l), .nilIface]) ∧ Rdr w' B b A c xs q ∧ w.grownBy w' (some b)
  | .error g => e = .returned (.tuple #[.string { data := #[] }, .iface 104 (.pointer (some (E g)))]) ∧ Rdr w' B b A c xs pos ∧ w.grownBy w' (some b)
theorem GS.kept {S : List Nat} {E : Nat → Addr} {w w1 : World} {b : Nat} (h : GS S E w) (hg : w.grownBy w1 (some b)) (hb : ∃ c t, w1.heap[b]? = some (.cells c t (0, 0))) (hne : ∀ g ∈ S, errG g ≠ b) : GS S E w1 := by
  refine ⟨fun g hgS => ⟨?_, ?_⟩, h.ne⟩
  · have hc := (h.s g hgS).cell
    exact (World.cell?_of_block (a := ⟨errG g, 0, none⟩) (hg.block _ (World.block_lt_of_cell? w _ hc) (fun e => hne g hgS (Option.some.inj e)))).trans hc
  · obtain ⟨c, t, hr⟩ := (h.s g hgS).row
    by_cases e : (E g).block = b
    · rw [e]; exact hb
    · exact ⟨c, t, (hg.block _ (Array.getElem?_eq_some_iff.1 hr).1 (fun e2 => e (Option.some.inj e2))).trans hr⟩
theorem Rdr.sent {S : List Nat} {E : Nat → Addr} {w : World} {B b : Nat} {A : Option Addr} {c : Nat} {xs : List Int} {pos : Nat} (h : Rdr w B b A c xs pos) (hE : GS S E w) : ∀ g ∈ S, errG g ≠ b := by
  intro g hg e
  have h1 := (hE.s g hg).cell
  have h2 := blk_cell h.blk 0
  rw [e] at h1
  rw [h1] at h2
  simp at h2
theorem grown_set {w w1 : World} {b : Nat} (h : w.grownBy w1 (some b)) (i : Nat) (v : Value) : w.grownBy (w1.setCell ⟨b, i, none⟩ v) (some b) :=
  h.trans ⟨rfl, rfl, rfl, by simp [World.setCell], fun k _ hk => Below.heap_setCell _ _ _ _ (fun e => hk (by rw [e]))⟩
theorem grown_drawn {w w1 : World} {r : Option Nat} (h : w.grownBy w1 r) (n : Nat) : w.grownBy (w1.drewN n) r := ⟨h.os, h.tape, h.output, h.size, h.block⟩
theorem drawn_grown {w w1 : World} (h : Drawn0 w w1) (r : Option Nat) : w.grownBy w1 r := by
  obtain ⟨n, rfl⟩ := h.out
  exact ⟨rfl, rfl, rfl, Nat.le_refl _, fun _ _ _ => rfl⟩
set_option maxHeartbeats 8000000 in
set_option maxRecDepth 100000 in
theorem rtext_any (E : Nat → Addr) (B b : Nat) (A : Option Addr) (c : Nat) (xs : List Int) (pos : Nat) (most : Int) (w : World) (hE : GS [3, 4, 10] E w) (h : Rdr w B b A c xs pos) (hx : ∀ x ∈ xs, 0 ≤ x ∧ x < 256) :
    Calls Tryd.prog 30 #[.pointer (some ⟨b, 0, none⟩), .int .i64 most] w (RtPost E B b A c xs pos w (rtext most xs pos)) := by
  have H := Sh.mk h
  have HE := Sh.mk hE
  have hp := h.pos_le
  have hl := C_len h.C
  have x1 := blk_cell h.blk 1
  simp only [List.getElem?_toArray, List.getElem?_cons_zero, List.getElem?_cons_succ] at x1
  have HXb := Sh.mk hx
  obtain ⟨RR, hRR⟩ : ∃ RR, RR = rtext most xs pos := ⟨_, rfl⟩
  rw [← hRR]
  clear h hE hx
  go_enter Tryd.func30, Tryd.ntmps30
  go_wp2_with fail
  refine (rnum_any E B b A c xs pos w (HE.out.sub (by decide)) H.out HXb.out).mono ?_
  unfold rtext at hRR
  have HRR := Sh.mk hRR
  clear hRR
  cases hr : rnum 9 0 0 (xs.drop pos) with
  | error g =>
    rw [hr] at HRR
    rintro e w1 ⟨rfl, hd⟩
    have HR1 := Sh.mk (H.out.below hd.below)
    have HG1 := Sh.mk (drawn_grown hd (some b))
    have xf := blk_frozen HR1.out.blk 1
    have x1b := blk_cell HR1.out.blk 1
    simp only [List.getElem?_toArray, List.getElem?_cons_zero, List.getElem?_cons_succ] at x1b
    clear hr hd x1
    go_wp2
    go_ret2
    rw [HRR.out]
    exact ⟨rfl, HR1.out.move pos hp, grown_set HG1.out 1 _⟩
  | ok xu =>
    obtain ⟨x, u⟩ := xu
    rw [hr] at HRR
    simp only at HRR
    rintro e w1 ⟨rfl, hrd, hgr, hx63⟩
    have HR1 := Sh.mk hrd
    have HG1 := Sh.mk hgr
    have hpu := hrd.pos_le
    have HE1 := Sh.mk (HE.out.kept hgr ⟨_, _, hrd.blk⟩ (H.out.sent HE.out))
    have c3 := (HE1.out.s 3 (by decide)).cell
    have c4 := (HE1.out.s 4 (by decide)).cell
    simp only [errG] at c3 c4
    have xf := blk_frozen hrd.blk 1
    have x0b := blk_cell hrd.blk 0
    have x1b := blk_cell hrd.blk 1
    simp only [List.getElem?_toArray, List.getElem?_cons_zero, List.getElem?_cons_succ] at x0b x1b
    clear hr hrd hgr x1
    by_cases hm : most < (x : Int)
    · rw [if_pos hm] at HRR
      have hm1 : decide (most < (x : Int)) = true := by simpa using hm
      go_wp2
      go_ret2
      rw [HRR.out]
      exact ⟨rfl, HR1.out.move pos hp, grown_set HG1.out 1 _⟩
    · rw [if_neg hm] at HRR
      have hm1 : decide (most < (x : Int)) = false := by simpa using hm
      go_wp2_with fail
      refine (left_any B b A c xs (pos + u) w1 HR1.out).mono ?_
      rintro e w2 ⟨rfl, hd⟩
      have HR2 := Sh.mk (HR1.out.below hd.below)
      have HG2 := Sh.mk (HG1.out.trans (drawn_grown hd (some b)))
      have HE2 := Sh.mk (HE1.out.below hd.below)
      clear hd c3 c4 x0b x1b xf hm
      have c4 := (HE2.out.s 4 (by decide)).cell
      simp only [errG] at c4
      have xf := blk_frozen HR2.out.blk 1
      have x0b := blk_cell HR2.out.blk 0
      have x1b := blk_cell HR2.out.blk 1
      simp only [List.getElem?_toArray, List.getElem?_cons_zero, List.getElem?_cons_succ] at x0b x1b
      by_cases hs : xs.length - (pos + u) < x
      · rw [if_pos hs] at HRR
        have hs1 : decide (((xs.length - (pos + u) : Nat) : Int) < (x : Int)) = true := by simpa using hs
        have hs2 : decide (xs.length - (pos + u) < x) = true := by simpa using hs
        go_wp2
        go_ret2
        rw [HRR.out]
        exact ⟨rfl, HR2.out.move pos hp, grown_set HG2.out 1 _⟩
      · rw [if_neg hs] at HRR
        have hs1 : decide (((xs.length - (pos + u) : Nat) : Int) < (x : Int)) = false := by simp; omega
        have hs2 : decide (xs.length - (pos + u) < x) = false := by simpa using hs
        go_wp2
        obtain ⟨lo, hlo⟩ : ∃ lo, lo = pos + u := ⟨_, rfl⟩
        obtain ⟨q, hq0⟩ : ∃ q, q = lo + x := ⟨_, rfl⟩
        have hq : (pos : Int) + (u : Int) + (x : Int) = (q : Int) := by omega
        have hql : q ≤ xs.length := by omega
        rw [hq]
        rw [← hlo, ← hq0] at HRR
        have HR3 := Sh.mk (HR2.out.move q hql)
        have HG3 := Sh.mk (grown_set HG2.out 1 (.int .i64 (q : Int)))
        clear x0b x1b xf c4 hq hs1 hs2 hm1
        generalize w2.setCell ⟨b, 1, none⟩ (.int .i64 (q : Int)) = w3 at HR3 HG3 ⊢
        have x0b := blk_cell HR3.out.blk 0
        have x1b := blk_cell HR3.out.blk 1
        simp only [List.getElem?_toArray, List.getElem?_cons_zero, List.getElem?_cons_succ] at x0b x1b
        have hcl : xs.length ≤ c := by
          obtain ⟨A2, c2, e1, h1, _⟩ := Kd.R_reads HR3.out.row
          injection e1 with _ _ e1
          omega
        obtain ⟨i0, hi, hzz⟩ := Option.map_eq_some_iff.1 info_u8
        simp only [Prod.mk.injEq] at hzz
        have hcut := cut_mid 28 5 .i64 .i64 Tryd.underlying28 hi 1 hzz.2.1 A xs.length c (lo : Int) (q : Int) (by omega) (by omega) (by omega) hcl
        have hmid := Kd.C_mid (lo := lo) (hi := q) HR3.out.C (by omega) (by omega) hcl
        have hlen : ((xs.take q).drop lo).length = x := by rw [List.length_drop, List.length_take]; omega
        rw [hlen] at hmid
        simp only [Int.toNat_natCast] at hcut
        rw [show q - lo = x by omega] at hcut
        obtain ⟨A2, hA2⟩ : ∃ A2, A2 = (if c = lo then A else A.map (·.add (lo * 1))) := ⟨_, rfl⟩
        rw [← hA2] at hcut
        have hmid2 : (Kd.int .u8).C w3 A2 x ((xs.take q).drop lo) := by rw [hA2]; exact hmid
        obtain ⟨l, hl2⟩ : ∃ l, l = (xs.take q).drop lo := ⟨_, rfl⟩
        rw [← hl2] at hmid2 HRR
        obtain ⟨c2, hc2⟩ : ∃ c2, c2 = c - lo := ⟨_, rfl⟩
        rw [← hc2] at hcut
        have hstr : ∀ m, (convert 28 9 (.slice A2 x c2)).run Tryd.prog (w3.drewN m) = .ok (.string (strOfNums l)) (w3.drewN m) :=
          fun m => Kd.C_string Tryd.underlying28 Tryd.underlying5 Tryd.underlying9 (Kd.C_drewN hmid2 m)
        have hwrap : IntKind.i64.wrap ((q : Int) - (x : Int)) = (lo : Int) := by rw [IntKind.wrap_i64]; omega
        have hwrap2 : (q : Int) - (x : Int) = (lo : Int) := by omega
        clear hA2 hmid hmid2 hlen hi hzz hl2 hc2 hq0 hlo
        go_quiet (fail)
        go_wp2
        go_ret2
        rw [HRR.out]
        exact ⟨rfl, HR3.out.below (pw_below_drewN (Below.refl _ _) _), grown_drawn HG3.out _⟩
end Go.Proofs.YtlhnajgckdeedaaDoor
