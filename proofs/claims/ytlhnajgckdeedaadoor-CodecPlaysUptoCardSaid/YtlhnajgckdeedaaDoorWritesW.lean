/-
caesuralaw1.writes: two writers side by side, the program's and the document's: they hold the same bytes behind each step. Conditions: steps of bulk at most 2^20; the refusals read as listed.
-/
import Derived.Test.YtlhnajgckdeedaaDoorApartW
import Derived.Test.YtlhnajgckdeedaaDoorRefWr
import Derived.Test.YtlhnajgckdeedaaDoorBackCW
import Derived.Test.YtlhnajgckdeedaaDoorNum
namespace Go.Proofs.YtlhnajgckdeedaaDoor
open Go Go.RowKit Go.Proofs.YtlhnajgckdeedaaDoorW.PrintWords Go.Proofs.YtlhnajgckdeedaaDoorW.PrintLast Go.Proofs.YtlhnajgckdeedaaDoorW.PrintMore
set_option linter.unusedSimpArgs false
/-- Two writers that do not touch one another: where they lie. -/
structure Two (z q q2 : Nat) (r r2 : Option Nat) : Prop where
  hq : z ≤ q
  hq2 : z ≤ q2
  ne : q ≠ q2
  a : r ≠ some q2
  b : r2 ≠ some q
  c : ∀ g, r = some g → z ≤ g
  d : ∀ g, r2 = some g → z ≤ g
  e : ∀ g, r = some g → r2 ≠ some g
structure WS (w0 wr : World) (q q2 : Nat) (v v2 : Value) (l l2 : List UInt8) : Prop where
  a : Wr wr 0 q v l
  b : RWr wr q2 v2 l2
  bel : Below w0.heap.size w0 wr
  two : Two w0.heap.size q q2 v.ownBlock v2.ownBlock
theorem kx_below {w0 w w1 : World} {q : Nat} {r : Option Nat} (h : Below w0.heap.size w0 w) (k : Kx q r w w1) (hq : w0.heap.size ≤ q) (hr : ∀ g, r = some g → w0.heap.size ≤ g) : Below w0.heap.size w0 w1 := k.below h (Nat.le_refl _) hq hr
theorem WS.left {w0 wr w1 : World} {q q2 : Nat} {v v2 v' : Value} {l l2 l' : List UInt8} (h : WS w0 wr q q2 v v2 l l2) (ha : Wr w1 0 q v' l') (k : Kx q v.ownBlock wr w1) (hh : Hat wr v.ownBlock v'.ownBlock) : WS w0 w1 q q2 v' v2 l' l2 := by
  have hs := h.bel.size
  refine ⟨ha, h.b.keptX k (fun e => h.two.ne e.symm) (fun e => h.two.a e.symm) h.two.b (fun g e e2 => h.two.e g e2.symm e), kx_below h.bel k h.two.hq h.two.c, ?_⟩
  rcases hh with e | ⟨g, e, hg⟩
  · rw [e]; exact h.two
  · rw [e]
    have h1 := h.b.lt
    refine ⟨h.two.hq, h.two.hq2, h.two.ne, fun e => ?_, h.two.b, fun g' e => ?_, h.two.d, fun g' e e2 => ?_⟩
    · have := Option.some.inj e; omega
    · have := Option.some.inj e; omega
    · have := Option.some.inj e
      have := h.b.row_lt g' e2
      omega
theorem WS.right {w0 wr w1 : World} {q q2 : Nat} {v v2 v' : Value} {l l2 l' : List UInt8} (h : WS w0 wr q q2 v v2 l l2) (hb : RWr w1 q2 v' l') (k : Kx q2 v2.ownBlock wr w1) (hh : Hat wr v2.ownBlock v'.ownBlock) : WS w0 w1 q q2 v v' l l' := by
  have hs := h.bel.size
  refine ⟨h.a.keptX k h.two.ne (fun e => h.two.b e.symm) h.two.a (fun g e e2 => h.two.e g e e2.symm), hb, kx_below h.bel k h.two.hq2 h.two.d, ?_⟩
  rcases hh with e | ⟨g, e, hg⟩
  · rw [e]; exact h.two
  · rw [e]
    have h1 := h.a.lt
    refine ⟨h.two.hq, h.two.hq2, h.two.ne, h.two.a, fun e => ?_, h.two.c, fun g' e => ?_, fun g' e e2 => ?_⟩
    · have := Option.some.inj e; omega
    · have := Option.some.inj e; omega
    · have := Option.some.inj e2
      have := (h.a.own.lt g' e).2
      omega
theorem WS.below {w0 wr w1 : World} {q q2 : Nat} {v v2 : Value} {l l2 : List UInt8} (h : WS w0 wr q q2 v v2 l l2) (hb : Below wr.heap.size wr w1) : WS w0 w1 q q2 v v2 l l2 := ⟨h.a.below hb, h.b.below hb, below_of h.bel hb, h.two⟩
theorem WS.again {w0 wr w1 : World} {q q2 : Nat} {v v2 : Value} {l l2 : List UInt8} (h : WS w0 wr q q2 v v2 l l2) (ha : Wr w1 0 q v l) (hg : wr.grownBy w1 v.ownBlock) : WS w0 w1 q q2 v v2 l l2 := h.left ha (Kx.of_grown hg) (Hat.refl _ _)
theorem WS.new (w : World) : WS w ((w.alloc (.cells #[.pointer none, .slice none 0 0] WrT)).alloc (.cells #[.slice none 0 0] RwT)) w.heap.size (w.heap.size + 1) (.slice none 0 0) (.slice none 0 0) [] [] := by
  have hs : (w.alloc (.cells #[.pointer none, .slice none 0 0] WrT)).heap.size = w.heap.size + 1 := by simp
  refine ⟨(Wr.new w 0).below (below_alloc (Below.refl _ _) _), ?_, ?_, ⟨by omega, by omega, by omega, by simp [Value.ownBlock], by simp [Value.ownBlock], by simp [Value.ownBlock], by simp [Value.ownBlock], by simp [Value.ownBlock]⟩⟩
  · have := RWr.new (w.alloc (.cells #[.pointer none, .slice none 0 0] WrT))
    rw [hs] at this
    exact this
  · exact ((Below.refl _ _).alloc (Nat.le_refl _) _).alloc (by omega) _
/-- The document's bytes, opened: where they lie. -/
theorem R_where {e : Nat} {w : World} {base : Nat} {ok : Nat → Prop} {A : Option Addr} {n c : Nat} {xs : List Int} (h : (Kd.int .u8).R e w base ok (.slice A n c) xs) : ∀ ad, A = some ad → base ≤ ad.block ∧ ad.block < w.heap.size := by
  rintro ad rfl
  obtain ⟨inner, ho⟩ := Kd.R_own h
  exact ⟨own_base ho _ rfl, own_lt ho _ rfl⟩
set_option maxHeartbeats 16000000 in
set_option maxRecDepth 100000 in
theorem writes_any (E : Nat → Addr) (A : Option Addr) (c n : Nat) (xs : List Stp) (w : World) (hE : GS allS E w) (hC : stepK.C w A n xs)
    (hN : ∀ s ∈ xs, -9223372036854775808 ≤ s.2.1 ∧ s.2.1 ≤ 9223372036854775807) (hS : ∀ s ∈ xs, s.2.2.size ≤ 1048576) (hP : ∀ k, k ≤ n → (puts xs k).length ≤ 16777216) :
    Calls Tryd.prog 28 #[.slice A n c] w fun e w' => e = .returned (.bool true) ∧ Below w.heap.size w w' := by
  have HL := Sh.mk hC.1
  have hn := hC.2.1
  have HE := Sh.mk hE
  have HN := Sh.mk hN
  have HSz := Sh.mk hS
  have HPl := Sh.mk hP
  have HC := Sh.mk hC
  clear hE hC hN hS hP
  go_enter Tryd.func28, Tryd.ntmps28
  go_wp2_with fail
  refine (newWriter_any w).mono ?_
  rintro e w1 ⟨rfl, hw1⟩
  have HW1 := Sh.mk hw1
  clear hw1
  go_wp2_with fail
  refine (refNewWriter_any w1).mono ?_
  rintro e w2 ⟨rfl, hw2⟩
  have hq2s : w1.heap.size = w.heap.size + 1 := by rw [HW1.out]; simp
  have HS2 := Sh.mk (show WS w w2 w.heap.size (w.heap.size + 1) (.slice none 0 0) (.slice none 0 0) [] [] by rw [hw2, HW1.out]; exact WS.new w)
  rw [hq2s]
  obtain ⟨q, hq⟩ : ∃ q, q = w.heap.size := ⟨_, rfl⟩
  obtain ⟨q2, hq2⟩ : ∃ q2, q2 = w.heap.size + 1 := ⟨_, rfl⟩
  rw [← hq2, ← hq] at HS2 ⊢
  clear hw2 hq2s HW1 hq hq2
  go_wp2_with fail
  go_loopw [5, 6, 7] (fun i _ _ wr => ∃ (k : Nat) (v v2 : Value), k ≤ n ∧ i = .int .i64 k ∧ Sh (WS w wr q q2 v v2 (puts xs k) (puts xs k))) (fun i _ _ _ => n - (intOf i).toNat)
  case atStart => exact ⟨0, _, _, by omega, rfl, HS2⟩
  case round =>
    obtain ⟨k, v, v2, hk, rfl, HSk0⟩ := hrel
    by_cases hlt : k < n
    · obtain ⟨ad, e1, y0, y1, y2⟩ := C_step (Kd.C_below HC.out HSk0.out.bel) k hlt
      cases e1
      have hmem := rdS_mem xs k (by rw [HL.out]; exact hlt)
      have hNk := HN.out _ hmem
      have hSk := HSz.out _ hmem
      have hpk := HPl.out k hk
      have hpk1 := HPl.out (k + 1) hlt
      have hpu := puts_succ xs k (by rw [HL.out]; exact hlt)
      obtain ⟨s, hs⟩ : ∃ s, s = rdS xs k := ⟨_, rfl⟩
      rw [← hs] at y0 y1 y2 hNk hSk hpu
      have HSk := Sh.mk hs
      clear hs hmem
      obtain ⟨b, N, t⟩ := s
      simp only [] at y0 y1 y2 hNk hSk
      cases b with
      | true =>
        have hpt : puts xs (k + 1) = puts xs k ++ (vnum t.size ++ t.data.toList) := by rw [hpu, putS, if_pos rfl]
        have HPu := Sh.mk hpt
        have hpl1 := hpk1
        rw [hpt] at hpl1
        clear hpu hpt
        go_wp2_with fail
        refine (wtext_kx q v (puts xs k) t wr HSk0.out.a (by omega)).mono ?_
        rintro e w3 ⟨rfl, v3, hw3, hk3, hh3⟩
        have HS3 := Sh.mk (HSk0.out.left hw3 hk3 hh3)
        clear hw3 hk3 hh3 y0 y1 y2
        obtain ⟨ad', e3, y0, y1, y2⟩ := C_step (Kd.C_below HC.out HS3.out.bel) k hlt
        cases e3
        rw [← HSk.out] at y0 y1 y2
        simp only [] at y0 y1 y2
        go_wp2_with fail
        refine (refText_any q2 v2 (puts xs k) t w3 HS3.out.b (by omega)).mono ?_
        rintro e w4 ⟨rfl, v4, hw4, hk4, hh4⟩
        have HS4 := Sh.mk (HS3.out.right hw4 hk4 hh4)
        clear hw4 hk4 hh4 y0 y1 y2 HS3
        obtain ⟨L, hL⟩ : ∃ L, L = (puts xs k ++ (vnum t.size ++ t.data.toList)) := ⟨_, rfl⟩
        rw [← hL] at HS4 HPu hpl1
        clear hL
        go_wp2_with fail
        refine (refBytes_any q2 v4 L w4 HS4.out.b (by omega)).mono ?_
        rintro e w6 ⟨u6, rfl, hu6, hb6⟩
        obtain ⟨A6, c6, rfl, hc6, hC6⟩ := R_open hu6 L.length (ints_len _)
        have HS6 := Sh.mk (HS4.out.below hb6)
        have HC6 := Sh.mk hC6
        have HA6 := Sh.mk (show ∀ ad, A6 = some ad → ad.block < w6.heap.size ∧ some ad.block ≠ v3.ownBlock from fun ad e => ⟨(R_where hu6 ad e).2, fun e2 => by have h1 := (R_where hu6 ad e).1; have h2 := (HS4.out.a.own.lt _ e2.symm).2; omega⟩)
        clear hu6 hb6 hC6
        go_wp2_with fail
        refine (apart_any q v3 L A6 c6 L.length w6 HS6.out.a rfl HC6.out HA6.out (by omega)).mono ?_
        rintro e w7 ⟨rfl, ha7, hg7⟩
        have HS7 := Sh.mk (HS6.out.again ha7 hg7)
        clear ha7 hg7 HC6 HA6 HS6
        go_wp2
        go_roundw
        case rel => exact ⟨k + 1, v3, v4, by omega, by go_num, ⟨by rw [HPu.out]; exact HS7.out⟩⟩
        case measure => simp [intOf]; omega
      | false =>
        by_cases hN0 : N < 0
        · have hN1 : decide ((0 : Int) ≤ N) = false := by simp; omega
          have hpt : puts xs (k + 1) = puts xs k := by rw [hpu, putS, if_neg (by simp), if_neg (by simp; omega), List.append_nil]
          have HPu := Sh.mk hpt
          clear hpu hpt
          have HEk := Sh.mk (HE.out.below HSk0.out.bel)
          go_wp2_with fail
          refine (wnum_neg E q N wr (HEk.out.sub (by decide)) hN0).mono ?_
          rintro e w3 ⟨rfl, rfl⟩
          go_wp2
          go_quiet (first | (go_at_call 32; exact quiet_eq (num_1 E _ (HEk.out.below (pw_below_drewN (Below.refl _ _) _)))) | (go_at_call 40; exact quiet_eq (refNum_neg q2 N _ hN0)))
          rename_i nq
          have HS4 := Sh.mk (HSk0.out.below (pw_below_drewN (Below.refl wr.heap.size wr) nq))
          have hpl1 := hpk
          obtain ⟨L, hL⟩ : ∃ L, L = (puts xs k) := ⟨_, rfl⟩
          rw [← hL] at HS4 HPu hpl1
          clear hL
          go_wp2_with fail
          refine (refBytes_any q2 v2 L _ HS4.out.b (by omega)).mono ?_
          rintro e w6 ⟨u6, rfl, hu6, hb6⟩
          obtain ⟨A6, c6, rfl, hc6, hC6⟩ := R_open hu6 L.length (ints_len _)
          have HS6 := Sh.mk (HS4.out.below hb6)
          have HC6 := Sh.mk hC6
          have HA6 := Sh.mk (show ∀ ad, A6 = some ad → ad.block < w6.heap.size ∧ some ad.block ≠ v.ownBlock from fun ad e => ⟨(R_where hu6 ad e).2, fun e2 => by have h1 := (R_where hu6 ad e).1; have h2 := (HS4.out.a.own.lt _ e2.symm).2; omega⟩)
          clear hu6 hb6 hC6
          go_wp2_with fail
          refine (apart_any q v L A6 c6 L.length w6 HS6.out.a rfl HC6.out HA6.out (by omega)).mono ?_
          rintro e w7 ⟨rfl, ha7, hg7⟩
          have HS7 := Sh.mk (HS6.out.again ha7 hg7)
          clear ha7 hg7 HC6 HA6 HS6
          go_wp2
          go_roundw
          case rel => exact ⟨k + 1, v, v2, by omega, by go_num, ⟨by rw [HPu.out]; exact HS7.out⟩⟩
          case measure => simp [intOf]; omega
        · have hN1 : decide ((0 : Int) ≤ N) = true := by simp; omega
          obtain ⟨m, rfl⟩ := Int.eq_ofNat_of_zero_le (show 0 ≤ N by omega)
          have hpt : puts xs (k + 1) = puts xs k ++ vnum m := by rw [hpu, putS, if_neg (by simp), if_pos (by simp)]; rfl
          have HPu := Sh.mk hpt
          have hpl1 := hpk1
          rw [hpt] at hpl1
          clear hpu hpt
          go_wp2_with fail
          refine (wnum_kx q v (puts xs k) m wr HSk0.out.a (by omega) (by omega)).mono ?_
          rintro e w3 ⟨rfl, v3, hw3, hk3, hh3⟩
          have HS3 := Sh.mk (HSk0.out.left hw3 hk3 hh3)
          have HS3d := Sh.mk (HS3.out.below (below_drew (Below.refl _ _)))
          clear hw3 hk3 hh3 y0 y1 y2
          obtain ⟨ad', e3, _, y1d, _⟩ := C_step (Kd.C_below HC.out HS3d.out.bel) k hlt
          cases e3
          rw [← HSk.out] at y1d
          simp only [] at y1d
          have y1d := Sh.mk y1d
          go_wp2
          refine start_ (n := 10) (S := fun w' => w'.cell? ⟨(ad.add (k * 3)).block, (ad.add (k * 3)).off + 1, none⟩ = some (.int .i64 (m : Int))) (ds := []) #[false, false, false, false, false, false, false, false, false, false] (by kernel_rfl) rfl rfl (y1d.out) (fun hHeld => ?_)
          refine pure_ (i := 0) (N := some 44) (v := ?_) (a' := ?_) #[true, false, false, false, false, false, false, false, false, false] rfl rfl (by kernel_rfl) (fun _ _ _ h => h) (Or.inl ⟨by rfl, ?_⟩) ?_ ?_
          rotate_left
          · intro w'
            go_simp
            with_reducible rfl
          rotate_left
          · simp only [Act.put, List.setIfInBounds_toArray, List.set_cons_zero, List.set_cons_succ, i64_w, i32_w]
            rfl
          refine pure_ (i := 2) (N := some 46) (v := ?_) (a' := ?_) #[true, false, true, false, false, false, false, false, false, false] rfl rfl (by kernel_rfl) (fun _ _ _ h => h) (Or.inl ⟨by rfl, ?_⟩) ?_ ?_
          rotate_left
          · intro w'
            go_simp
            with_reducible rfl
          rotate_left
          · simp only [Act.put, List.setIfInBounds_toArray, List.set_cons_zero, List.set_cons_succ, i64_w, i32_w]
            rfl
          refine pure_ (i := 3) (N := some 47) (v := ?_) (a' := ?_) #[true, false, true, true, false, false, false, false, false, false] rfl rfl (by kernel_rfl) (fun _ _ _ h => h) (Or.inl ⟨by rfl, ?_⟩) ?_ ?_
          rotate_left
          · intro w'
            go_simp
            with_reducible rfl
          rotate_left
          · simp only [Act.put, List.setIfInBounds_toArray, List.set_cons_zero, List.set_cons_succ, i64_w, i32_w]
            rfl
          refine pure_ (i := 4) (N := some 48) (v := ?_) (a' := ?_) #[true, false, true, true, true, false, false, false, false, false] rfl rfl (by kernel_rfl) (fun _ _ _ h => h) (Or.inl ⟨by rfl, ?_⟩) ?_ ?_
          rotate_left
          · intro w'
            go_simp
            with_reducible rfl
          rotate_left
          · simp only [Act.put, List.setIfInBounds_toArray, List.set_cons_zero, List.set_cons_succ, i64_w, i32_w]
            rfl
          refine pure_ (i := 5) (N := some 49) (v := ?_) (a' := ?_) #[true, false, true, true, true, true, false, false, false, false] rfl rfl (by kernel_rfl) (fun _ _ _ h => h) (Or.inl ⟨by rfl, ?_⟩) ?_ ?_
          rotate_left
          · intro w'
            go_simp
            with_reducible rfl
          rotate_left
          · simp only [Act.put, List.setIfInBounds_toArray, List.set_cons_zero, List.set_cons_succ, i64_w, i32_w]
            rfl
          refine pure_ (i := 6) (N := some 50) (v := ?_) (a' := ?_) #[true, false, true, true, true, true, true, false, false, false] rfl rfl (by kernel_rfl) (fun _ _ _ h => h) (Or.inl ⟨by rfl, ?_⟩) ?_ ?_
          rotate_left
          · intro w'
            go_simp
            with_reducible rfl
          rotate_left
          · simp only [Act.put, List.setIfInBounds_toArray, List.set_cons_zero, List.set_cons_succ, i64_w, i32_w]
            rfl
          refine take_ (i := 7) (N := some 51) (v := ?_) (a' := ?_) #[true, false, true, true, true, true, true, true, false, false] rfl rfl (by kernel_rfl) (fun _ _ _ h => h) (Or.inl ⟨by rfl, ?_⟩) hHeld ?_ ?_
          rotate_left
          · intro w' s0
            go_simp
            with_reducible rfl
          rotate_left
          · simp only [Act.put, List.setIfInBounds_toArray, List.set_cons_zero, List.set_cons_succ, i64_w, i32_w]
            rfl
          refine one_ (i := 1) (N := some 45) #[true, true, true, true, true, true, true, true, false, false] rfl rfl (by kernel_rfl) (by decide) (fun K hK => ?_)
          refine goes_ Tryd.func32 (by kernel_rfl) rfl #[.nilIface] (by rfl) rfl rfl (by simp only [List.map_toArray, List.map_cons, List.map_nil]; rfl) ?_
          with_reducible refine (num_nil _).mono ?_
          rintro e w4 ⟨rfl, rfl⟩
          refine ⟨_, rfl, ?_⟩
          refine hK.out _ _ (y1d.out) (fun hHeld => ?_)
          clear hK K
          refine norm_ (a' := ?_) ?_ ?_
          rotate_left
          · show Act.put _ (some 45) _ = _
            simp only [Act.put, List.setIfInBounds_toArray, List.set_cons_zero, List.set_cons_succ, i64_w, i32_w]
            rfl
          refine one_ (i := 8) (N := some 52) #[true, true, true, true, true, true, true, true, true, false] rfl rfl (by kernel_rfl) (by decide) (fun K hK => ?_)
          refine goes_ Tryd.func40 (by kernel_rfl) rfl #[.pointer (some ⟨q2, 0, none⟩), .int .i64 (m : Int)] (by rfl) rfl rfl (by simp only [List.map_toArray, List.map_cons, List.map_nil]; rfl) ?_
          with_reducible refine (refNum_any q2 v2 (puts xs k) m _ HS3d.out.b (by omega) (by omega)).mono ?_
          rintro e w4 ⟨rfl, v4, hr4, hk4, hh4⟩
          refine ⟨_, rfl, ?_⟩
          have HS4 := Sh.mk (HS3d.out.right hr4 hk4 hh4)
          clear hr4 hk4 hh4
          obtain ⟨ad', e4, _, y1e, _⟩ := C_step (Kd.C_below HC.out HS4.out.bel) k hlt
          cases e4
          rw [← HSk.out] at y1e
          simp only [] at y1e
          refine hK.out _ _ (y1e) (fun hHeld => ?_)
          clear hK K
          refine norm_ (a' := ?_) ?_ ?_
          rotate_left
          · show Act.put _ (some 52) _ = _
            simp only [Act.put, List.setIfInBounds_toArray, List.set_cons_zero, List.set_cons_succ, i64_w, i32_w]
            rfl
          refine pure_ (i := 9) (N := some 53) (v := ?_) (a' := ?_) #[true, true, true, true, true, true, true, true, true, true] rfl rfl (by kernel_rfl) (fun _ _ _ h => h) (Or.inl ⟨by rfl, ?_⟩) ?_ ?_
          rotate_left
          · intro w'
            go_simp
            with_reducible rfl
          rotate_left
          · simp only [Act.put, List.setIfInBounds_toArray, List.set_cons_zero, List.set_cons_succ, i64_w, i32_w]
            rfl
          refine done_ (by kernel_rfl) ?_
          obtain ⟨L, hL⟩ : ∃ L, L = (puts xs k ++ vnum m) := ⟨_, rfl⟩
          rw [← hL] at HS4 HPu hpl1
          clear hL
          go_wp2_with fail
          refine (refBytes_any q2 v4 L w4 HS4.out.b (by omega)).mono ?_
          rintro e w6 ⟨u6, rfl, hu6, hb6⟩
          obtain ⟨A6, c6, rfl, hc6, hC6⟩ := R_open hu6 L.length (ints_len _)
          have HS6 := Sh.mk (HS4.out.below hb6)
          have HC6 := Sh.mk hC6
          have HA6 := Sh.mk (show ∀ ad, A6 = some ad → ad.block < w6.heap.size ∧ some ad.block ≠ v3.ownBlock from fun ad e => ⟨(R_where hu6 ad e).2, fun e2 => by have h1 := (R_where hu6 ad e).1; have h2 := (HS4.out.a.own.lt _ e2.symm).2; omega⟩)
          clear hu6 hb6 hC6
          go_wp2_with fail
          refine (apart_any q v3 L A6 c6 L.length w6 HS6.out.a rfl HC6.out HA6.out (by omega)).mono ?_
          rintro e w7 ⟨rfl, ha7, hg7⟩
          have HS7 := Sh.mk (HS6.out.again ha7 hg7)
          clear ha7 hg7 HC6 HA6 HS6
          go_wp2
          go_roundw
          case rel => exact ⟨k + 1, v3, v4, by omega, by go_num, ⟨by rw [HPu.out]; exact HS7.out⟩⟩
          case measure => simp [intOf]; omega
    · obtain rfl : k = n := by omega
      go_wp2
      go_ret
      exact ⟨rfl, HSk0.out.bel⟩
end Go.Proofs.YtlhnajgckdeedaaDoor
