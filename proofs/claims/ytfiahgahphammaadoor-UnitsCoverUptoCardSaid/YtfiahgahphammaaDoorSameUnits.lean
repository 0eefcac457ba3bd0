/-
caesuraref0.SameUnits, walked: are two lists of units the same?
-/
import Derived.Test.YtfiahgahphammaaDoorRefSplit
import Derived.Test.YtfiahgahphammaaDoorWEqStruct
namespace Go.Proofs.YtfiahgahphammaaDoor
open Go Go.RowKit Go.Proofs.YtfiahgahphammaaDoorW.PrintWords Go.Proofs.YtfiahgahphammaaDoorW.PrintLast Go.Proofs.YtfiahgahphammaaDoorW.PrintMore
/-- Two units are one where their three numbers are. -/
theorem eqU (d : Nat) (w : World) (x0 y0 x1 y1 x2 y2 : Int) :
    (Op.equalIn (d + 2) 39 (.agg #[.int .i64 x0, .int .i64 x1, .int .i64 x2]) (.agg #[.int .i64 y0, .int .i64 y1, .int .i64 y2])).run Tryd.prog w = .ok (x0 == y0 && (x1 == y1 && (x2 == y2))) w := by
  refine eqA_of Tryd.underlying39 (by kernel_rfl) ?_
  refine eqf_cons (by rfl) (by go_simp; rfl) (by go_simp; rfl) (by go_simp) ?_
  refine eqf_cons (by rfl) (by go_simp; rfl) (by go_simp; rfl) (by go_simp) ?_
  exact eqf_last (by rfl) (by go_simp; rfl) (by go_simp; rfl) (by go_simp)
attribute [local go_sem high] eqU
def rdU (xs : List (Int × Int × Int)) (i : Nat) : Int × Int × Int := xs.getD i (0, 0, 0)
theorem C_unit {w : World} {A : Option Addr} {n : Nat} {xs : List (Int × Int × Int)} (h : unitK.C w A n xs) (i : Nat) (hi : i < n) : ∃ ad, A = some ad ∧ w.cell? (ad.add (i * 3)) = some (.int .i64 (rdU xs i).1) ∧ w.cell? ⟨(ad.add (i * 3)).block, (ad.add (i * 3)).off + 1, none⟩ = some (.int .i64 (rdU xs i).2.1) ∧ w.cell? ⟨(ad.add (i * 3)).block, (ad.add (i * 3)).off + 2, none⟩ = some (.int .i64 (rdU xs i).2.2) := by
  obtain ⟨h1, h2, h3⟩ := h
  obtain ⟨ad, e, hc⟩ := h3 (by omega)
  have hl : i < xs.length := by omega
  obtain ⟨c, hs, hp, hcell⟩ := hc i _ (List.getElem?_eq_getElem hl)
  obtain ⟨c0, c1, rfl, hc0, c2, c3, rfl, hc2, hc3⟩ := hp
  have e0 : rdU xs i = xs[i] := by simp [rdU, List.getD, hl]
  rw [e0]
  have k0 : c0 = [.int .i64 xs[i].1] := hc0
  have k2 : c2 = [.int .i64 xs[i].2.1] := hc2
  have k3 : c3 = [.int .i64 xs[i].2.2] := hc3
  subst k0 k2 k3
  exact ⟨ad, e, hcell 0 _ rfl, by rw [← add_field _ _ 1 (by omega)]; exact hcell 1 _ rfl, by rw [← add_field _ _ 2 (by omega)]; exact hcell 2 _ rfl⟩
theorem take_snocU (l : List (Int × Int × Int)) (k : Nat) (h : k < l.length) : l.take (k + 1) = l.take k ++ [rdU l k] := by
  rw [List.take_succ_eq_append_getElem h]
  simp [rdU, List.getD, h]
set_option maxRecDepth 100000 in
set_option maxHeartbeats 4000000 in
theorem sameUnits_any (A B : Option Addr) (c d : Nat) (n m : Nat) (l r : List (Int × Int × Int)) (w : World) (hl : unitK.C w A n l) (hr : unitK.C w B m r) :
    Calls Tryd.prog 22 #[.slice A n c, .slice B m d] w fun e w' => e = .returned (.bool (decide (l = r))) ∧ Drawn0 w w' := by
  have hu39 := Tryd.underlying39
  have HL := Sh.mk hl
  have HR := Sh.mk hr
  have hn := hl.1
  have hm := hr.1
  have hn64 := C_len hl
  clear hl hr
  by_cases hnm : n = m
  · subst hnm
    have b0 : ((n : Int) == (n : Int)) = true := by simp
    go_enter Tryd.func22, Tryd.ntmps22
    go_wp2
    go_loopw [5] (fun i wr => ∃ k : Nat, k ≤ n ∧ i = .int .i64 k ∧ Sh (l.take k = r.take k) ∧ Drawn0 w wr) (fun i _ => n - (intOf i).toNat)
    case atStart => exact ⟨0, by omega, rfl, ⟨rfl⟩, Drawn0.refl _⟩
    case round =>
      obtain ⟨k, hk, rfl, HE, ⟨q, rfl⟩⟩ := hrel
      by_cases hlt : k < n
      · obtain ⟨ad, e1, x0, x1, x2⟩ := C_unit HL.out k hlt
        cases e1
        obtain ⟨ad', e1, y0, y1, y2⟩ := C_unit HR.out k hlt
        cases e1
        obtain ⟨u, hu⟩ : ∃ u, u = rdU l k := ⟨_, rfl⟩
        obtain ⟨v, hv⟩ : ∃ v, v = rdU r k := ⟨_, rfl⟩
        rw [← hu] at x0 x1 x2
        rw [← hv] at y0 y1 y2
        have HU := Sh.mk hu
        have HV := Sh.mk hv
        clear hu hv
        obtain ⟨u0, u1, u2⟩ := u
        obtain ⟨v0, v1, v2⟩ := v
        simp only [] at x0 x1 x2 y0 y1 y2
        by_cases h0 : u0 = v0
        · subst h0
          by_cases h1 : u1 = v1
          · subst h1
            by_cases h2 : u2 = v2
            · subst h2
              have z0 : (u0 == u0) = true := by simp
              have z1 : (u1 == u1) = true := by simp
              have z2 : (u2 == u2) = true := by simp
              go_wp2
              go_quiet (fail)
              go_wp2
              go_roundw
              case rel => exact ⟨k + 1, by omega, by go_num, ⟨by rw [take_snocU l k (by omega), take_snocU r k (by omega), HE.out, ← HU.out, ← HV.out]⟩, ⟨⟨_, rfl⟩⟩⟩
              case measure => simp [intOf]; omega
            · have z0 : (u0 == u0) = true := by simp
              have z1 : (u1 == u1) = true := by simp
              have z2 : (u2 == v2) = false := by simpa using h2
              have hne := Sh.mk (show decide (l = r) = false by simp; intro e; subst e; have := HU.out.trans HV.out.symm; simp at this; exact h2 this)
              clear h2
              go_wp2
              go_quiet (fail)
              go_wp2
              go_ret
              exact ⟨by rw [hne.out]; rfl, ⟨q + nq, World.drewN_drewN _ _ _⟩⟩
          · have z0 : (u0 == u0) = true := by simp
            have z1 : (u1 == v1) = false := by simpa using h1
            have hne := Sh.mk (show decide (l = r) = false by simp; intro e; subst e; have := HU.out.trans HV.out.symm; simp at this; exact h1 this.1)
            clear h1
            go_wp2
            go_quiet (fail)
            go_wp2
            go_ret
            exact ⟨by rw [hne.out]; rfl, ⟨q + nq, World.drewN_drewN _ _ _⟩⟩
        · have z0 : (u0 == v0) = false := by simpa using h0
          have hne := Sh.mk (show decide (l = r) = false by simp; intro e; subst e; have := HU.out.trans HV.out.symm; simp at this; exact h0 this.1)
          clear h0
          go_wp2
          go_quiet (fail)
          go_wp2
          go_ret
          exact ⟨by rw [hne.out]; rfl, ⟨q + nq, World.drewN_drewN _ _ _⟩⟩
      · have he := Sh.mk (show decide (l = r) = true by
          have h := HE.out
          rw [List.take_of_length_le (by omega), List.take_of_length_le (by omega)] at h
          simpa using h)
        go_wp2
        go_ret
        exact ⟨by rw [he.out]; rfl, ⟨_, rfl⟩⟩
  · have hne := Sh.mk (show decide (l = r) = false by simp; exact fun e => hnm (by rw [← hn, ← hm, e]))
    have b0 : ((n : Int) == (m : Int)) = false := by simp; omega
    have b1 : (n == m) = false := by simp; omega
    clear hnm
    go_enter Tryd.func22, Tryd.ntmps22
    go_wp2
    go_ret
    exact ⟨by rw [hne.out]; rfl, Drawn0.refl _⟩
set_option maxRecDepth 100000 in
theorem splits_any (s : ByteArray) (w : World) (hf : FormsAt w) (hs : s.size ≤ 5000000000000) :
    Calls Tryd.prog 5 #[.string s] w fun e w' => e = .returned (.bool true) ∧ Below w.heap.size w w' := by
  have HF := Sh.mk hf
  clear hf
  go_enter Tryd.func5, Tryd.ntmps5
  go_wp2_with fail
  refine (split_any s w HF.out hs).mono ?_
  rintro e w1 ⟨v1, rfl, ho1, hb1⟩
  obtain ⟨A, c, rfl, hc, hC⟩ := R_open ho1 _ rfl
  have HC1 := Sh.mk hC
  have HB1 := Sh.mk hb1
  clear hC ho1 hb1
  go_wp2_with fail
  refine (refSplit_any s w1 hs).mono ?_
  rintro e w2 ⟨v2, rfl, ho2, hb2⟩
  obtain ⟨B, d, rfl, hd, hD⟩ := R_open ho2 _ rfl
  have HC2 := Sh.mk (Kd.C_below HC1.out hb2)
  have HD2 := Sh.mk hD
  have HB2 := Sh.mk (below_of HB1.out hb2)
  clear hD ho2 hb2
  go_wp2_with fail
  refine (sameUnits_any A B c d _ _ _ _ w2 HC2.out HD2.out).mono ?_
  rintro e w3 ⟨rfl, hd3⟩
  go_wp2
  go_ret
  exact ⟨by simp, below_of HB2.out hd3.below⟩
end Go.Proofs.YtfiahgahphammaaDoor
