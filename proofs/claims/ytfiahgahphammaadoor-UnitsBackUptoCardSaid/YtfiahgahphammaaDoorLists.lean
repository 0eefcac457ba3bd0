/-
caesurakit.Ints, List, ListLeft, caesuraref0.SameInts: rows of whole numbers. Conditions: at most 2^44 numbers.
-/
import Derived.Test.YtfiahgahphammaaDoorAp
import Derived.Deep.QuietTactic
import Derived.BigQuiet
namespace Go.Proofs.YtfiahgahphammaaDoor
open Go Go.RowKit Go.Proofs.YtfiahgahphammaaDoorW.PrintWords Go.Proofs.YtfiahgahphammaaDoorW.PrintLast Go.Proofs.YtfiahgahphammaaDoorW.PrintMore
set_option maxRecDepth 100000 in
theorem ints_any (A : Option Addr) (c : Nat) (n : Nat) (l : List Int) (w : World) (hr : Kd.C (Kd.int .i64) w A n l) (hs : n ≤ 17592186044415) :
    Calls Tryd.prog 31 #[.slice A n c] w fun e w' => ∃ v, e = .returned v ∧ Kd.R (Kd.int .i64) 3 w' w.heap.size (fun _ => True) v l ∧ Below w.heap.size w w' := by
  have HR := Sh.mk hr
  have HN := Sh.mk hr.1
  clear hr
  go_enter Tryd.func31, Tryd.ntmps31
  go_wp2
  go_loopw [3, 4] (fun v i wr => ∃ k : Nat, k ≤ n ∧ i = .int .i64 k ∧ Sh (Kd.R (Kd.int .i64) 3 wr w.heap.size (fun _ => True) v (l.take k)) ∧ Sh (Below w.heap.size w wr)) (fun _ i _ => n - (intOf i).toNat)
  case atStart => exact ⟨0, by omega, rfl, ⟨Kd.R_nil _ _ _ _ _⟩, ⟨Below.refl _ _⟩⟩
  case round =>
    obtain ⟨k, hk, rfl, HO, HB⟩ := hrel
    by_cases hlt : k < n
    · obtain ⟨ad, e1, hx⟩ := C_at (Kd.C_below HR.out HB.out) k hlt
      cases e1
      have hlen : (l.take k).length ≤ k := List.length_take_le _ _
      go_wp2_with (first | ((with_reducible refine gate_builtin (b := .append) (xs := #[.tmp 11, .tmp 16]) rfl ?_); refine app_int 22 3 .i64 8 Tryd.underlying22 info_i64 (by omega) (w0 := w) (.tmp 11) (.tmp 16) _ _ _ rfl rfl rfl rfl HO HB (by omega) ?_; clear HO HB; intro v1 w1 HO HB))
      go_roundw
      case rel => exact ⟨k + 1, by omega, by go_num, by rw [take_snoc l k (by rw [HN.out]; exact hlt)]; exact HO, HB⟩
      case measure => simp [intOf]; omega
    · have e : l.take k = l := List.take_of_length_le (by rw [HN.out]; omega)
      rw [e] at HO
      go_wp2
      go_ret
      exact ⟨_, rfl, HO.out, HB.out⟩
set_option maxRecDepth 100000 in
theorem list_any (A : Option Addr) (c : Nat) (n : Nat) (l : List Int) (w : World) (hr : Kd.C (Kd.int .i64) w A n l) (hs : n ≤ 17592186044400) :
    Calls Tryd.prog 12 #[.slice A n c] w fun e w' => ∃ G c', e = .returned (.slice (some ⟨G, 0, none⟩) n c') ∧ n + 2 ≤ c' ∧ Kd.R (Kd.int .i64) 3 w' w.heap.size (fun _ => True) (.slice (some ⟨G, 0, none⟩) (n + 2) c') (l ++ [-77, -77]) ∧ Below w.heap.size w w' := by
  have hn := hr.1
  have HR := Sh.mk hr
  have HN := Sh.mk hn
  clear hr hn
  go_enter Tryd.func12, Tryd.ntmps12
  go_wp2_with fail
  refine (ints_any A c n l w HR.out (by omega)).mono ?_
  rintro e w1 ⟨v, rfl, ho, hb⟩
  have HO := Sh.mk ho
  have HB := Sh.mk hb
  have hbs := hb.size
  clear ho hb
  go_wp2_with (first | ((with_reducible refine gate_builtin (b := .append) (xs := #[.tmp 6, .tmp 7]) rfl ?_); refine app_intsB 22 3 .i64 8 Tryd.underlying22 info_i64 (by omega) (w0 := w) (.tmp 6) (.tmp 7) _ _ [-77, -77] (some ⟨w1.heap.size, 0, none⟩) 2 2 rfl rfl rfl rfl (ShR.alloc HO _) (lit_C w1 3 .i64 [-77, -77] (by simp)) (ShB.alloc HB hbs _) (by simp; omega) (by rw [HN.out]; omega) ?_; clear HO HB; intro v1 w2 HO HB; obtain ⟨B, c1, rfl, hc1, hC⟩ := R_open HO.out (n + 2) (by rw [List.length_append, HN.out]; rfl); obtain ⟨G, rfl, hG1, hG2⟩ := R_lies HO.out (by rw [List.length_append, HN.out]; rfl) (by omega : 0 < n + 2); clear hC))
  have b1 : decide (n ≤ c1) = true := by simp; omega
  go_wp2
  go_ret
  exact ⟨G, c1, rfl, hc1, HO.out, HB.out⟩
set_option maxRecDepth 100000 in
theorem listLeft_any (A : Option Addr) (c : Nat) (n : Nat) (l : List Int) (w : World) (hl : l.length = n) (hc : n + 2 ≤ c) (hr : Kd.C (Kd.int .i64) w A (n + 2) (l ++ [-77, -77])) (hs : n ≤ 17592186044400) :
    Calls Tryd.prog 16 #[.slice A n c] w fun e w' => e = .returned (.bool true) ∧ w = w' := by
  obtain ⟨ad, e1, hx⟩ := C_at hr n (by omega)
  cases e1
  obtain ⟨ad', e1, hy⟩ := C_at hr (n + 1) (by omega)
  cases e1
  have r1 : rd (l ++ [-77, -77]) n = -77 := by simp [rd, List.getD, ← hl]
  have r2 : rd (l ++ [-77, -77]) (n + 1 : Nat) = -77 := by simp [rd, List.getD, ← hl]
  rw [r1] at hx
  rw [r2] at hy
  clear r1 r2 hr
  have hy' : w.cell? { block := ad.block, off := ad.off + (n + 1) } = some (.int .i64 (-77)) := hy
  clear hy
  have b1 : decide (n + 2 ≤ c) = true := by simpa using hc
  go_enter Tryd.func16, Tryd.ntmps16
  go_wp2
  go_ret
  exact ⟨rfl, rfl⟩
theorem take_eq_snoc {l m : List Int} {k : Nat} (h1 : k < l.length) (h2 : k < m.length) (h : l.take k = m.take k) (hk : rd l k = rd m k) : l.take (k + 1) = m.take (k + 1) := by
  rw [take_snoc l k h1, take_snoc m k h2, h, hk]
set_option maxRecDepth 100000 in
theorem sameInts_any (A B : Option Addr) (c d : Nat) (n m : Nat) (l r : List Int) (w : World) (hl : Kd.C (Kd.int .i64) w A n l) (hr : Kd.C (Kd.int .i64) w B m r) :
    Calls Tryd.prog 15 #[.slice A n c, .slice B m d] w fun e w' => e = .returned (.bool (decide (l = r))) ∧ Drawn0 w w' := by
  have HL := Sh.mk hl
  have HR := Sh.mk hr
  have hn := hl.1
  have hm := hr.1
  have hn64 := C_len hl
  clear hl hr
  by_cases hnm : n = m
  · subst hnm
    have b0 : ((n : Int) == (n : Int)) = true := by simp
    go_enter Tryd.func15, Tryd.ntmps15
    go_wp2
    go_loopw [5] (fun i wr => ∃ k : Nat, k ≤ n ∧ i = .int .i64 k ∧ Sh (l.take k = r.take k) ∧ Drawn0 w wr) (fun i _ => n - (intOf i).toNat)
    case atStart => exact ⟨0, by omega, rfl, ⟨rfl⟩, Drawn0.refl _⟩
    case round =>
      obtain ⟨k, hk, rfl, HE, ⟨q, rfl⟩⟩ := hrel
      by_cases hlt : k < n
      · obtain ⟨ad, e1, hx⟩ := C_at HL.out k hlt
        cases e1
        obtain ⟨ad', e1, hy⟩ := C_at HR.out k hlt
        cases e1
        by_cases hkk : rd l k = rd r k
        · have bx : (rd l k == rd r k) = true := by simpa using hkk
          go_wp2
          go_quiet (fail)
          go_wp2
          go_roundw
          case rel => exact ⟨k + 1, by omega, by go_num, ⟨take_eq_snoc (by omega) (by omega) HE.out hkk⟩, ⟨⟨_, rfl⟩⟩⟩
          case measure => simp [intOf]; omega
        · have bx : (rd l k == rd r k) = false := by simpa using hkk
          have hne := Sh.mk (show decide (l = r) = false by simp; exact fun e => hkk (by rw [e]))
          clear hkk
          go_wp2
          go_quiet (fail)
          go_wp2
          go_ret
          exact ⟨by rw [hne.out]; rfl, ⟨q + nq, World.drewN_drewN _ _ _⟩⟩
      · have he := Sh.mk (show decide (l = r) = true by
          have h := HE.out
          rw [List.take_of_length_le (by omega), List.take_of_length_le (by omega)] at h
          simpa using h)
        go_wp2
        go_ret
        exact ⟨by rw [he.out]; rfl, ⟨_, rfl⟩⟩
  · have hne : decide (l = r) = false := by simp; exact fun e => hnm (by rw [← hn, ← hm, e])
    rw [hne]
    have b0 : ((n : Int) == (m : Int)) = false := by simp; omega
    have b1 : (n == m) = false := by simp; omega
    clear hne hnm
    go_enter Tryd.func15, Tryd.ntmps15
    go_wp2
    go_ret
    exact ⟨rfl, Drawn0.refl _⟩
end Go.Proofs.YtfiahgahphammaaDoor
