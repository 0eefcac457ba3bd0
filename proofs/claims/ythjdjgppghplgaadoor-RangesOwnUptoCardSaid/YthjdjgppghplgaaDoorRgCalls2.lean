/-
ranges.Normal, Union, Inter, Minus, Not, Has, Count. Conditions: lists of at most 2^20 ranges; ErrArg reads as listed.
-/
import Derived.Test.YthjdjgppghplgaaDoorRgCalls
namespace Go.Proofs.YthjdjgppghplgaaDoor
open Go Go.RowKit Go.Proofs.YthjdjgppghplgaaDoorW.PrintWords Go.Proofs.YthjdjgppghplgaaDoorW.PrintLast Go.Proofs.YthjdjgppghplgaaDoorW.PrintMore
theorem k_normal (x y : Bool) (w : World) : Calls Tryd.prog 28 #[.bool x, .bool y] w fun e w' => e = .returned (.bool x) ∧ w = w' := by
  go_enter Tryd.func28, Tryd.ntmps28
  go_wp2
  go_ret
  exact ⟨rfl, rfl⟩
theorem k_not (x y : Bool) (w : World) : Calls Tryd.prog 31 #[.bool x, .bool y] w fun e w' => e = .returned (.bool (!x)) ∧ w = w' := by
  cases x <;> (
    go_enter Tryd.func31, Tryd.ntmps31
    go_wp2
    go_ret
    exact ⟨rfl, rfl⟩)
theorem k_union (x y : Bool) (w : World) : Calls Tryd.prog 29 #[.bool x, .bool y] w fun e w' => e = .returned (.bool (x || y)) ∧ w = w' := by
  cases x <;> cases y <;> (
    go_enter Tryd.func29, Tryd.ntmps29
    go_wp2
    go_ret
    exact ⟨rfl, rfl⟩)
theorem k_inter (x y : Bool) (w : World) : Calls Tryd.prog 30 #[.bool x, .bool y] w fun e w' => e = .returned (.bool (x && y)) ∧ w = w' := by
  cases x <;> cases y <;> (
    go_enter Tryd.func30, Tryd.ntmps30
    go_wp2
    go_ret
    exact ⟨rfl, rfl⟩)
theorem k_minus (x y : Bool) (w : World) : Calls Tryd.prog 41 #[.bool x, .bool y] w fun e w' => e = .returned (.bool (x && !y)) ∧ w = w' := by
  cases x <;> cases y <;> (
    go_enter Tryd.func41, Tryd.ntmps41
    go_wp2
    go_ret
    exact ⟨rfl, rfl⟩)
theorem C_nilR (w : World) : rgK.C w none 0 [] := Kd.C_nil rgK w
section
variable (E : Nat → Addr) (A B : Option Addr) (cA cB nA nB : Nat) (la lb : List Rg) (w : World) (hE : GS [1] E w) (hA : rgK.C w A nA la) (hcA : nA ≤ cA) (hna : nA ≤ 1048576)
include hE hA hcA hna
set_option maxHeartbeats 4000000 in
set_option maxRecDepth 100000 in
theorem normal_any : Calls Tryd.prog 11 #[.slice A nA cA] w (RgPost E (mayL la) (inL la) w) := by
  have hb := both_any E 28 (fun x _ => x) (enters_of Tryd.func28 (by kernel_rfl) rfl) k_normal A none cA 0 nA 0 la [] w hE hA (C_nilR w) hcA (by omega) hna (by omega)
  rw [show mayL [] = true from rfl, Bool.and_true] at hb
  generalize mayL la = ok at hb ⊢
  have HBB := Sh.mk hb
  clear hb hE hA
  go_enter Tryd.func11, Tryd.ntmps11
  go_wp2_with fail
  refine HBB.out.mono ?_
  cases ok with
  | false =>
    rintro e w1 ⟨rfl, hb⟩
    have HB := Sh.mk hb
    clear hb HBB
    go_wp2
    go_ret2
    exact ⟨rfl, HB.out⟩
  | true =>
    rintro e w1 ⟨v, out, rfl, hI, hR, hb⟩
    have HI := Sh.mk hI
    have HR := Sh.mk hR
    have HB := Sh.mk hb
    clear hI hR hb HBB
    go_wp2
    go_ret2
    exact ⟨_, out, rfl, HI.out, HR.out, HB.out⟩
set_option maxHeartbeats 4000000 in
set_option maxRecDepth 100000 in
theorem not_any : Calls Tryd.prog 14 #[.slice A nA cA] w (RgPost E (mayL la) (fun p => !inL la p) w) := by
  have hb := both_any E 31 (fun x _ => !x) (enters_of Tryd.func31 (by kernel_rfl) rfl) k_not A none cA 0 nA 0 la [] w hE hA (C_nilR w) hcA (by omega) hna (by omega)
  rw [show mayL [] = true from rfl, Bool.and_true] at hb
  generalize mayL la = ok at hb ⊢
  have HBB := Sh.mk hb
  clear hb hE hA
  go_enter Tryd.func14, Tryd.ntmps14
  go_wp2_with fail
  refine HBB.out.mono ?_
  cases ok with
  | false =>
    rintro e w1 ⟨rfl, hb⟩
    have HB := Sh.mk hb
    clear hb HBB
    go_wp2
    go_ret2
    exact ⟨rfl, HB.out⟩
  | true =>
    rintro e w1 ⟨v, out, rfl, hI, hR, hb⟩
    have HI := Sh.mk hI
    have HR := Sh.mk hR
    have HB := Sh.mk hb
    clear hI hR hb HBB
    go_wp2
    go_ret2
    exact ⟨_, out, rfl, HI.out, HR.out, HB.out⟩
section
variable (hB : rgK.C w B nB lb) (hcB : nB ≤ cB) (hnb : nB ≤ 1048576)
include hB hcB hnb
set_option maxHeartbeats 4000000 in
set_option maxRecDepth 100000 in
theorem union_any : Calls Tryd.prog 12 #[.slice A nA cA, .slice B nB cB] w (RgPost E (mayL la && mayL lb) (fun p => inL la p || inL lb p) w) := by
  have hb := both_any E 29 (fun x y => x || y) (enters_of Tryd.func29 (by kernel_rfl) rfl) k_union A B cA cB nA nB la lb w hE hA hB hcA hcB hna hnb
  generalize (mayL la && mayL lb) = ok at hb ⊢
  have HBB := Sh.mk hb
  clear hb hE hA hB
  go_enter Tryd.func12, Tryd.ntmps12
  go_wp2_with fail
  refine HBB.out.mono ?_
  cases ok with
  | false =>
    rintro e w1 ⟨rfl, hb⟩
    have HB := Sh.mk hb
    clear hb HBB
    go_wp2
    go_ret2
    exact ⟨rfl, HB.out⟩
  | true =>
    rintro e w1 ⟨v, out, rfl, hI, hR, hb⟩
    have HI := Sh.mk hI
    have HR := Sh.mk hR
    have HB := Sh.mk hb
    clear hI hR hb HBB
    go_wp2
    go_ret2
    exact ⟨_, out, rfl, HI.out, HR.out, HB.out⟩
set_option maxHeartbeats 4000000 in
set_option maxRecDepth 100000 in
theorem inter_any : Calls Tryd.prog 13 #[.slice A nA cA, .slice B nB cB] w (RgPost E (mayL la && mayL lb) (fun p => inL la p && inL lb p) w) := by
  have hb := both_any E 30 (fun x y => x && y) (enters_of Tryd.func30 (by kernel_rfl) rfl) k_inter A B cA cB nA nB la lb w hE hA hB hcA hcB hna hnb
  generalize (mayL la && mayL lb) = ok at hb ⊢
  have HBB := Sh.mk hb
  clear hb hE hA hB
  go_enter Tryd.func13, Tryd.ntmps13
  go_wp2_with fail
  refine HBB.out.mono ?_
  cases ok with
  | false =>
    rintro e w1 ⟨rfl, hb⟩
    have HB := Sh.mk hb
    clear hb HBB
    go_wp2
    go_ret2
    exact ⟨rfl, HB.out⟩
  | true =>
    rintro e w1 ⟨v, out, rfl, hI, hR, hb⟩
    have HI := Sh.mk hI
    have HR := Sh.mk hR
    have HB := Sh.mk hb
    clear hI hR hb HBB
    go_wp2
    go_ret2
    exact ⟨_, out, rfl, HI.out, HR.out, HB.out⟩
set_option maxHeartbeats 4000000 in
set_option maxRecDepth 100000 in
theorem minus_any : Calls Tryd.prog 22 #[.slice A nA cA, .slice B nB cB] w (RgPost E (mayL la && mayL lb) (fun p => inL la p && !inL lb p) w) := by
  have hb := both_any E 41 (fun x y => x && !y) (enters_of Tryd.func41 (by kernel_rfl) rfl) k_minus A B cA cB nA nB la lb w hE hA hB hcA hcB hna hnb
  generalize (mayL la && mayL lb) = ok at hb ⊢
  have HBB := Sh.mk hb
  clear hb hE hA hB
  go_enter Tryd.func22, Tryd.ntmps22
  go_wp2_with fail
  refine HBB.out.mono ?_
  cases ok with
  | false =>
    rintro e w1 ⟨rfl, hb⟩
    have HB := Sh.mk hb
    clear hb HBB
    go_wp2
    go_ret2
    exact ⟨rfl, HB.out⟩
  | true =>
    rintro e w1 ⟨v, out, rfl, hI, hR, hb⟩
    have HI := Sh.mk hI
    have HR := Sh.mk hR
    have HB := Sh.mk hb
    clear hI hR hb HBB
    go_wp2
    go_ret2
    exact ⟨_, out, rfl, HI.out, HR.out, HB.out⟩
end
end
theorem sz_bound : ∀ (l : List Rg) (lo : Int), Nm lo l → lo ≤ 1114113 → 0 ≤ szL l ∧ szL l ≤ 1114113 - lo
  | [], lo, _, h => by simp [szL]; omega
  | r :: t, lo, hn, h => by
    obtain ⟨h1, h2, h3, h4⟩ := hn
    have := sz_bound t (r.2 + 2) h4 (by omega)
    rw [szL_cons]
    omega
theorem sz_take (l : List Rg) (h : Nm 0 l) (k : Nat) : 0 ≤ szL (l.take k) ∧ szL (l.take k) ≤ 1114113 := by
  have hn : Nm 0 (l.take k) := by
    have e := List.take_append_drop k l
    rw [← e] at h
    exact ((nm_append _ _ _).1 h).1
  have := sz_bound _ 0 hn (by omega)
  omega
theorem sz_snoc (l : List Rg) (k : Nat) (h : k < l.length) : szL (l.take (k + 1)) = szL (l.take k) + ((rdR l k).2 - (rdR l k).1 + 1) := by
  have e0 : rdR l k = l[k] := by simp [rdR, List.getD, h]
  rw [List.take_succ_eq_append_getElem h, e0]
  unfold szL
  rw [List.map_append, List.sum_append, List.map_cons, List.map_nil, List.sum_cons, List.sum_nil]
  omega
/-- A count, or ErrArg. -/
def CntPost (E : Nat → Addr) (ok : Bool) (q : Int → Bool) (w : World) (e : Ending) (w' : World) : Prop :=
  match ok with
  | true => ∃ out, Is q out ∧ e = .returned (.tuple #[.int .i64 (szL out), .nilIface]) ∧ Below w.heap.size w w'
  | false => e = .returned (.tuple #[.int .i64 0, errA E]) ∧ Below w.heap.size w w'
set_option maxHeartbeats 4000000 in
set_option maxRecDepth 100000 in
theorem count_any (E : Nat → Addr) (A : Option Addr) (cA nA : Nat) (la : List Rg) (w : World) (hE : GS [1] E w) (hA : rgK.C w A nA la) (hcA : nA ≤ cA) (hna : nA ≤ 1048576) : Calls Tryd.prog 9 #[.slice A nA cA] w (CntPost E (mayL la) (inL la) w) := by
  have hb := normal_any E A cA nA la w hE hA hcA hna
  generalize mayL la = ok at hb ⊢
  have HBB := Sh.mk hb
  clear hb hE hA
  go_enter Tryd.func9, Tryd.ntmps9
  go_wp2_with fail
  refine HBB.out.mono ?_
  cases ok with
  | false =>
    rintro e w1 ⟨rfl, hb⟩
    have HB := Sh.mk hb
    clear hb HBB
    go_wp2
    go_ret2
    exact ⟨rfl, HB.out⟩
  | true =>
    rintro e w1 ⟨v, out, rfl, hI, hR, hb⟩
    have hlen := hI.len
    obtain ⟨n, hn⟩ : ∃ n, n = out.length := ⟨_, rfl⟩
    obtain ⟨Ao, co, rfl, hco, hC⟩ := R_open hR n hn.symm
    rw [← hn] at hlen
    have HN := Sh.mk hn
    have HI := Sh.mk hI
    have HC := Sh.mk hC
    have HB := Sh.mk hb
    clear hI hR hb HBB hC hn
    go_wp2
    go_loopw [6, 19] (fun s i wr => ∃ k : Nat, k ≤ n ∧ i = .int .i64 k ∧ s = .int .i64 (szL (out.take k)) ∧ Sh (Below w1.heap.size w1 wr)) (fun _ i _ => n - (intOf i).toNat)
    case atStart => exact ⟨0, by omega, rfl, rfl, ⟨Below.refl _ _⟩⟩
    case round =>
      obtain ⟨k, hk, rfl, rfl, HBr⟩ := hrel
      have hsz := sz_take out HI.out.1 k
      by_cases hlt : k < n
      · obtain ⟨ad, e1, y0, y1⟩ := C_rg (Kd.C_below HC.out HBr.out) k hlt
        cases e1
        have hsz2 := sz_take out HI.out.1 (k + 1)
        have HSN := Sh.mk (sz_snoc out k (by rw [← HN.out]; exact hlt))
        have hok := okR_of (HI.out.1.may (by omega)) (i := k) (by rw [← HN.out]; exact hlt)
        obtain ⟨⟨rl, rh⟩, hr⟩ : ∃ r, r = rdR out k := ⟨_, rfl⟩
        obtain ⟨s, hs⟩ : ∃ s, s = szL (out.take k) := ⟨_, rfl⟩
        rw [← hr] at y0 y1 HSN hok
        rw [← hs] at HSN hsz ⊢
        dsimp only at y0 y1 HSN hok
        obtain ⟨hx0, hx1, hx2⟩ := hok
        clear hr hs
        go_wp2
        go_roundw
        case rel => exact ⟨k + 1, by omega, by go_num, by rw [HSN.out], ⟨below_alloc HBr.out _⟩⟩
        case measure => simp [intOf] <;> omega
      · obtain rfl : k = n := by omega
        have e : szL (out.take k) = szL out := by rw [List.take_of_length_le (by rw [← HN.out]; exact Nat.le_refl _)]
        rw [e]
        have HBr2 := Sh.mk (below_of HB.out HBr.out)
        clear e hsz
        go_wp2
        go_ret2
        exact ⟨out, HI.out, rfl, HBr2.out⟩
theorem k_has (lo hi p : Int) (g : Nat) (W : World) (h : W.cell? ⟨g, 0, none⟩ = some (.int .i64 p)) :
    Calls Tryd.prog 43 #[.agg #[.int .i64 lo, .int .i64 hi], .pointer (some ⟨g, 0, none⟩)] W fun e w' => e = .returned (.bool (decide (lo ≤ p) && decide (p ≤ hi))) ∧ Below W.heap.size W w' := by
  have hc : (W.alloc (.cells #[.int .i64 lo, .int .i64 hi] RgT)).cell? ⟨g, 0, none⟩ = some (.int .i64 p) := pw_cell_below (below_alloc (Below.refl _ _) _) h
  clear h
  by_cases h1 : lo ≤ p
  · have b1 : decide (lo ≤ p) = true := decide_eq_true h1
    by_cases h2 : p ≤ hi
    · have b2 : decide (p ≤ hi) = true := decide_eq_true h2
      go_enter Tryd.func43, Tryd.ntmps43
      go_wp2
      go_ret
      exact ⟨by rw [b1, b2]; rfl, below_alloc (Below.refl _ _) _⟩
    · have b2 : decide (p ≤ hi) = false := decide_eq_false h2
      have b3 : hi < p := by omega
      go_enter Tryd.func43, Tryd.ntmps43
      go_wp2
      go_ret
      exact ⟨rfl, below_alloc (Below.refl _ _) _⟩
  · have b1 : decide (lo ≤ p) = false := decide_eq_false h1
    go_enter Tryd.func43, Tryd.ntmps43
    go_wp2
    go_ret
    exact ⟨rfl, below_alloc (Below.refl _ _) _⟩
/-- The first range in which a number lies. -/
def firstIn (l : List Rg) (p : Int) : Int := match l.findIdx? (fun r => decide (r.1 ≤ p) && decide (p ≤ r.2)) with | some k => (k : Int) | none => -1
theorem findIdx_at (l : List Rg) (q : Rg → Bool) (k : Nat) (h : k < l.length) (h0 : ∀ j, j < k → q (rdR l j) = false) (h1 : q (rdR l k) = true) : l.findIdx? q = some k := by
  have e : ∀ j, (hj : j < l.length) → rdR l j = l[j] := fun j hj => by simp [rdR, List.getD, hj]
  rw [List.findIdx?_eq_some_iff_getElem]
  refine ⟨h, by rw [← e k h]; exact h1, fun j hj => ?_⟩
  rw [← e j (by omega), h0 j hj]
  simp
theorem findIdx_no (l : List Rg) (q : Rg → Bool) (h0 : ∀ j, j < l.length → q (rdR l j) = false) : l.findIdx? q = none := by
  rw [List.findIdx?_eq_none_iff]
  intro r hr
  obtain ⟨j, hj, rfl⟩ := List.mem_iff_getElem.1 hr
  have e : rdR l j = l[j] := by simp [rdR, List.getD, hj]
  rw [← e]
  exact h0 j hj
theorem firstIn_in (l : List Rg) (p : Int) : decide (0 ≤ firstIn l p) = inL l p := by
  unfold firstIn
  cases h : l.findIdx? (fun r => decide (r.1 ≤ p) && decide (p ≤ r.2)) with
  | none =>
    rw [List.findIdx?_eq_none_iff] at h
    have : inL l p = false := by
      unfold inL
      rw [List.any_eq_false]
      intro r hr
      rw [h r hr]
      simp
    rw [this]
    rfl
  | some k =>
    rw [List.findIdx?_eq_some_iff_getElem] at h
    obtain ⟨hk, h1, _⟩ := h
    have : inL l p = true := by
      unfold inL
      rw [List.any_eq_true]
      exact ⟨_, List.getElem_mem hk, h1⟩
    rw [this]
    simp
set_option maxHeartbeats 4000000 in
set_option maxRecDepth 100000 in
theorem index_any (A : Option Addr) (cA nA : Nat) (la : List Rg) (p : Int) (g : Nat) (w : World) (hA : rgK.C w A nA la) (hg : w.cell? ⟨g, 0, none⟩ = some (.int .i64 p)) (hna : nA ≤ 1048576) :
    Calls Tryd.prog 51 #[.slice A nA cA, .func (.func 43) #[] #[.pointer (some ⟨g, 0, none⟩)]] w fun e w' => e = .returned (.int .i64 (firstIn la p)) ∧ Below w.heap.size w w' := by
  have HA := Sh.mk hA
  have HL := Sh.mk hA.1
  have HG := Sh.mk hg
  clear hA hg
  go_enter Tryd.func51, Tryd.ntmps51
  go_wp2
  go_loopw [8] (fun i wr => ∃ k : Nat, k ≤ nA ∧ i = .int .i64 k ∧ Sh (∀ j, j < k → (decide ((rdR la j).1 ≤ p) && decide (p ≤ (rdR la j).2)) = false) ∧ Sh (Below w.heap.size w wr)) (fun i _ => nA - (intOf i).toNat)
  case atStart => exact ⟨0, by omega, rfl, ⟨fun j hj => absurd hj (by omega)⟩, ⟨Below.refl _ _⟩⟩
  case round =>
    obtain ⟨k, hk, rfl, HF, HB⟩ := hrel
    by_cases hlt : k < nA
    · obtain ⟨ad, e1, y0, y1⟩ := C_rg (Kd.C_below HA.out HB.out) k hlt
      cases e1
      obtain ⟨⟨rl, rh⟩, hr⟩ : ∃ r, r = rdR la k := ⟨_, rfl⟩
      have HR := Sh.mk hr
      rw [← hr] at y0 y1
      dsimp only at y0 y1
      clear hr
      obtain ⟨b, hb⟩ : ∃ b, b = (decide (rl ≤ p) && decide (p ≤ rh)) := ⟨_, rfl⟩
      have HBB := Sh.mk hb
      go_wp2_with fail
      refine (k_has rl rh p g wr (pw_cell_below HB.out HG.out)).mono ?_
      rintro e w1 ⟨rfl, hb1⟩
      rw [← hb]
      have HB1 := Sh.mk (below_of HB.out hb1)
      clear hb hb1 y0 y1
      cases b with
      | true =>
        go_wp2
        go_ret
        exact ⟨by unfold firstIn; rw [findIdx_at la _ k (by rw [HL.out]; exact hlt) HF.out (by rw [← HR.out]; exact HBB.out.symm)]; rfl, HB1.out⟩
      | false =>
        go_wp2
        go_roundw
        case rel => exact ⟨k + 1, by omega, by go_num, ⟨fun j hj => by
          by_cases h : j = k
          · subst h; rw [← HR.out]; exact HBB.out.symm
          · exact HF.out j (by omega)⟩, HB1⟩
        case measure => simp [intOf] <;> omega
    · obtain rfl : k = nA := by omega
      go_wp2
      go_ret
      exact ⟨by unfold firstIn; rw [findIdx_no la _ (by rw [HL.out]; exact HF.out)]; rfl, HB.out⟩
set_option maxHeartbeats 4000000 in
set_option maxRecDepth 100000 in
theorem has_any (A : Option Addr) (cA nA : Nat) (la : List Rg) (p : Int) (w : World) (hA : rgK.C w A nA la) (hna : nA ≤ 1048576) :
    Calls Tryd.prog 26 #[.slice A nA cA, .int .i64 p] w fun e w' => e = .returned (.bool (inL la p)) ∧ Below w.heap.size w w' := by
  have hcont : ∀ (W : World) (g : Nat), Sh (rgK.C W A nA la) → W.cell? ⟨g, 0, none⟩ = some (.int .i64 p) → Calls Tryd.prog 42 #[.slice A nA cA, .func (.func 43) #[] #[.pointer (some ⟨g, 0, none⟩)]] W fun e w' => e = .returned (.bool (inL la p)) ∧ Below W.heap.size W w' := by
    intro W g HC hg
    have HI := Sh.mk (index_any A cA nA la p g W HC.out hg hna)
    have HF := Sh.mk (firstIn_in la p)
    clear hg
    go_enter Tryd.func42, Tryd.ntmps42
    go_wp2_with fail
    refine HI.out.mono ?_
    rintro e w1 ⟨rfl, hb⟩
    have HB := Sh.mk hb
    clear hb HI
    generalize firstIn la p = f at HF ⊢
    go_wp2
    go_ret
    exact ⟨by rw [← HF.out]; rfl, HB.out⟩
  have HC := Sh.mk hcont
  have HA := Sh.mk hA
  clear hcont hA
  go_enter Tryd.func26, Tryd.ntmps26
  go_wp2_with fail
  refine (HC.out _ _ ⟨Kd.C_alloc HA.out _⟩ ((blk_cell (blk_new _ _) 0).trans rfl)).mono ?_
  rintro e w1 ⟨rfl, hb⟩
  have HB := Sh.mk (below_of (below_alloc (Below.refl _ _) _) hb)
  clear hb
  go_wp2
  go_ret
  exact ⟨rfl, HB.out⟩
end Go.Proofs.YthjdjgppghplgaaDoor
