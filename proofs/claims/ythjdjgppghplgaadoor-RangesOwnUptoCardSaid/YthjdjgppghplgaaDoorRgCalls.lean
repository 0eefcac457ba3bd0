/-
ranges: fine, both, Normal, Union, Inter, Minus, Not, Has, Count. Conditions: lists of at most 2^20 ranges; ErrArg reads as listed.
-/
import Derived.Test.YthjdjgppghplgaaDoorRgWalk
import Derived.Test.YthjdjgppghplgaaDoorRgA2
namespace Go.Proofs.YthjdjgppghplgaaDoor
open Go Go.RowKit Go.Proofs.YthjdjgppghplgaaDoorW.PrintWords Go.Proofs.YthjdjgppghplgaaDoorW.PrintLast Go.Proofs.YthjdjgppghplgaaDoorW.PrintMore
open Go.Proofs.YthjdjgppghplgaaDoor.PRangesAnswers (S35 k35 rd_T35)
abbrev errA (E : Nat → Addr) : Value := .iface 95 (.pointer (some (E 1)))
/-- A list of the printed texts' own kind. -/
def toS (l : List Rg) : List S35 := l.map fun r => ⟨r.1, r.2⟩
def ofS (l : List S35) : List Rg := l.map fun s => (s.f0, s.f1)
theorem of_to (l : List Rg) : ofS (toS l) = l := by
  unfold ofS toS
  rw [List.map_map]
  conv => rhs; rw [← List.map_id l]
  rfl
theorem to_of (l : List S35) : toS (ofS l) = l := by
  unfold ofS toS
  rw [List.map_map]
  conv => rhs; rw [← List.map_id l]
  rfl
theorem toS_len (l : List Rg) : (toS l).length = l.length := by simp [toS]
theorem ofS_len (l : List S35) : (ofS l).length = l.length := by simp [ofS]
theorem C_toS {w : World} {A : Option Addr} {n : Nat} {l : List Rg} (h : rgK.C w A n l) : k35.C w A (toS l).length (toS l) := by
  obtain ⟨h1, h2, h3⟩ := h
  rw [toS_len, h1]
  refine ⟨by rw [toS_len, h1], h2, fun h0 => ?_⟩
  obtain ⟨ad, e, hc⟩ := h3 h0
  refine ⟨ad, e, fun j p hj => ?_⟩
  simp only [toS, List.getElem?_map, Option.map_eq_some_iff] at hj
  obtain ⟨r, hr, rfl⟩ := hj
  exact hc j r hr
theorem R_ofS {e : Nat} {w : World} {base : Nat} {ok : Nat → Prop} {v : Value} {l : List S35} (h : k35.R e w base ok v l) : rgK.R e w base ok v (ofS l) := by
  obtain ⟨h1, inner, h2, h3⟩ := h
  refine ⟨h1, inner, ?_, ?_⟩
  · rw [ofS_len]; exact h2
  · refine ⟨by rw [ofS_len]; exact h3.1, fun j p hj => ?_⟩
    simp only [ofS, List.getElem?_map, Option.map_eq_some_iff] at hj
    obtain ⟨r, hr, rfl⟩ := hj
    exact h3.2 j r hr
theorem rd_toS (l : List Rg) (k : Nat) : rd_T35 (toS l) (k : Int) = ⟨(rdR l k).1, (rdR l k).2⟩ := by
  unfold rd_T35 rdR toS
  rw [Int.toNat_natCast, List.getD_eq_getElem?_getD, List.getD_eq_getElem?_getD, List.getElem?_map]
  cases l[k]? with
  | none => rfl
  | some r => rfl
theorem w64 {x : Int} (h0 : -9223372036854775808 ≤ x) (h1 : x ≤ 9223372036854775807) : wrap64 x = x := by unfold wrap64; omega
theorem may_step (l : List Rg) (i : Nat) (h : i < l.length) : mayL (l.drop i) = (okR (rdR l i) && mayL (l.drop (i + 1))) := by
  rw [List.drop_eq_getElem_cons h, mayL, List.all_cons]
  simp [rdR, List.getD, h, mayL]
/-- What the printed fine answers. -/
theorem fine_l0 (l : List Rg) (hl : l.length ≤ 1000000000) : ∀ (d i : Nat) (k : Nat), i + d = l.length → d < k → PRangesAnswers.ranges_fine.l0 k (toS l) (l.length : Int) (i : Int) = some (mayL (l.drop i)) := by
  intro d
  induction d with
  | zero =>
    intro i k hi hk
    obtain ⟨k, rfl⟩ : ∃ m, k = m + 1 := ⟨k - 1, by omega⟩
    simp only [PRangesAnswers.ranges_fine.l0]
    rw [if_neg (by omega), List.drop_eq_nil_of_le (by omega)]
    rfl
  | succ d ih =>
    intro i k hi hk
    obtain ⟨k, rfl⟩ : ∃ m, k = m + 1 := ⟨k - 1, by omega⟩
    simp only [PRangesAnswers.ranges_fine.l0]
    rw [if_pos (by omega), if_pos (by omega), if_pos (by rw [toS_len]; omega), rd_toS, may_step l i (by omega)]
    dsimp only
    unfold okR
    by_cases h1 : (rdR l i).1 < 0
    · rw [if_pos h1, decide_eq_false (by omega)]; rfl
    · by_cases h2 : (rdR l i).2 > 1114111
      · rw [if_neg h1, if_pos h2, decide_eq_false (by omega)]; rfl
      · by_cases h3 : (rdR l i).1 > (rdR l i).2
        · rw [if_neg h1, if_neg h2, if_pos h3, decide_eq_false (by omega)]; rfl
        · rw [if_neg h1, if_neg h2, if_neg h3, decide_eq_true (by omega), w64 (by omega) (by omega), Bool.true_and]
          exact ih (i + 1) k (by omega) (by omega)
theorem fine_any (A : Option Addr) (c n : Nat) (l : List Rg) (w : World) (hC : rgK.C w A n l) (hc : n ≤ c) (hn : n ≤ 1048576) :
    Calls Tryd.prog 44 #[.slice A n c] w fun e w' => e = .returned (.bool (mayL l)) ∧ Below w.heap.size w w' := by
  have hl := hC.1
  have h := PRangesAnswers.ranges_fine.calls (l.length + 1) A c (toS l) (mayL l) w (C_toS hC) (by rw [toS_len]; omega) (by
    unfold PRangesAnswers.ranges_fine.f
    rw [toS_len]
    exact fine_l0 l (by omega) l.length 0 _ (by omega) (by omega))
  rw [toS_len, hl] at h
  exact h
/-- An answer, or ErrArg. -/
def RgPost (E : Nat → Addr) (ok : Bool) (q : Int → Bool) (w : World) (e : Ending) (w' : World) : Prop :=
  match ok with
  | true => ∃ v out, e = .returned (.tuple #[v, .nilIface]) ∧ Is q out ∧ rgK.R RgT w' w.heap.size (fun _ => True) v out ∧ Below w.heap.size w w'
  | false => e = .returned (.tuple #[.slice none 0 0, errA E]) ∧ Below w.heap.size w w'
set_option maxHeartbeats 4000000 in
set_option maxRecDepth 100000 in
theorem both_any (E : Nat → Addr) (gk : Nat) (kf : Bool → Bool → Bool) (hgk : ∀ args w, (callFunc gk args).run Tryd.prog w = .ok (.enter gk args) w) (hkf : ∀ (x y : Bool) (w : World), Calls Tryd.prog gk #[.bool x, .bool y] w fun e w' => e = .returned (.bool (kf x y)) ∧ w = w')
    (A B : Option Addr) (cA cB nA nB : Nat) (la lb : List Rg) (w : World) (hE : GS [1] E w) (hA : rgK.C w A nA la) (hB : rgK.C w B nB lb) (hcA : nA ≤ cA) (hcB : nB ≤ cB) (hna : nA ≤ 1048576) (hnb : nB ≤ 1048576) :
    Calls Tryd.prog 27 #[.slice A nA cA, .slice B nB cB, .func (.func gk) #[] #[]] w (RgPost E (mayL la && mayL lb) (fun p => kf (inL la p) (inL lb p)) w) := by
  have HE := Sh.mk hE
  have HA := Sh.mk hA
  have HB := Sh.mk hB
  have HK := Sh.mk hkf
  have HG := Sh.mk hgk
  clear hE hA hB hkf hgk
  cases ha : mayL la with
  | false =>
    have HMa := Sh.mk ha
    clear ha
    go_enter Tryd.func27, Tryd.ntmps27
    go_wp2_with fail
    refine (fine_any A cA nA la w HA.out hcA hna).mono ?_
    rintro e w1 ⟨rfl, hb⟩
    rw [HMa.out]
    have HB1 := Sh.mk hb
    have c1 := ((HE.out.below hb).s 1 (by decide)).cell
    simp only [errG] at c1
    clear hb
    go_wp2
    go_quiet (fail)
    go_wp2
    go_ret2
    exact ⟨rfl, below_of HB1.out (pw_below_drewN (Below.refl _ _) _)⟩
  | true =>
    have HMa := Sh.mk ha
    clear ha
    cases hb : mayL lb with
    | false =>
      have HMb := Sh.mk hb
      clear hb
      go_enter Tryd.func27, Tryd.ntmps27
      go_wp2_with fail
      refine (fine_any A cA nA la w HA.out hcA hna).mono ?_
      rintro e w1 ⟨rfl, hb⟩
      rw [HMa.out]
      have HB1 := Sh.mk hb
      clear hb
      go_wp2_with fail
      refine (fine_any B cB nB lb w1 (Kd.C_below HB.out HB1.out) hcB hnb).mono ?_
      rintro e w2 ⟨rfl, hb⟩
      rw [HMb.out]
      have HB2 := Sh.mk (below_of HB1.out hb)
      have c1 := ((HE.out.below HB2.out).s 1 (by decide)).cell
      simp only [errG] at c1
      clear hb HB1
      go_wp2
      go_quiet (fail)
      go_wp2
      go_ret2
      exact ⟨rfl, below_of HB2.out (pw_below_drewN (Below.refl _ _) _)⟩
    | true =>
      have HMb := Sh.mk hb
      clear hb
      go_enter Tryd.func27, Tryd.ntmps27
      go_wp2_with fail
      refine (fine_any A cA nA la w HA.out hcA hna).mono ?_
      rintro e w1 ⟨rfl, hb⟩
      rw [HMa.out]
      have HB1 := Sh.mk hb
      clear hb
      go_wp2_with fail
      refine (fine_any B cB nB lb w1 (Kd.C_below HB.out HB1.out) hcB hnb).mono ?_
      rintro e w2 ⟨rfl, hb⟩
      rw [HMb.out]
      have HB2 := Sh.mk (below_of HB1.out hb)
      clear hb HB1
      go_wp2_with fail
      refine (walk_any gk kf HG.out HK.out A B cA cB nA nB la lb w2 (Kd.C_below HA.out HB2.out) (Kd.C_below HB.out HB2.out) HMa.out HMb.out hna hnb).mono ?_
      rintro e w3 ⟨v, out, rfl, hI, hR, hb⟩
      have HI := Sh.mk hI
      have HR := Sh.mk (Kd.R_lower hR HB2.out.size)
      have HB3 := Sh.mk (below_of HB2.out hb)
      clear hI hR hb HB2
      go_wp2
      go_ret2
      exact ⟨_, out, rfl, HI.out, HR.out, HB3.out⟩
end Go.Proofs.YthjdjgppghplgaaDoor
