/-
units.Encode, and the document's Scalar, One, Encode: the same text. Conditions: at most 2^44 points.
-/
import Derived.Test.YtbpadakcjnkjeaaDoorEnc
namespace Go.Proofs.YtbpadakcjnkjeaaDoor
open Go Go.RowKit Go.Proofs.YtbpadakcjnkjeaaDoorW.PrintWords Go.Proofs.YtbpadakcjnkjeaaDoorW.PrintLast Go.Proofs.YtbpadakcjnkjeaaDoorW.PrintMore
set_option maxRecDepth 100000
/-- What Encode answers: the text; the refusal. -/
def encS (l : List Int) : ByteArray := if l.all isSc then strOfNums (l.flatMap encP) else { data := #[] }
def encE (l : List Int) : Option Nat := if l.all isSc then none else some 1
theorem flat_len (l : List Int) : (l.flatMap encP).length ≤ 4 * l.length := by
  induction l with
  | nil => simp
  | cons a r ih => rw [List.flatMap_cons, List.length_append, List.length_cons]; have := encP_len a; omega
theorem all_take {l : List Int} {k : Nat} (h : k < l.length) (ha : (l.take k).all isSc = true) (hk : isSc (rd l k) = true) : (l.take (k + 1)).all isSc = true := by
  rw [take_snoc l k h, List.all_append, ha]; simp [hk]
theorem all_not {l : List Int} {k : Nat} (h : k < l.length) (hk : isSc (rd l k) = false) : l.all isSc = false := by
  rw [List.all_eq_false]
  exact ⟨l[k], List.getElem_mem h, by simp [rd, List.getD, h] at hk; simp [hk]⟩
theorem flat_take {l : List Int} {k : Nat} (h : k < l.length) : (l.take (k + 1)).flatMap encP = (l.take k).flatMap encP ++ encP (rd l k) := by
  rw [take_snoc l k h, List.flatMap_append]; simp
theorem isSc_ge {p : Int} (h : isSc p = true) : 0 ≤ p ∧ p ≤ 1114111 := by simp [isSc] at h; omega
set_option maxRecDepth 100000 in
set_option maxHeartbeats 2000000 in
theorem encode_any (S : List Nat) (h1 : 1 ∈ S) (E : Nat → Addr) (A : Option Addr) (c : Nat) (n : Nat) (l : List Int) (w : World) (hg : GS S E w) (hr : Kd.C (Kd.int .i64) w A n l) (hs : n ≤ 17592186044415) :
    Calls Tryd.prog 7 #[.slice A n c] w fun e w' => e = .returned (.tuple #[.string (encS l), errV E (encE l)]) ∧ Below w.heap.size w w' := by
  have HR := Sh.mk hr
  have HN := Sh.mk hr.1
  have HG := Sh.mk hg
  clear hr hg
  go_enter Tryd.func7, Tryd.ntmps7
  go_wp2
  go_loopw [4, 9] (fun v i wr => ∃ k : Nat, k ≤ n ∧ i = .int .i64 k ∧ Sh ((l.take k).all isSc = true) ∧ Sh (Kd.R (Kd.int .u8) 5 wr w.heap.size (fun _ => True) v ((l.take k).flatMap encP)) ∧ Sh (Below w.heap.size w wr)) (fun _ i _ => n - (intOf i).toNat)
  case atStart => exact ⟨0, by omega, rfl, ⟨rfl⟩, ⟨Kd.R_nil _ _ _ _ _⟩, ⟨Below.refl _ _⟩⟩
  case round =>
    obtain ⟨k, hk, rfl, HA, HO, HB⟩ := hrel
    by_cases hlt : k < n
    · obtain ⟨ad, e1, hx⟩ := C_at (Kd.C_below HR.out HB.out) k hlt
      cases e1
      have hlen := flat_len (l.take k)
      have hlen2 : (l.take k).length ≤ k := List.length_take_le _ _
      cases hsc : isSc (rd l k) with
      | true =>
        have hge := isSc_ge hsc
        have HS := Sh.mk hsc
        clear hsc
        go_wp2_with fail
        refine (scalar_any (rd l k) _).mono ?_
        rintro e w1 ⟨rfl, rfl⟩
        rw [HS.out]
        go_wp2_with fail
        refine (put_any _ _ (rd l k) w.heap.size w _ hge.1 hge.2 (by omega) HB.out.size HO.out HB.out).mono ?_
        rintro e w1 ⟨v', rfl, ho, hb⟩
        clear HO HB hx
        have HO := Sh.mk ho
        have HB := Sh.mk hb
        clear ho hb
        go_wp2
        go_roundw
        case rel => exact ⟨k + 1, by omega, by go_num, ⟨all_take (by rw [HN.out]; exact hlt) HA.out HS.out⟩, ⟨by rw [flat_take (by rw [HN.out]; exact hlt)]; exact HO.out⟩, HB⟩
        case measure => simp [intOf]; omega
      | false =>
        have HS := Sh.mk hsc
        clear hsc
        have hcell := ((HG.out.below HB.out).s 1 h1).cell
        simp only [errG] at hcell
        go_wp2_with fail
        refine (scalar_any (rd l k) _).mono ?_
        rintro e w1 ⟨rfl, rfl⟩
        rw [HS.out]
        go_wp2
        go_quiet (fail)
        go_wp2
        go_ret2
        have hf := all_not (by rw [HN.out]; exact hlt) HS.out
        refine ⟨by simp [encS, encE, hf, errV], belowN HB.out _⟩
    · have e : l.take k = l := List.take_of_length_le (by rw [HN.out]; omega)
      rw [e] at HO HA
      have hcv := own_string (P := Tryd.prog) Tryd.underlying53 Tryd.underlying5 Tryd.underlying9 (Kd.own_of_R HO.out)
      go_wp2
      go_ret2
      exact ⟨by simp [encS, encE, HA.out, errV], HB.out⟩
end Go.Proofs.YtbpadakcjnkjeaaDoor
