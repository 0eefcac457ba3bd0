/-
The walk of caesuralaw1.CodecParts: true where the sums go on. Conditions: two texts of at most 2^20 bytes; the table and ErrArg read as listed.
-/
import Derived.Test.YtlhnajgckdeedaaDoorKnown
import Derived.Test.YtlhnajgckdeedaaDoorCrcLaw2
import Derived.Deep.RegionHeld3
namespace Go.Proofs.YtlhnajgckdeedaaDoor
open Go Go.RowKit Go.Proofs.YtlhnajgckdeedaaDoorW.PrintWords Go.Proofs.YtlhnajgckdeedaaDoorW.PrintLast Go.Proofs.YtlhnajgckdeedaaDoorW.PrintMore
/-- The law's box, the table, what was there. -/
structure Core (g : Nat) (cs : Array Value) (t : TypeId) (w0 W : World) : Prop where
  blk : W.heap[g]? = some (.cells cs t (0, 0))
  tab : CrcAt W
  bel : Below w0.heap.size w0 W
theorem Core.below {g : Nat} {cs : Array Value} {t : TypeId} {w0 W W1 : World} (h : Core g cs t w0 W) (hb : Below W.heap.size W W1) : Core g cs t w0 W1 :=
  ⟨blk_below h.blk hb, h.tab.below hb, below_of h.bel hb⟩
theorem Core.new (cs : Array Value) (t : TypeId) (w : World) (hT : CrcAt w) : Core w.heap.size cs t w (w.alloc (.cells cs t)) :=
  ⟨blk_new _ _, hT.below ((Below.refl _ _).alloc (Nat.le_refl _) _), (Below.refl _ _).alloc (Nat.le_refl _) _⟩
abbrev S3 (g : Nat) (x y z : Value) (t : TypeId) (w0 W : World) : Prop := W.cell? ⟨g, 0, none⟩ = some x ∧ W.cell? ⟨g, 1, none⟩ = some y ∧ W.cell? ⟨g, 2, none⟩ = some z ∧ Sh (Core g #[x, y, z] t w0 W)
theorem S3.of {g : Nat} {x y z : Value} {t : TypeId} {w0 W : World} (h : Core g #[x, y, z] t w0 W) : S3 g x y z t w0 W := by
  have a0 := blk_cell h.blk 0
  have a1 := blk_cell h.blk 1
  have a2 := blk_cell h.blk 2
  simp only [List.getElem?_toArray, List.getElem?_cons_zero, List.getElem?_cons_succ] at a0 a1 a2
  exact ⟨a0, a1, a2, ⟨h⟩⟩
theorem S3.below {g : Nat} {x y z : Value} {t : TypeId} {w0 W W1 : World} (h : S3 g x y z t w0 W) (hb : Below W.heap.size W W1) : S3 g x y z t w0 W1 := S3.of (h.2.2.2.out.below hb)
theorem core3 {g : Nat} {x y z : Value} {t : TypeId} {w0 W : World} (h : S3 g x y z t w0 W) : Core g #[x, y, z] t w0 W := h.2.2.2.out
theorem S3.drew {g : Nat} {x y z : Value} {t : TypeId} {w0 W : World} (h : Sh (Core g #[x, y, z] t w0 W)) : S3 g x y z t w0 W.drew := S3.of (h.out.below (below_drew (Below.refl _ _)))
theorem bytesOf_cat (a b : ByteArray) : bytesOf (a ++ b) = bytesOf a ++ bytesOf b := by simp [bytesOf]
/-- Bytes, opened. -/
theorem bytes_C (s : ByteArray) (w : World) (hs : s.size ≤ 140737488355327) :
    Calls Tryd.prog 16 #[.string s] w fun e w' => ∃ A c, e = .returned (.slice A s.size c) ∧ Sh ((Kd.int .u8).C w' A s.size (bytesOf s)) ∧ Below w.heap.size w w' := by
  refine (bytes_any s w hs).mono ?_
  rintro e w2 ⟨v, rfl, ho, hb2⟩
  obtain ⟨A, c, rfl, hc, hC⟩ := R_open ho s.size (bytesOf_length s)
  exact ⟨A, c, rfl, ⟨hC⟩, hb2⟩
theorem nil_C (w : World) : (Kd.int .u8).C w none 0 [] := ⟨rfl, by omega, fun h => by omega⟩
set_option maxHeartbeats 4000000 in
set_option maxRecDepth 100000 in
theorem parts_any (a b : ByteArray) (s : Int) (w : World) (ha : a.size ≤ 1048576) (hb : b.size ≤ 1048576) (hT : CrcAt w)
    (h1 : crcMoreF (crcMoreF 0 (bytesOf a)) (bytesOf b) = crcMoreF 0 (bytesOf (a ++ b))) (h2 : crcMoreF s [] = s) :
    Calls Tryd.prog 5 #[.agg #[.string a, .string b, .int .u32 s]] w fun e w' => e = .returned (.bool true) ∧ Below w.heap.size w w' := by
  have hcat : (a ++ b).size = a.size + b.size := ByteArray.size_append
  have HL := Sh.mk (bytesOf_length a)
  have HM := Sh.mk (bytesOf_length b)
  have HC := Sh.mk (bytesOf_length (a ++ b))
  have HCat := Sh.mk hcat
  have E1 := Sh.mk h1
  have E2 := Sh.mk h2
  have hlt : (a ++ b).size ≤ 2097152 := by omega
  clear hcat h1 h2
  obtain ⟨W0, hW0⟩ : ∃ W0, W0 = w.alloc (.cells #[.string a, .string b, .int .u32 s] 36) := ⟨_, rfl⟩
  have HX := Sh.mk (show Core w.heap.size #[.string a, .string b, .int .u32 s] 36 w W0 by rw [hW0]; exact Core.new _ _ _ hT)
  have HW := Sh.mk hW0
  obtain ⟨g, hg⟩ : ∃ g, g = w.heap.size := ⟨_, rfl⟩
  have HG := Sh.mk hg
  clear hg hT hW0
  rw [← HG.out] at HX
  go_enter Tryd.func5, Tryd.ntmps5
  go_wp2_with fail
  rw [← HW.out, ← HG.out]
  clear HW
  refine (known_any W0 HX.out.tab).mono ?_
  rintro e w1 ⟨rfl, hb1⟩
  have HX1 := Sh.mk (HX.out.below hb1)
  clear HX hb1
  obtain ⟨x0, x1, x2, _⟩ := S3.of HX1.out
  go_wp2_with fail
  refine (bytes_any (a ++ b) w1 (by omega)).mono ?_
  rintro e w2 ⟨v, rfl, ho, hb2⟩
  obtain ⟨A, c, rfl, hc, hC⟩ := R_open ho (a.size + b.size) (HC.out.trans HCat.out)
  have HC2 := Sh.mk hC
  have HX2 := Sh.mk (HX1.out.below hb2)
  clear ho hC hb2 HX1 x0 x1 x2
  obtain ⟨x0, x1, x2, _⟩ := S3.of HX2.out
  go_wp2_with fail
  refine (crc_any A c (a.size + b.size) (bytesOf (a ++ b)) w2 HC2.out HX2.out.tab).mono ?_
  rintro e w3 ⟨rfl, rfl⟩
  go_wp2_with fail
  refine (bytes_any a w2 (by omega)).mono ?_
  rintro e w3 ⟨v, rfl, ho, hb3⟩
  obtain ⟨A3, c3, rfl, hc3, hC3⟩ := R_open ho a.size HL.out
  have HC3 := Sh.mk hC3
  have HX3 := Sh.mk (HX2.out.below hb3)
  clear ho hC3 hb3 HX2 x0 x1 x2 HC2
  obtain ⟨x0, x1, x2, _⟩ := S3.of HX3.out
  go_wp2_with fail
  refine (crc_any A3 c3 a.size (bytesOf a) w3 HC3.out HX3.out.tab).mono ?_
  rintro e w4 ⟨rfl, rfl⟩
  go_wp2_with fail
  clear HC3
  go_region_held3 (S3 g (.string a) (.string b) (.int .u32 s) 36 w) (first | assumption | exact S3.drew (by assumption) | exact S3.below (by assumption) (by assumption))
    (first
      | (go_at_call 16; refine (bytes_C _ _ (by omega)).mono ?_; rintro e w4 ⟨A4, c4, rfl, hC4, hb4⟩)
      | (go_at_call 14; refine (crcMore_any _ _ _ _ _ _ (Sh.out (by assumption)) (core3 (by assumption)).tab).mono ?_; rintro e w4 ⟨rfl, rfl⟩; (try rw [E1.out]))
      | (go_at_call 14; refine (crcMore_any _ _ _ _ _ _ (nil_C _) (core3 (by assumption)).tab).mono ?_; rintro e w4 ⟨rfl, rfl⟩; (try rw [E2.out])))
  all_goals go_wp2
  all_goals (go_ret; exact ⟨rfl, (core3 (by assumption)).bel⟩)
end Go.Proofs.YtlhnajgckdeedaaDoor
