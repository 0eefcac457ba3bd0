/-
caesuralaw26.known: the text of the chapter. Conditions: the table and ErrArg read as listed.
-/
import Derived.Test.YtbpadakcjnkjeaaDoorOffBackLaw
namespace Go.Proofs.YtbpadakcjnkjeaaDoor
open Go Go.RowKit Go.Proofs.YtbpadakcjnkjeaaDoorW.PrintWords Go.Proofs.YtbpadakcjnkjeaaDoorW.PrintLast Go.Proofs.YtbpadakcjnkjeaaDoorW.PrintMore
set_option maxRecDepth 100000
def knownT : ByteArray := { data := #[97, 195, 169, 13, 10, 240, 157, 132, 158, 255] }
theorem known_units : unitsFrom knownT 10 0 = [(97, 0, 1), (233, 1, 3), (13, 3, 4), (10, 4, 5), (119070, 5, 9), (-1, 9, 10)] := by decide +kernel
theorem known_facts : ∃ us : List Un, unitsFrom knownT knownT.size 0 = us ∧ us.length = 6 ∧ plA us 6 = (10, 7, 2, 3) ∧ keyB us 10 = some 6 := ⟨_, known_units, by decide +kernel, by decide +kernel, by decide +kernel⟩
set_option maxHeartbeats 4000000 in
set_option maxRecDepth 100000 in
theorem offKnown_any (E : Nat → Addr) (w : World) (hE : GS [1] E w) (hf : FormsAt w) :
    Calls Tryd.prog 6 #[] w fun e w' => e = .returned (.bool true) ∧ Below w.heap.size w w' := by
  obtain ⟨us, hus, hlen, hpl, hkey⟩ := known_facts
  have HU := Sh.mk hus
  have HCh := Sh.mk (show Chained us 0 by rw [← hus]; exact chained_units _ _ _)
  have HL := Sh.mk hlen
  have HP := Sh.mk hpl
  have HK := Sh.mk hkey
  have HE := Sh.mk hE
  have HF := Sh.mk hf
  clear hus hlen hpl hkey hE hf
  go_enter Tryd.func6, Tryd.ntmps6
  go_wp2_with fail
  refine (offNew_any knownT w HF.out (by decide)).mono ?_
  rintro e w1 ⟨b, v, rfl, hbb, hm, hb⟩
  rw [HU.out] at hm
  obtain ⟨A, c, rfl, hmu⟩ := hm.open HCh.out (by have := HL.out; omega)
  have HM := Sh.mk hmu
  have HB := Sh.mk hb
  clear hm hmu hb hbb
  go_wp2_with fail
  have hct := count_any b A c us w1 HM.out
  rw [HL.out, HP.out] at hct
  refine hct.mono ?_
  clear hct
  rintro e w2 ⟨rfl, hb⟩
  have HM2 := Sh.mk (HM.out.below hb)
  have HB2 := Sh.mk (below_of HB.out hb)
  clear hb HM HB
  go_wp2_with fail
  have hln := line_call E b A c us w2 (HE.out.below HB2.out) HM2.out 10
  rw [HK.out, Option.map_some, HP.out] at hln
  refine hln.mono ?_
  clear hln
  rintro e w3 ⟨rfl, hb⟩
  have HB3 := Sh.mk (below_of HB2.out hb)
  clear hb
  go_wp2
  go_ret
  exact ⟨rfl, HB3.out⟩
end Go.Proofs.YtbpadakcjnkjeaaDoor
