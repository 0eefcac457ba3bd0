/-
The seat's ground: where the sentinel errors lie, and that this stays while memory only grows. Conditions: the listed variables read as listed.
-/
import Derived.Test.YthjdjgppghplgaaDoorGl
import Derived.Test.YthjdjgppghplgaaDoorProg
import Derived.KernelRfl
import Derived.WalkKit
import Derived.Below
namespace Go.Proofs.YthjdjgppghplgaaDoor
open Go Go.RowKit

theorem sentFacts : Gl.SentFacts Tryd.prog 27 95 112 9 where
  hi := ⟨_, Tryd.underlying27⟩
  hrow := typeName_ptr_named (nm := "errors.errorString") (by rw [show "*" ++ "errors.errorString" = "*errors.errorString" by decide]; kernel_rfl) (by kernel_rfl) (by decide)
  hp := Tryd.underlying95
  he := ⟨_, Tryd.underlying112, rfl, rfl⟩
  hs := Tryd.underlying9
  hc := by kernel_rfl
  hcs := by kernel_rfl

/-- The variable of refusal number c. -/
def errG : Nat → Nat
 | 1 => 0
 | 2 => 1
 | 3 => 2
 | 4 => 3
 | 5 => 4
 | 6 => 5
 | 7 => 6
 | 8 => 7
 | 9 => 8
 | 10 => 9
 | 11 => 10
  | c => c + 1000000

/-- The refusals of numbers S point to E c, each to another place. -/
structure GS (S : List Nat) (E : Nat → Addr) (w : World) : Prop where
  s : ∀ g, g ∈ S → Gl.SentAt 95 w (errG g) (E g)
  ne : ∀ g g', g ∈ S → g' ∈ S → g ≠ g' → E g ≠ E g'

theorem GS.sub {S S' : List Nat} {E : Nat → Addr} {w : World} (h : GS S E w) (hs : ∀ g, g ∈ S' → g ∈ S) : GS S' E w :=
  ⟨fun g hg => h.s g (hs g hg), fun g g' hg hg' => h.ne g g' (hs g hg) (hs g' hg')⟩
theorem GS.below {S : List Nat} {E : Nat → Addr} {w w1 : World} (h : GS S E w) (hb : Below w.heap.size w w1) : GS S E w1 :=
  ⟨fun g hg => ⟨(hb.cell (World.block_lt_of_cell? w _ (h.s g hg).cell)).trans (h.s g hg).cell, by
      obtain ⟨c, t, hr⟩ := (h.s g hg).row
      exact ⟨c, t, (hb.block _ (Array.getElem?_eq_some_iff.1 hr).1).trans hr⟩⟩, h.ne⟩

theorem gs_of {l : List (String × DataW Unit)} {W : World} (h : laidMet Tryd.prog l W) (S : List Nat)
    (hinj : ∀ g g', g ∈ S → g' ∈ S → errG g = errG g' → g = g')
    (hS : ∀ g, g ∈ S → ∃ (i : Nat) (n : String) (text : List UInt8), l[i]? = some (n, Gl.sent text) ∧ Tryd.prog.globalNamed n = some (errG g) ∧ (Tryd.prog.globals[errG g]?).map (·.type) = some 27) : ∃ E, GS S E W := by
  obtain ⟨R, e1, e2, e3, e4⟩ := Gl.laid_parts h
  have all : ∀ g, g ∈ S → ∃ (a : Addr) (i : Nat) (p : List MemPlace) (n : String) (t : List UInt8), Gl.SentAt 95 W (errG g) a ∧ R[i]? = some p ∧ MemPlace.cell a.block a.off ∈ p ∧ a.spot = none ∧ l[i]? = some (n, Gl.sent t) ∧ Tryd.prog.globalNamed n = some (errG g) := by
    intro g hg
    obtain ⟨i, n, text, hi, hn, ht⟩ := hS g hg
    have hlt : i < R.length := by rw [e1]; exact (List.getElem?_eq_some_iff.1 hi).1
    have hp : R[i]? = some R[i] := List.getElem?_eq_getElem hlt
    obtain ⟨a, ha, hm, hs⟩ := Gl.sent_of sentFacts (e2 i _ _ hi hp) hn ht (fun b off hb => e3 i _ b off hp hb)
    exact ⟨a, i, _, n, text, ha, hp, hm, hs, hi, hn⟩
  refine ⟨fun g => if hg : g ∈ S then (all g hg).choose else ⟨0, 0, none⟩, ?_, ?_⟩
  · intro g hg
    simp only [hg, dif_pos]
    obtain ⟨_, _, _, _, ha, _⟩ := (all g hg).choose_spec
    exact ha
  · intro g g' hg hg' hne
    simp only [hg, hg', dif_pos]
    obtain ⟨i, p, n, t, _, hp, hm, hs, hi, hn⟩ := (all g hg).choose_spec
    obtain ⟨i', p', n', t', _, hp', hm', hs', hi', hn'⟩ := (all g' hg').choose_spec
    intro e
    rw [← e] at hm'
    by_cases hii : i = i'
    · subst hii
      rw [hi] at hi'
      obtain ⟨rfl, _⟩ := Prod.mk.injEq _ _ _ _ ▸ (Option.some.inj hi')
      exact hne (hinj _ _ hg hg' (Option.some.inj (hn.symm.trans hn')))
    · rcases Nat.lt_or_gt_of_ne hii with hlt | hlt
      · exact e4 i i' p p' hlt hp hp' _ hm hm'
      · exact e4 i' i p' p hlt hp' hp _ hm' hm

/-- An error: nil, or refusal number g. -/
def errV (E : Nat → Addr) : Option Nat → Value
  | none => .nilIface
  | some g => .iface 95 (.pointer (some (E g)))

theorem info_p : ∃ i, Tryd.prog.info? 95 = some i ∧ i.comparable = true := by
  have h : ((Tryd.prog.info? 95).map (·.comparable)) = some true := by kernel_rfl
  obtain ⟨i, hi, hc⟩ := Option.map_eq_some_iff.1 h
  exact ⟨i, hi, hc⟩
theorem info_s : ∃ i, Tryd.prog.info? 112 = some i ∧ i.size ≠ 0 := by
  have h : ((Tryd.prog.info? 112).map (·.size)) = some 1 := by kernel_rfl
  obtain ⟨i, hi, hc⟩ := Option.map_eq_some_iff.1 h
  exact ⟨i, hi, by omega⟩

theorem eq_same (w : World) (a : Addr) : (binOp .eql 27 (.iface 95 (.pointer (some a))) (.iface 95 (.pointer (some a)))).run Tryd.prog w = .ok (.bool true) w := by
  obtain ⟨i, hi, hc⟩ := info_p
  obtain ⟨j, hj, hs⟩ := info_s
  exact run_eql_iface_ptr_same w a Tryd.underlying27 Tryd.underlying95 hi hc hj
theorem eq_other {S : List Nat} {E : Nat → Addr} {w : World} (h : GS S E w) (g g' : Nat) (hg : g ∈ S) (hg' : g' ∈ S) (hne : g ≠ g') :
    (binOp .eql 27 (.iface 95 (.pointer (some (E g)))) (.iface 95 (.pointer (some (E g'))))).run Tryd.prog w = .ok (.bool false) w := by
  obtain ⟨i, hi, hc⟩ := info_p
  obtain ⟨j, hj, hs⟩ := info_s
  obtain ⟨c, t, hr⟩ := (h.s g hg).row
  obtain ⟨c', t', hr'⟩ := (h.s g' hg').row
  exact run_eql_iface_ptr_other w Tryd.underlying27 Tryd.underlying95 hi hc hj hs (h.ne g g' hg hg' hne) hr hr'

end Go.Proofs.YthjdjgppghplgaaDoor
