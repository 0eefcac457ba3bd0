/-
What a row's list of laid variables gives, in any program: each listed variable's reading, with places of its own; sentinel errors are apart from one another. Conditions: those of the list.
-/
import Derived.LaidLaws
import Derived.Lib.LaidTab
import Derived.Stop.LaidErr
import Derived.LaidEql
namespace Go.Proofs.YthjdjgppghplgaaDoor.Gl
open Go Go.RowKit Go.ChangeShapes

/-- One listed variable's reading: its cells, its places. -/
def Reads (P : Program) (w : World) (x : String × DataW Unit) (ps : List MemPlace) : Prop :=
  ∃ g t cs fuel p, P.globalNamed x.1 = some g ∧ (P.globals[g]?).map (·.type) = some t ∧ w.var? P x.1 = some cs ∧
    DataW.trod (fun _ => ()) P w 0 (fun _ => true) false fuel t cs.toList = some (x.2, p) ∧ ps = MemPlace.row ⟨g, 0, none⟩ cs.size ++ p

theorem parts_of {P : Program} {w : World} : ∀ {l : List (String × DataW Unit)} {ps : List MemPlace}, DataW.LaidVars P w l ps → ps.Nodup →
    ∃ R : List (List MemPlace), R.length = l.length ∧ (∀ (i : Nat) x p, l[i]? = some x → R[i]? = some p → Reads P w x p) ∧ (∀ (i : Nat) p, R[i]? = some p → ∀ a ∈ p, a ∈ ps) ∧
      (∀ (i j : Nat) p q, i < j → R[i]? = some p → R[j]? = some q → ∀ a ∈ p, a ∉ q)
  | [], ps, _, _ => ⟨[], rfl, by simp, by simp, by simp⟩
  | (n, d) :: r, ps, h, hn => by
    obtain ⟨g, t, cs, fuel, p, q, h1, h2, h3, h4, h5, rfl⟩ := h
    have hn' := List.nodup_append.1 hn
    obtain ⟨R, e1, e2, e3, e4⟩ := parts_of h5 hn'.2.1
    refine ⟨(MemPlace.row ⟨g, 0, none⟩ cs.size ++ p) :: R, by simp [e1], ?_, ?_, ?_⟩
    · intro i x p' hx hp
      cases i with
      | zero =>
        simp only [List.getElem?_cons_zero, Option.some.injEq] at hx hp
        subst hx; subst hp
        exact ⟨g, t, cs, fuel, p, h1, h2, h3, h4, rfl⟩
      | succ i => exact e2 i x p' (by simpa using hx) (by simpa using hp)
    · intro i p' hp a ha
      cases i with
      | zero =>
        simp only [List.getElem?_cons_zero, Option.some.injEq] at hp
        subst hp
        exact List.mem_append_left _ ha
      | succ i => exact List.mem_append_right _ (e3 i p' (by simpa using hp) a ha)
    · intro i j p' q' hij hp hq a ha ha'
      obtain ⟨j, rfl⟩ : ∃ m, j = m + 1 := ⟨j - 1, by omega⟩
      have hq' : R[j]? = some q' := by simpa using hq
      cases i with
      | zero =>
        simp only [List.getElem?_cons_zero, Option.some.injEq] at hp
        subst hp
        exact hn'.2.2 a ha a (e3 j q' hq' a ha') rfl
      | succ i => exact e4 i j p' q' (by omega) (by simpa using hp) hq' a ha ha'

/-- All that a list gives. -/
theorem laid_parts {P : Program} {w : World} {l : List (String × DataW Unit)} (h : laidMet P l w) :
    ∃ R : List (List MemPlace), R.length = l.length ∧ (∀ (i : Nat) x p, l[i]? = some x → R[i]? = some p → Reads P w x p) ∧
      (∀ (i : Nat) p b off, R[i]? = some p → MemPlace.cell b off ∈ p → (∃ c t, w.heap[b]? = some (.cells c t (0, 0))) ∧ ∀ u v, w.cell? ⟨b, off, none⟩ = some (.iface u v) → Value.okWide P w .any 0 u v) ∧
      (∀ (i j : Nat) p q, i < j → R[i]? = some p → R[j]? = some q → ∀ a ∈ p, a ∉ q) := by
  obtain ⟨ps, hv, hn, hr⟩ := h
  obtain ⟨R, e1, e2, e3, e4⟩ := parts_of hv hn
  exact ⟨R, e1, e2, fun i p b off hp ha => hr b off (e3 i p hp _ ha), e4⟩

/-- A sentinel error, as the list tells it. -/
abbrev sent {H : Type} (text : List UInt8) : DataW H := .iface "*errors.errorString" (.ptr (.agg [.lit (.string text)]))

/-- Sentinel number i of a list: where its variable lies, what it points to. -/
structure SentAt (tp : TypeId) (w : World) (g : Nat) (a : Addr) : Prop where
  cell : w.cell? ⟨g, 0, none⟩ = some (.iface tp (.pointer (some a)))
  row : ∃ c t, w.heap[a.block]? = some (.cells c t (0, 0))

/-- The facts of a program that a sentinel's reading wants. -/
structure SentFacts (P : Program) (ti tp te ts : TypeId) : Prop where
  hi : ∃ ms, P.underlying ti = some (.interface ms)
  hrow : ∀ u, P.typeName? 3 u = some "*errors.errorString" → u = tp
  hp : P.underlying tp = some (.pointer te)
  he : ∃ f : Field, P.underlying te = some (.struct #[f]) ∧ f.type = ts ∧ f.offset = 0
  hs : P.underlying ts = some .string
  hc : P.cellsOf te = 1
  hcs : P.cellsOf ts = 1

theorem sent_of {P : Program} {w : World} {ti tp te ts : TypeId} (F : SentFacts P ti tp te ts) {n : String} {text : List UInt8} {ps : List MemPlace} {g : Nat}
    (h : Reads P w (n, sent text) ps) (hg : P.globalNamed n = some g) (ht : (P.globals[g]?).map (·.type) = some ti)
    (hr : ∀ b off, MemPlace.cell b off ∈ ps → (∃ c t, w.heap[b]? = some (.cells c t (0, 0))) ∧ ∀ u v, w.cell? ⟨b, off, none⟩ = some (.iface u v) → Value.okWide P w .any 0 u v) :
    ∃ a, SentAt tp w g a ∧ MemPlace.cell a.block a.off ∈ ps ∧ a.spot = none := by
  obtain ⟨g', t', cs, fuel, p, h1, h2, h3, h4, rfl⟩ := h
  obtain rfl := Option.some.inj (hg.symm.trans h1)
  obtain rfl := Option.some.inj (ht.symm.trans h2)
  obtain ⟨ms, hi⟩ := F.hi
  obtain ⟨f, he, hft, hfo⟩ := F.he
  obtain ⟨l0⟩ := cs
  have ok0 : ∀ u v, l0 = [.iface u v] → Value.okWide P w .any 0 u v := fun u v e => by
    subst e
    exact (hr g 0 (by simp [MemPlace.row])).2 u v (by simpa using World.var?_cell hg h3 0)
  obtain ⟨a, s, rfl, hc, _, _, rfl⟩ := errorString_of_trod hi F.hrow F.hp he hft hfo F.hs F.hc F.hcs h4 ok0
  have hm : MemPlace.cell a.block a.off ∈ MemPlace.row ⟨g, 0, none⟩ (Array.size #[Value.iface tp (.pointer (some a))]) ++ MemPlace.row a 1 := List.mem_append_right _ (by simp [MemPlace.row])
  exact ⟨a, ⟨by simpa using World.var?_cell hg h3 0, (hr _ _ hm).1⟩, hm, World.cell?_spot hc⟩

/-- A listed table of whole numbers, cell by cell. -/
theorem tab_of {P : Program} {l : List (String × DataW Unit)} {W : World} (h : laidMet P l W) {i g t e n : Nat} {nm : String} {k : IntKind} {zs : List Int} (hi : l[i]? = some (nm, Lib.tabData k zs)) (hg : P.globalNamed nm = some g)
    (hty : (P.globals[g]?).map (·.type) = some t) (ht : P.underlying t = some (.array n e)) (he : P.underlying e = some (.int k)) (hce : P.cellsOf e = 1) (hct : P.cellsOf t = n) :
    ∀ j, j < zs.length → W.cell? ⟨g, j, none⟩ = some (.int k (zs.getD j 0)) := by
  obtain ⟨R, e1, e2, _, _⟩ := laid_parts h
  have hlt : i < R.length := by rw [e1]; exact (List.getElem?_eq_some_iff.1 hi).1
  obtain ⟨g', t', cs, fuel, p, h1, h2, h3, h4, _⟩ := e2 i _ _ hi (List.getElem?_eq_getElem hlt)
  obtain rfl := Option.some.inj (hg.symm.trans h1)
  obtain rfl := Option.some.inj (hty.symm.trans h2)
  have hT : Lib.TabIs P W nm k zs := by
    unfold Lib.TabIs
    have e := Lib.cells_of_tab ht he hce hct h4
    show W.var? P nm = _
    rw [h3, ← e]
  exact fun j hj => hT.cell hg j hj

end Go.Proofs.YthjdjgppghplgaaDoor.Gl
namespace Go.Proofs.YthjdjgppghplgaaDoor
/-- A fact that the walk's simp does not look into. -/
structure Sh (p : Prop) : Prop where mk :: (out : p)
end Go.Proofs.YthjdjgppghplgaaDoor
