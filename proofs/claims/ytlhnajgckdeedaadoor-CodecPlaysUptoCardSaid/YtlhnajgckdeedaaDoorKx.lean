/-
What a call that writes into one block and one row keeps; append onto a row whose head may be frozen, or that a conversion made: where the new row lies. Conditions: each lemma's own.
-/
import Derived.Test.YtlhnajgckdeedaaDoorWriter
import Derived.Maps.AppendAt
namespace Go.Proofs.YtlhnajgckdeedaaDoor
open Go Go.RowKit Go.Proofs.YtlhnajgckdeedaaDoorW.PrintWords Go.Proofs.YtlhnajgckdeedaaDoorW.PrintLast Go.Proofs.YtlhnajgckdeedaaDoorW.PrintMore
/-- What is neither block b nor row r is kept. -/
structure Kx (b : Nat) (r : Option Nat) (w w' : World) : Prop where
  os : w'.os = w.os
  tape : w'.tape = w.tape
  output : w'.output = w.output
  size : w.heap.size ≤ w'.heap.size
  block : ∀ k, k < w.heap.size → k ≠ b → some k ≠ r → w'.heap[k]? = w.heap[k]?
/-- A row is the elder one, or new. -/
def Hat (w : World) (r r' : Option Nat) : Prop := r' = r ∨ ∃ g, r' = some g ∧ w.heap.size ≤ g
theorem Hat.refl (w : World) (r : Option Nat) : Hat w r r := .inl rfl
theorem Hat.trans {w w1 : World} {r r1 r2 : Option Nat} (h : Hat w r r1) (k : Hat w1 r1 r2) (hs : w.heap.size ≤ w1.heap.size) : Hat w r r2 := by
  rcases k with rfl | ⟨g, e, hg⟩
  · exact h
  · exact .inr ⟨g, e, by omega⟩
theorem Kx.refl (b : Nat) (r : Option Nat) (w : World) : Kx b r w w := ⟨rfl, rfl, rfl, Nat.le_refl _, fun _ _ _ _ => rfl⟩
theorem Kx.trans {b : Nat} {r r1 : Option Nat} {w w1 w2 : World} (h : Kx b r w w1) (k : Kx b r1 w1 w2) (hh : Hat w r r1) : Kx b r w w2 := by
  refine ⟨k.os.trans h.os, k.tape.trans h.tape, k.output.trans h.output, Nat.le_trans h.size k.size, fun i hi hb hr => ?_⟩
  have hs := h.size
  refine (k.block i (by omega) hb ?_).trans (h.block i hi hb hr)
  rcases hh with rfl | ⟨g, rfl, hg⟩
  · exact hr
  · intro e
    have := Option.some.inj e
    omega
theorem Kx.of_below {b : Nat} {r : Option Nat} {w w1 : World} (h : Below w.heap.size w w1) : Kx b r w w1 := ⟨h.os, h.tape, h.output, h.size, fun i hi _ _ => h.block i hi⟩
theorem Kx.of_grown {b : Nat} {r : Option Nat} {w w1 : World} (h : w.grownBy w1 r) : Kx b r w w1 := ⟨h.os, h.tape, h.output, h.size, fun i hi _ hr => h.block i hi hr⟩
theorem Kx.set (b : Nat) (r : Option Nat) (w : World) (i : Nat) (v : Value) : Kx b r w (w.setCell ⟨b, i, none⟩ v) := ⟨rfl, rfl, rfl, by simp [World.setCell], fun k _ hk _ => Below.heap_setCell _ _ _ _ (fun e => hk (by rw [e]))⟩
theorem Kx.below {z b : Nat} {r : Option Nat} {w0 w w1 : World} (h0 : Below z w0 w) (h : Kx b r w w1) (hz : z ≤ w0.heap.size) (hb : z ≤ b) (hr : ∀ k, r = some k → z ≤ k) : Below z w0 w1 :=
  h0.trans ⟨h.os, h.tape, h.output, h.size, fun i hi => h.block i (by have := h0.size; omega) (by omega) (fun e => by have := hr i e.symm; omega)⟩
section
variable {P : Program} {w : World}
/-- Where the row lies behind an append of cells. -/
theorem hat_cells {base : Nat} {t ty e : TypeId} {i : TypeInfo} {z : Value} {size bytes : Nat} (ht : P.underlying t = some (.slice e)) (hi : P.info? e = some i) (hz : i.zero = some z)
    (hsize : i.size = size) (hby : i.bytes = bytes) (hzs : z.cells.size = size) (hsz : 0 < size) {v : Value} {n : Nat} {xs : List Value} (hown : w.ownsRowF base e size v n xs)
    {a : Addr} {m c : Nat} {news : List Value} (hl : news.length = m * size) (hnews : ∀ j u, news[j]? = some u → w.cell? (a.add j) = some u) (h1 : ∀ u ∈ news, u.oneCell' = true)
    (h63 : n + m ≤ maxLen) (hbytes : (n + m) * bytes ≤ 140737488355328) (hbase : base ≤ w.heap.size) {v' : Value} {w' : World} (hr : (Builtin.append_ #[t, t] ty #[v, .slice (some a) m c]).run P w = .ok v' w') : Hat w v.ownBlock v'.ownBlock := by
  rcases hown.2 with ⟨rfl, rfl⟩ | ⟨g, cap, cur, fz, rfl, hbg, hg, hfz, hnc, hcm, hcs, htake⟩
  · obtain ⟨v2, w2, r1, _, _, _, hat⟩ := run_append_own_at (P := P) w base t ty e i z size bytes ht hi hz hsize hby hzs hsz (.slice none 0 0) 0 xs ⟨hown.1, .inl ⟨rfl, rfl⟩⟩ a m c news hl hnews h1 h63 hbytes hbase
    rw [hr] at r1
    simp only [Result.ok.injEq] at r1
    obtain ⟨rfl, rfl⟩ := r1
    rcases hat with hat | hat
    · exact .inl hat
    · exact .inr ⟨_, hat, Nat.le_refl _⟩
  · subst hsize
    subst hby
    have hsmall : n + m ≤ 9223372036854775807 := by simp only [maxLen] at h63; omega
    by_cases hroom : n + m ≤ cap
    · have hfit : n * i.size + news.length ≤ cur.size := by rw [hl, hcs, ← Nat.add_mul]; exact Nat.mul_le_mul_right _ hroom
      have r1 := run_append_roomF (P := P) w t ty e i ht hi g n cap cur fz hg hfz a m c news hl hnews h1 hroom hfit
      rw [hr] at r1
      simp only [Result.ok.injEq] at r1
      obtain ⟨rfl, _⟩ := r1
      exact .inl rfl
    · have holds : ∀ j u, xs[j]? = some u → w.cell? ((⟨g, 0, none⟩ : Addr).add j) = some u := hown.cells (g := g) rfl
      have r1 := run_append_grow (P := P) w t ty e i z ht hi hz ⟨g, 0, none⟩ n cap xs hown.1 holds a m c news hl hnews (by omega) (by omega) (growslice_fits (by omega) hbytes)
      rw [hr] at r1
      simp only [Result.ok.injEq] at r1
      obtain ⟨rfl, _⟩ := r1
      exact .inr ⟨w.heap.size, rfl, Nat.le_refl _⟩
/-- Where the row lies behind an append of a text. -/
theorem hat_str {base : Nat} {t u ty e : TypeId} {i : TypeInfo} (ht : P.underlying t = some (.slice e)) (hu : P.underlying u = some .string) (hi : P.info? e = some i) (hz : i.zero = some (.int .u8 0))
    (hsize : i.size = 1) (hby : i.bytes = 1) {v : Value} {n : Nat} {xs : List Value} (hown : w.ownsRowF base e 1 v n xs) {s : ByteArray}
    (h63 : n + s.size ≤ maxLen) (hbytes : n + s.size ≤ 140737488355328) (hne : ∀ g, v.ownBlock = some g → True) {v' : Value} {w' : World} (hr : (Builtin.append_ #[t, u] ty #[v, .string s]).run P w = .ok v' w') (hv : v ≠ .slice none 0 0) : Hat w v.ownBlock v'.ownBlock := by
  rcases hown.2 with ⟨rfl, rfl⟩ | ⟨g, cap, cur, fz, rfl, hbg, hg, hfz, hnc, hcm, hcs, htake⟩
  · exact absurd rfl hv
  · have hsmall : n + s.size ≤ 9223372036854775807 := by simp only [maxLen] at h63; omega
    have hxl : xs.length = n := by simpa using hown.1
    by_cases hroom : n + s.size ≤ cap
    · have hcs' : cur.size = cap := by simpa using hcs
      have r1 := Lib.run_append_room_stringF (P := P) w t u ty e i ht hu hi hsize g n cap cur fz hg (by simpa using hfz) s hroom (by omega)
      rw [hr] at r1
      simp only [Result.ok.injEq] at r1
      obtain ⟨rfl, _⟩ := r1
      exact .inl rfl
    · have holds : ∀ j u, xs[j]? = some u → w.cell? ((⟨g, 0, none⟩ : Addr).add j) = some u := hown.cells (g := g) rfl
      have r1 := Lib.run_append_grow_string (P := P) w t u ty e i (.int .u8 0) ht hu hi hz ⟨g, 0, none⟩ n cap xs (by rw [hsize]; simpa using hxl) holds s (by omega) (by omega) (by rw [hby]; exact growslice_fits (by omega) (by omega))
      rw [hr] at r1
      simp only [Result.ok.injEq] at r1
      obtain ⟨rfl, _⟩ := r1
      exact .inr ⟨w.heap.size, rfl, Nat.le_refl _⟩
end
end Go.Proofs.YtlhnajgckdeedaaDoor
