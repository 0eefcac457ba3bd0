/-
units.lead, walked: the form that begins with a byte. Condition: the table reads as listed.
-/
import Derived.Test.YtbpadakcjnkjeaaDoorForms
import Derived.Laws.CopyOwn
namespace Go.Proofs.YtbpadakcjnkjeaaDoor
open Go Go.RowKit Go.Proofs.YtbpadakcjnkjeaaDoorW.PrintWords Go.Proofs.YtbpadakcjnkjeaaDoorW.PrintLast Go.Proofs.YtbpadakcjnkjeaaDoorW.PrintMore
set_option maxRecDepth 100000
theorem run_index_forms (k : Nat) (hk : k < 8) (w : World) : (Instr.index 100 (.agg formCells) (.int .i64 (k : Int))).run Tryd.prog w = .ok (.agg #[.int .u8 (formAt k 0), .int .u8 (formAt k 1), .int .u8 (formAt k 2), .int .u8 (formAt k 3), .int .i64 (formAt k 4), .int .u8 (formAt k 5)]) w := by
  have h : k = 0 ∨ k = 1 ∨ k = 2 ∨ k = 3 ∨ k = 4 ∨ k = 5 ∨ k = 6 ∨ k = 7 := by omega
  rcases h with rfl | rfl | rfl | rfl | rfl | rfl | rfl | rfl <;> rfl
/-- Which form a byte leads. -/
def leadF (c : Int) : Option Nat := (List.range 8).find? fun k => decide (formAt k 0 ≤ c) && decide (c ≤ formAt k 1)
def formO (o : Option Nat) (j : Nat) : Int := match o with | some k => formAt k j | none => 0
def formOV (o : Option Nat) : Value := .agg #[.int .u8 (formO o 0), .int .u8 (formO o 1), .int .u8 (formO o 2), .int .u8 (formO o 3), .int .i64 (formO o 4), .int .u8 (formO o 5)]
theorem results_cell_row2 {P : Program} {fn : Func} {p u : Tmp} {ty : TypeId} (h : fn.results = #[.cell p ty, .tmp u]) (tmps : Array Value) (w : World) (g : Nat) (t : TypeId) (cs : Array Value) (fr : Nat × Nat) (d : TypeDesc)
    (hp : tmps.getD p undef = .pointer (some ⟨g, 0, none⟩)) (hg : w.heap[g]? = some (.cells cs t fr))
    (hu : P.underlying ty = some d) (hd : (match d with | .struct _ | .array _ _ => true | _ => false) = true) (hi : (P.info? ty).map (·.size) = some cs.size) :
    (results fn tmps).run P w = .ok (.tuple #[.agg cs, tmps.getD u undef]) w := by
  rw [results_cell_tmp h, hp]
  simp [asAddr, run_loadVar_row w g t ty cs fr d hg hu hd hi, Result.andThen]
theorem one6 (a b c d e f : Int) : (#[.int .u8 a, .int .u8 b, .int .u8 c, .int .u8 d, .int .i64 e, .int .u8 f] : Array Value).all (·.oneCell') = true := by simp [Value.oneCell']
theorem find_step {k : Nat} (hk : k < 8) {p : Nat → Bool} (h : ((List.range k).find? p) = none) : (p k = true → (List.range 8).find? p = some k) ∧ (p k = false → (List.range (k + 1)).find? p = none) := by
  constructor
  · intro hp
    have e : List.range 8 = List.range k ++ (k :: (List.range' (k + 1) (7 - k))) := by
      match k, hk with
      | 0, _ | 1, _ | 2, _ | 3, _ | 4, _ | 5, _ | 6, _ | 7, _ => rfl
    rw [e, List.find?_append, h]
    simp [hp]
  · intro hp
    rw [List.range_succ, List.find?_append, h]
    simp [hp]
set_option maxRecDepth 100000 in
set_option maxHeartbeats 4000000 in
theorem lead_any (c : Int) (w : World) (hf : FormsAt w) :
    Calls Tryd.prog 57 #[.int .u8 c] w fun e w' => e = .returned (.tuple #[formOV (leadF c), .bool (leadF c).isSome]) ∧ Below w.heap.size w w' := by
  have HF := Sh.mk hf
  clear hf
  obtain ⟨W0, hW0⟩ : ∃ W0, W0 = w.alloc (.cells #[.int .u8 0, .int .u8 0, .int .u8 0, .int .u8 0, .int .i64 0, .int .u8 0] 97) := ⟨_, rfl⟩
  obtain ⟨g, hg⟩ : ∃ g, g = w.heap.size := ⟨_, rfl⟩
  have HG := Sh.mk hg
  have HB := Sh.mk (show Below w.heap.size w W0 by rw [hW0]; exact (Below.refl _ _).alloc (Nat.le_refl _) _)
  have HX := Sh.mk (show W0.heap[g]? = some (.cells #[.int .u8 0, .int .u8 0, .int .u8 0, .int .u8 0, .int .i64 0, .int .u8 0] 97 (0, 0)) by rw [hW0, hg]; exact blk_new _ _)
  have HW := Sh.mk hW0
  obtain ⟨tf, htf⟩ := HF.out.below HB.out
  have HF0 := Sh.mk htf
  clear htf
  clear hW0 hg
  go_enter Tryd.func57, Tryd.ntmps57
  go_wp2_with (first | (refine wpList_load_row rfl 100 (.global 11) rfl 11 rfl tf formCells (0, 0) _ (by rw [← HW.out]; exact HF0.out) Tryd.underlying100 rfl (by kernel_rfl) ?_))
  rw [← HW.out, ← HG.out]
  go_loopw [7] (fun i wr => ∃ k : Nat, k ≤ 8 ∧ i = .int .i64 k ∧ Sh ((List.range k).find? (fun k => decide (formAt k 0 ≤ c) && decide (c ≤ formAt k 1)) = none) ∧ Sh (Below w.heap.size w wr) ∧ Sh (wr.heap[g]? = some (.cells #[.int .u8 0, .int .u8 0, .int .u8 0, .int .u8 0, .int .i64 0, .int .u8 0] 97 (0, 0)))) (fun i _ => 8 - (intOf i).toNat)
  case atStart => exact ⟨0, by omega, rfl, ⟨rfl⟩, HB, HX⟩
  case round =>
    obtain ⟨k, hk, rfl, HN, HB, HX⟩ := hrel
    have hgw : w.heap.size ≤ g := by rw [HG.out]; exact Nat.le_refl _
    have hgr : g < wr.heap.size := blk_lt HX.out
    by_cases hlt : k < 8
    · have hix := run_index_forms k hlt wr
      obtain ⟨W2, hW2⟩ : ∃ W2, W2 = wr.alloc (.cells #[.int .u8 (formAt k 0), .int .u8 (formAt k 1), .int .u8 (formAt k 2), .int .u8 (formAt k 3), .int .i64 (formAt k 4), .int .u8 (formAt k 5)] 97) := ⟨_, rfl⟩
      have HW2 := Sh.mk hW2
      have HB2 := Sh.mk (show Below w.heap.size w W2 by rw [hW2]; exact HB.out.alloc HB.out.size _)
      have HX2 := Sh.mk (show W2.heap[g]? = some (.cells #[.int .u8 0, .int .u8 0, .int .u8 0, .int .u8 0, .int .i64 0, .int .u8 0] 97 (0, 0)) by rw [hW2]; exact blk_alloc HX.out _)
      clear hW2
      cases hp : (decide (formAt k 0 ≤ c) && decide (c ≤ formAt k 1)) with
      | true =>
        have hF := Sh.mk (show leadF c = some k from (find_step hlt HN.out).1 hp)
        have b1 : decide (formAt k 0 ≤ c) = true := by simp at hp; simpa using hp.1
        have b2 : decide (c ≤ formAt k 1) = true := by simp at hp; simpa using hp.2
        clear hp
        go_wp2_with (first | (refine wpList_store_row rfl 97 (.tmp 2) (.tmp 20) rfl g #[.int .u8 (formAt k 0), .int .u8 (formAt k 1), .int .u8 (formAt k 2), .int .u8 (formAt k 3), .int .i64 (formAt k 4), .int .u8 (formAt k 5)] rfl rfl 97 #[.int .u8 0, .int .u8 0, .int .u8 0, .int .u8 0, .int .i64 0, .int .u8 0] (by rw [← HW2.out]; exact HX2.out) (by kernel_rfl) rfl (one6 _ _ _ _ _ _) ?_; rw [← HW2.out]))
        have hR := setRow_heap W2 g _ #[.int .u8 (formAt k 0), .int .u8 (formAt k 1), .int .u8 (formAt k 2), .int .u8 (formAt k 3), .int .i64 (formAt k 4), .int .u8 (formAt k 5)] _ _ HX2.out
        (try simp only [Exit.inBlock, Exit.then])
        refine bodyPost_ret (results_cell_row2 rfl _ _ g 97 _ (0, 0) _ rfl hR Tryd.underlying97 rfl (by kernel_rfl)) rfl ?_
        exact ⟨by rw [hF.out]; rfl, below_setRow HB2.out hgw _⟩
      | false =>
        have hF := Sh.mk ((find_step hlt HN.out).2 hp)
        by_cases h1 : formAt k 0 ≤ c
        · have b1 : decide (formAt k 0 ≤ c) = true := by simpa using h1
          have b2 : decide (c ≤ formAt k 1) = false := by simpa [h1] using hp
          clear hp h1
          go_wp2
          rw [← HW2.out]
          go_roundw
          case rel => exact ⟨k + 1, by omega, by go_num, hF, HB2, HX2⟩
          case measure => simp [intOf]; omega
        · have b1 : decide (formAt k 0 ≤ c) = false := by simpa using h1
          clear hp h1
          go_wp2
          rw [← HW2.out]
          go_roundw
          case rel => exact ⟨k + 1, by omega, by go_num, hF, HB2, HX2⟩
          case measure => simp [intOf]; omega
    · obtain rfl : k = 8 := by omega
      have hF := Sh.mk (show leadF c = none from HN.out)
      go_wp2_with (first | (refine wpList_store_row rfl 97 (.tmp 2) (.tmp 22) rfl g #[.int .u8 0, .int .u8 0, .int .u8 0, .int .u8 0, .int .i64 0, .int .u8 0] rfl rfl 97 #[.int .u8 0, .int .u8 0, .int .u8 0, .int .u8 0, .int .i64 0, .int .u8 0] HX.out (by kernel_rfl) rfl (one6 _ _ _ _ _ _) ?_))
      have hR := setRow_heap wr g _ #[.int .u8 0, .int .u8 0, .int .u8 0, .int .u8 0, .int .i64 0, .int .u8 0] _ _ HX.out
      (try simp only [Exit.inBlock, Exit.then])
      refine bodyPost_ret (results_cell_row2 rfl _ _ g 97 _ (0, 0) _ rfl hR Tryd.underlying97 rfl (by kernel_rfl)) rfl ?_
      exact ⟨by rw [hF.out]; rfl, below_setRow HB.out hgw _⟩
end Go.Proofs.YtbpadakcjnkjeaaDoor
