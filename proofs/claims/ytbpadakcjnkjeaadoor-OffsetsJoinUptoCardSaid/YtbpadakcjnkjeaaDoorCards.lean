/-
  DERIVED. GIVEN WITH THE SEED: THE CARDS: each row of YtbpadakcjnkjeaaDoorRows.lean that lists a variable, with what it lists TIED to the program's text (the seventh form; the later family's looks); each row that meets fmt, with fmt's text TOLD by the authors' own Lean function (tested against real Go, not proved from fmt's source: count such statements apart). THE CARD IS WHAT COUNTS. Prove the row's statement (the work); the ties are given (YtbpadakcjnkjeaaDoorTie.lean); close each card by the builder's one call (the guide's Derived/Test/ToyasCard.lean, 'card_holds'). Laid BY PROGRAM, IN A SANDBOX (cutbox-door.mjs). By AI agents, Wed Nov 11 2026. No macro, syntax, notation, axiom, sorry.
-/
import Derived.Test.YtbpadakcjnkjeaaDoorRows
import GoSem.ClaimSeven
namespace Go.Proofs.YtbpadakcjnkjeaaDoor
namespace Rows

/-- THE TIED CARD OF 'caesuralaw26.OffsetsJoin'. -/
def offsetsJoinCard : Claim7 := { stood := { row := offsetsJoinRow, standIns := [], harness := (true, "cd6b142b1a46a9d5fd57deb17f89e8690573ccaeb5b96543ef85a7caa3b64ad9"), looks := true }, kinds := [], alts := [], laidByText := true, laidKinds := [.sentinel, .data], laidTests := true, laidLooks := .later }
def OffsetsJoinCardSaid : Prop := Claim7.holds Tryd.pinned (.plain (OpenSpec.ofChange offsetsJoinSpec)) offsetsJoinCard

/-- THE TIED CARD OF 'caesuralaw26.OffsetsPlay'. -/
def offsetsPlayCard : Claim7 := { stood := { row := offsetsPlayRow, standIns := [], harness := (true, "cd6b142b1a46a9d5fd57deb17f89e8690573ccaeb5b96543ef85a7caa3b64ad9"), looks := true }, kinds := [], alts := [], laidByText := true, laidKinds := [.sentinel, .sentinel, .sentinel, .sentinel, .sentinel, .sentinel, .sentinel, .sentinel, .sentinel, .sentinel, .sentinel, .data], laidTests := true, laidLooks := .later }
def OffsetsPlayCardSaid : Prop := Claim7.holds Tryd.pinned (.plain (OpenSpec.ofChange offsetsPlaySpec)) offsetsPlayCard

/-- THE TIED CARD OF 'caesuralaw26.OffsetsBack'. -/
def offsetsBackCard : Claim7 := { stood := { row := offsetsBackRow, standIns := [], harness := (true, "cd6b142b1a46a9d5fd57deb17f89e8690573ccaeb5b96543ef85a7caa3b64ad9"), looks := true }, kinds := [], alts := [], laidByText := true, laidKinds := [.sentinel, .data], laidTests := true, laidLooks := .later }
def OffsetsBackCardSaid : Prop := Claim7.holds Tryd.pinned (.plain (OpenSpec.ofChange offsetsBackSpec)) offsetsBackCard

/-- THE SECOND FORM's CARD OF 'caesuralaw26.OffsetsJoin'. -/
def offsetsJoinUptoCard : Claim7 := { stood := { row := offsetsJoinUptoRow, standIns := [], harness := (true, "cd6b142b1a46a9d5fd57deb17f89e8690573ccaeb5b96543ef85a7caa3b64ad9"), looks := true }, kinds := [], alts := [], laidByText := true, laidKinds := [.sentinel, .data], laidTests := true, laidLooks := .later }
def OffsetsJoinUptoCardSaid : Prop := Claim7.holds Tryd.pinned (.plain (OpenSpec.upto offsetsJoinSpec)) offsetsJoinUptoCard

/-- THE SECOND FORM's CARD OF 'caesuralaw26.OffsetsPlay'. -/
def offsetsPlayUptoCard : Claim7 := { stood := { row := offsetsPlayUptoRow, standIns := [], harness := (true, "cd6b142b1a46a9d5fd57deb17f89e8690573ccaeb5b96543ef85a7caa3b64ad9"), looks := true }, kinds := [], alts := [], laidByText := true, laidKinds := [.sentinel, .sentinel, .sentinel, .sentinel, .sentinel, .sentinel, .sentinel, .sentinel, .sentinel, .sentinel, .sentinel, .data], laidTests := true, laidLooks := .later }
def OffsetsPlayUptoCardSaid : Prop := Claim7.holds Tryd.pinned (.plain (OpenSpec.upto offsetsPlaySpec)) offsetsPlayUptoCard

/-- THE SECOND FORM's CARD OF 'caesuralaw26.OffsetsBack'. -/
def offsetsBackUptoCard : Claim7 := { stood := { row := offsetsBackUptoRow, standIns := [], harness := (true, "cd6b142b1a46a9d5fd57deb17f89e8690573ccaeb5b96543ef85a7caa3b64ad9"), looks := true }, kinds := [], alts := [], laidByText := true, laidKinds := [.sentinel, .data], laidTests := true, laidLooks := .later }
def OffsetsBackUptoCardSaid : Prop := Claim7.holds Tryd.pinned (.plain (OpenSpec.upto offsetsBackSpec)) offsetsBackUptoCard
end Rows
end Go.Proofs.YtbpadakcjnkjeaaDoor
