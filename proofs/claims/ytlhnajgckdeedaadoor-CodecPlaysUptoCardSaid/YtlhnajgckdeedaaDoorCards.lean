/-
  DERIVED. GIVEN WITH THE SEED: THE CARDS: each row of YtlhnajgckdeedaaDoorRows.lean that lists a variable, with what it lists TIED to the program's text (the seventh form; the later family's looks); each row that meets fmt, with fmt's text TOLD by the authors' own Lean function (tested against real Go, not proved from fmt's source: count such statements apart). THE CARD IS WHAT COUNTS. Prove the row's statement (the work); the ties are given (YtlhnajgckdeedaaDoorTie.lean); close each card by the builder's one call (the guide's Derived/Test/ToyasCard.lean, 'card_holds'). Laid BY PROGRAM, IN A SANDBOX (cutbox-door.mjs). By AI agents, Wed Nov 11 2026. No macro, syntax, notation, axiom, sorry.
-/
import Derived.Test.YtlhnajgckdeedaaDoorRows
import GoSem.ClaimSeven
namespace Go.Proofs.YtlhnajgckdeedaaDoor
namespace Rows

/-- THE TIED CARD OF 'caesuralaw0.Names'. -/
def namesCard : Claim7 := { stood := { row := namesRow, standIns := [], harness := (true, "2b16b520ebf00e17d778cb00c4422b0b1b32061f273f375322ff8dc55b98162e"), looks := true }, kinds := [], alts := [], laidByText := true, laidKinds := [.sentinel, .sentinel, .sentinel, .sentinel, .sentinel, .sentinel, .sentinel, .sentinel, .sentinel, .sentinel, .sentinel, .data, .data, .data, .data], laidTests := true, laidLooks := .later }
def NamesCardSaid : Prop := Claim7.holds Tryd.pinned (.plain (OpenSpec.ofChange namesSpec)) namesCard

/-- THE TIED CARD OF 'caesuralaw1.CodecSums'. -/
def codecSumsCard : Claim7 := { stood := { row := codecSumsRow, standIns := [], harness := (true, "2b16b520ebf00e17d778cb00c4422b0b1b32061f273f375322ff8dc55b98162e"), looks := true }, kinds := [], alts := [], laidByText := true, laidKinds := [.data], laidTests := true, laidLooks := .later }
def CodecSumsCardSaid : Prop := Claim7.holds Tryd.pinned (.plain (OpenSpec.ofChange codecSumsSpec)) codecSumsCard

/-- THE TIED CARD OF 'caesuralaw1.CodecParts'. -/
def codecPartsCard : Claim7 := { stood := { row := codecPartsRow, standIns := [], harness := (true, "2b16b520ebf00e17d778cb00c4422b0b1b32061f273f375322ff8dc55b98162e"), looks := true }, kinds := [], alts := [], laidByText := true, laidKinds := [.sentinel, .data], laidTests := true, laidLooks := .later }
def CodecPartsCardSaid : Prop := Claim7.holds Tryd.pinned (.plain (OpenSpec.ofChange codecPartsSpec)) codecPartsCard

/-- THE TIED CARD OF 'caesuralaw1.CodecBursts'. -/
def codecBurstsCard : Claim7 := { stood := { row := codecBurstsRow, standIns := [], harness := (true, "2b16b520ebf00e17d778cb00c4422b0b1b32061f273f375322ff8dc55b98162e"), looks := true }, kinds := [], alts := [], laidByText := true, laidKinds := [.sentinel, .data], laidTests := true, laidLooks := .later }
def CodecBurstsCardSaid : Prop := Claim7.holds Tryd.pinned (.plain (OpenSpec.ofChange codecBurstsSpec)) codecBurstsCard

/-- THE TIED CARD OF 'caesuralaw1.CodecLike'. -/
def codecLikeCard : Claim7 := { stood := { row := codecLikeRow, standIns := [], harness := (true, "2b16b520ebf00e17d778cb00c4422b0b1b32061f273f375322ff8dc55b98162e"), looks := true }, kinds := [], alts := [], laidByText := true, laidKinds := [.sentinel, .data], laidTests := true, laidLooks := .later }
def CodecLikeCardSaid : Prop := Claim7.holds Tryd.pinned (.plain (OpenSpec.ofChange codecLikeSpec)) codecLikeCard

/-- THE TIED CARD OF 'caesuralaw1.CodecOne'. -/
def codecOneCard : Claim7 := { stood := { row := codecOneRow, standIns := [], harness := (true, "2b16b520ebf00e17d778cb00c4422b0b1b32061f273f375322ff8dc55b98162e"), looks := true }, kinds := [], alts := [], laidByText := true, laidKinds := [.sentinel, .sentinel, .sentinel, .data], laidTests := true, laidLooks := .later }
def CodecOneCardSaid : Prop := Claim7.holds Tryd.pinned (.plain (OpenSpec.ofChange codecOneSpec)) codecOneCard

/-- THE TIED CARD OF 'caesuralaw1.CodecPlays'. -/
def codecPlaysCard : Claim7 := { stood := { row := codecPlaysRow, standIns := [], harness := (true, "2b16b520ebf00e17d778cb00c4422b0b1b32061f273f375322ff8dc55b98162e"), looks := true }, kinds := [], alts := [], laidByText := true, laidKinds := [.sentinel, .sentinel, .sentinel, .sentinel, .sentinel, .sentinel, .sentinel, .sentinel, .sentinel, .sentinel, .sentinel], laidTests := true, laidLooks := .later }
def CodecPlaysCardSaid : Prop := Claim7.holds Tryd.pinned (.plain (OpenSpec.ofChange codecPlaysSpec)) codecPlaysCard

/-- THE TIED CARD OF 'caesuralaw1.CodecBack'. -/
def codecBackCard : Claim7 := { stood := { row := codecBackRow, standIns := [], harness := (true, "2b16b520ebf00e17d778cb00c4422b0b1b32061f273f375322ff8dc55b98162e"), looks := true }, kinds := [], alts := [], laidByText := true, laidKinds := [.sentinel, .sentinel, .sentinel, .sentinel, .data], laidTests := true, laidLooks := .later }
def CodecBackCardSaid : Prop := Claim7.holds Tryd.pinned (.plain (OpenSpec.ofChange codecBackSpec)) codecBackCard

/-- THE SECOND FORM's CARD OF 'caesuralaw0.Names'. -/
def namesUptoCard : Claim7 := { stood := { row := namesUptoRow, standIns := [], harness := (true, "2b16b520ebf00e17d778cb00c4422b0b1b32061f273f375322ff8dc55b98162e"), looks := true }, kinds := [], alts := [], laidByText := true, laidKinds := [.sentinel, .sentinel, .sentinel, .sentinel, .sentinel, .sentinel, .sentinel, .sentinel, .sentinel, .sentinel, .sentinel, .data, .data, .data, .data], laidTests := true, laidLooks := .later }
def NamesUptoCardSaid : Prop := Claim7.holds Tryd.pinned (.plain (OpenSpec.upto namesSpec)) namesUptoCard

/-- THE SECOND FORM's CARD OF 'caesuralaw1.CodecSums'. -/
def codecSumsUptoCard : Claim7 := { stood := { row := codecSumsUptoRow, standIns := [], harness := (true, "2b16b520ebf00e17d778cb00c4422b0b1b32061f273f375322ff8dc55b98162e"), looks := true }, kinds := [], alts := [], laidByText := true, laidKinds := [.data], laidTests := true, laidLooks := .later }
def CodecSumsUptoCardSaid : Prop := Claim7.holds Tryd.pinned (.plain (OpenSpec.upto codecSumsSpec)) codecSumsUptoCard

/-- THE SECOND FORM's CARD OF 'caesuralaw1.CodecParts'. -/
def codecPartsUptoCard : Claim7 := { stood := { row := codecPartsUptoRow, standIns := [], harness := (true, "2b16b520ebf00e17d778cb00c4422b0b1b32061f273f375322ff8dc55b98162e"), looks := true }, kinds := [], alts := [], laidByText := true, laidKinds := [.sentinel, .data], laidTests := true, laidLooks := .later }
def CodecPartsUptoCardSaid : Prop := Claim7.holds Tryd.pinned (.plain (OpenSpec.upto codecPartsSpec)) codecPartsUptoCard

/-- THE SECOND FORM's CARD OF 'caesuralaw1.CodecBursts'. -/
def codecBurstsUptoCard : Claim7 := { stood := { row := codecBurstsUptoRow, standIns := [], harness := (true, "2b16b520ebf00e17d778cb00c4422b0b1b32061f273f375322ff8dc55b98162e"), looks := true }, kinds := [], alts := [], laidByText := true, laidKinds := [.sentinel, .data], laidTests := true, laidLooks := .later }
def CodecBurstsUptoCardSaid : Prop := Claim7.holds Tryd.pinned (.plain (OpenSpec.upto codecBurstsSpec)) codecBurstsUptoCard

/-- THE SECOND FORM's CARD OF 'caesuralaw1.CodecLike'. -/
def codecLikeUptoCard : Claim7 := { stood := { row := codecLikeUptoRow, standIns := [], harness := (true, "2b16b520ebf00e17d778cb00c4422b0b1b32061f273f375322ff8dc55b98162e"), looks := true }, kinds := [], alts := [], laidByText := true, laidKinds := [.sentinel, .data], laidTests := true, laidLooks := .later }
def CodecLikeUptoCardSaid : Prop := Claim7.holds Tryd.pinned (.plain (OpenSpec.upto codecLikeSpec)) codecLikeUptoCard

/-- THE SECOND FORM's CARD OF 'caesuralaw1.CodecOne'. -/
def codecOneUptoCard : Claim7 := { stood := { row := codecOneUptoRow, standIns := [], harness := (true, "2b16b520ebf00e17d778cb00c4422b0b1b32061f273f375322ff8dc55b98162e"), looks := true }, kinds := [], alts := [], laidByText := true, laidKinds := [.sentinel, .sentinel, .sentinel, .data], laidTests := true, laidLooks := .later }
def CodecOneUptoCardSaid : Prop := Claim7.holds Tryd.pinned (.plain (OpenSpec.upto codecOneSpec)) codecOneUptoCard

/-- THE SECOND FORM's CARD OF 'caesuralaw1.CodecPlays'. -/
def codecPlaysUptoCard : Claim7 := { stood := { row := codecPlaysUptoRow, standIns := [], harness := (true, "2b16b520ebf00e17d778cb00c4422b0b1b32061f273f375322ff8dc55b98162e"), looks := true }, kinds := [], alts := [], laidByText := true, laidKinds := [.sentinel, .sentinel, .sentinel, .sentinel, .sentinel, .sentinel, .sentinel, .sentinel, .sentinel, .sentinel, .sentinel], laidTests := true, laidLooks := .later }
def CodecPlaysUptoCardSaid : Prop := Claim7.holds Tryd.pinned (.plain (OpenSpec.upto codecPlaysSpec)) codecPlaysUptoCard

/-- THE SECOND FORM's CARD OF 'caesuralaw1.CodecBack'. -/
def codecBackUptoCard : Claim7 := { stood := { row := codecBackUptoRow, standIns := [], harness := (true, "2b16b520ebf00e17d778cb00c4422b0b1b32061f273f375322ff8dc55b98162e"), looks := true }, kinds := [], alts := [], laidByText := true, laidKinds := [.sentinel, .sentinel, .sentinel, .sentinel, .data], laidTests := true, laidLooks := .later }
def CodecBackUptoCardSaid : Prop := Claim7.holds Tryd.pinned (.plain (OpenSpec.upto codecBackSpec)) codecBackUptoCard
end Rows
end Go.Proofs.YtlhnajgckdeedaaDoor
