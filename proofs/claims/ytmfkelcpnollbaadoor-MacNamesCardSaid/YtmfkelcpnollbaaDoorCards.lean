/-
  DERIVED. GIVEN WITH THE SEED: THE CARDS: each row of YtmfkelcpnollbaaDoorRows.lean that lists a variable, with what it lists TIED to the program's text (the seventh form; the later family's looks); each row that meets fmt, with fmt's text TOLD by the authors' own Lean function (tested against real Go, not proved from fmt's source: count such statements apart). THE CARD IS WHAT COUNTS. Prove the row's statement (the work); the ties are given (YtmfkelcpnollbaaDoorTie.lean); close each card by the builder's one call (the guide's Derived/Test/ToyasCard.lean, 'card_holds'). Laid BY PROGRAM, IN A SANDBOX (cutbox-door.mjs). By AI agents, Wed Nov 11 2026. No macro, syntax, notation, axiom, sorry.
-/
import Derived.Test.YtmfkelcpnollbaaDoorRows
import GoSem.ClaimSeven
namespace Go.Proofs.YtmfkelcpnollbaaDoor
namespace Rows

/-- THE TIED CARD OF 'legatelaw03.MacSame'. -/
def macSameCard : Claim7 := { stood := { row := macSameRow, standIns := [], harness := (true, "7b42c6429d2efc6333fb9fdbd4bf7526ba3a349198634f4612056e1489a4cc8b"), looks := false }, kinds := [], alts := [], laidByText := true, laidKinds := [.data, .data, .data], laidTests := true, laidLooks := .later }
def MacSameCardSaid : Prop := Claim7.holds Tryd.pinned (.plain (OpenSpec.ofChange macSameSpec)) macSameCard

/-- THE TIED CARD OF 'legatelaw03.MacNames'. -/
def macNamesCard : Claim7 := { stood := { row := macNamesRow, standIns := [], harness := (true, "7b42c6429d2efc6333fb9fdbd4bf7526ba3a349198634f4612056e1489a4cc8b"), looks := false }, kinds := [], alts := [], laidByText := true, laidKinds := [.data, .data, .data], laidTests := true, laidLooks := .later }
def MacNamesCardSaid : Prop := Claim7.holds Tryd.pinned (.plain (OpenSpec.ofChange macNamesSpec)) macNamesCard

/-- THE TIED CARD OF 'legatelaw03.MacTells'. -/
def macTellsCard : Claim7 := { stood := { row := macTellsRow, standIns := [], harness := (true, "7b42c6429d2efc6333fb9fdbd4bf7526ba3a349198634f4612056e1489a4cc8b"), looks := false }, kinds := [], alts := [], laidByText := true, laidKinds := [.data, .data, .data], laidTests := true, laidLooks := .later }
def MacTellsCardSaid : Prop := Claim7.holds Tryd.pinned (.plain (OpenSpec.ofChange macTellsSpec)) macTellsCard

/-- THE TIED CARD OF 'legatelaw03.MacTwice'. -/
def macTwiceCard : Claim7 := { stood := { row := macTwiceRow, standIns := [], harness := (true, "7b42c6429d2efc6333fb9fdbd4bf7526ba3a349198634f4612056e1489a4cc8b"), looks := false }, kinds := [], alts := [], laidByText := true, laidKinds := [.data, .data, .data], laidTests := true, laidLooks := .later }
def MacTwiceCardSaid : Prop := Claim7.holds Tryd.pinned (.plain (OpenSpec.ofChange macTwiceSpec)) macTwiceCard

/-- THE TIED CARD OF 'legatelaw03.MacBlocks'. -/
def macBlocksCard : Claim7 := { stood := { row := macBlocksRow, standIns := [], harness := (true, "7b42c6429d2efc6333fb9fdbd4bf7526ba3a349198634f4612056e1489a4cc8b"), looks := false }, kinds := [], alts := [], laidByText := true, laidKinds := [.data, .data, .data], laidTests := true, laidLooks := .later }
def MacBlocksCardSaid : Prop := Claim7.holds Tryd.pinned (.plain (OpenSpec.ofChange macBlocksSpec)) macBlocksCard

/-- THE SECOND FORM's CARD OF 'legatelaw03.MacSame'. -/
def macSameUptoCard : Claim7 := { stood := { row := macSameUptoRow, standIns := [], harness := (true, "7b42c6429d2efc6333fb9fdbd4bf7526ba3a349198634f4612056e1489a4cc8b"), looks := false }, kinds := [], alts := [], laidByText := true, laidKinds := [.data, .data, .data], laidTests := true, laidLooks := .later }
def MacSameUptoCardSaid : Prop := Claim7.holds Tryd.pinned (.plain (OpenSpec.upto macSameSpec)) macSameUptoCard

/-- THE SECOND FORM's CARD OF 'legatelaw03.MacNames'. -/
def macNamesUptoCard : Claim7 := { stood := { row := macNamesUptoRow, standIns := [], harness := (true, "7b42c6429d2efc6333fb9fdbd4bf7526ba3a349198634f4612056e1489a4cc8b"), looks := false }, kinds := [], alts := [], laidByText := true, laidKinds := [.data, .data, .data], laidTests := true, laidLooks := .later }
def MacNamesUptoCardSaid : Prop := Claim7.holds Tryd.pinned (.plain (OpenSpec.upto macNamesSpec)) macNamesUptoCard

/-- THE SECOND FORM's CARD OF 'legatelaw03.MacTells'. -/
def macTellsUptoCard : Claim7 := { stood := { row := macTellsUptoRow, standIns := [], harness := (true, "7b42c6429d2efc6333fb9fdbd4bf7526ba3a349198634f4612056e1489a4cc8b"), looks := false }, kinds := [], alts := [], laidByText := true, laidKinds := [.data, .data, .data], laidTests := true, laidLooks := .later }
def MacTellsUptoCardSaid : Prop := Claim7.holds Tryd.pinned (.plain (OpenSpec.upto macTellsSpec)) macTellsUptoCard

/-- THE SECOND FORM's CARD OF 'legatelaw03.MacTwice'. -/
def macTwiceUptoCard : Claim7 := { stood := { row := macTwiceUptoRow, standIns := [], harness := (true, "7b42c6429d2efc6333fb9fdbd4bf7526ba3a349198634f4612056e1489a4cc8b"), looks := false }, kinds := [], alts := [], laidByText := true, laidKinds := [.data, .data, .data], laidTests := true, laidLooks := .later }
def MacTwiceUptoCardSaid : Prop := Claim7.holds Tryd.pinned (.plain (OpenSpec.upto macTwiceSpec)) macTwiceUptoCard

/-- THE SECOND FORM's CARD OF 'legatelaw03.MacBlocks'. -/
def macBlocksUptoCard : Claim7 := { stood := { row := macBlocksUptoRow, standIns := [], harness := (true, "7b42c6429d2efc6333fb9fdbd4bf7526ba3a349198634f4612056e1489a4cc8b"), looks := false }, kinds := [], alts := [], laidByText := true, laidKinds := [.data, .data, .data], laidTests := true, laidLooks := .later }
def MacBlocksUptoCardSaid : Prop := Claim7.holds Tryd.pinned (.plain (OpenSpec.upto macBlocksSpec)) macBlocksUptoCard
end Rows
end Go.Proofs.YtmfkelcpnollbaaDoor
