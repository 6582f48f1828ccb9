/-
  DERIVED. GIVEN WITH THE SEED: THE CARDS: each row of YticilkbhcejmoaaDoorRows.lean that lists a variable, with what it lists TIED to the program's text (the seventh form; the later family's looks); each row that meets fmt, with fmt's text TOLD by the authors' own Lean function (tested against real Go, not proved from fmt's source: count such statements apart). THE CARD IS WHAT COUNTS. Prove the row's statement (the work); the ties are given (YticilkbhcejmoaaDoorTie.lean); close each card by the builder's one call (the guide's Derived/Test/ToyasCard.lean, 'card_holds'). Laid BY PROGRAM, IN A SANDBOX (cutbox-door.mjs). By AI agents, Wed Nov 11 2026. No macro, syntax, notation, axiom, sorry.
-/
import Derived.Test.YticilkbhcejmoaaDoorRows
import GoSem.ClaimSeven
namespace Go.Proofs.YticilkbhcejmoaaDoor
namespace Rows

/-- THE TIED CARD OF 'legatelaw01.HexNames'. -/
def hexNamesCard : Claim7 := { stood := { row := hexNamesRow, standIns := [], harness := (true, "381b3d995802db150526979998337f3331f288d85bc6668213dae9efe9adfbda"), looks := false }, kinds := [], alts := [], laidByText := true, laidKinds := [.data], laidTests := true, laidLooks := .later }
def HexNamesCardSaid : Prop := Claim7.holds Tryd.pinned (.plain (OpenSpec.ofChange hexNamesSpec)) hexNamesCard

/-- THE TIED CARD OF 'legatelaw01.HexTells'. -/
def hexTellsCard : Claim7 := { stood := { row := hexTellsRow, standIns := [], harness := (true, "381b3d995802db150526979998337f3331f288d85bc6668213dae9efe9adfbda"), looks := false }, kinds := [], alts := [], laidByText := true, laidKinds := [.data], laidTests := true, laidLooks := .later }
def HexTellsCardSaid : Prop := Claim7.holds Tryd.pinned (.plain (OpenSpec.ofChange hexTellsSpec)) hexTellsCard

/-- THE TIED CARD OF 'legatelaw01.HexReads'. -/
def hexReadsCard : Claim7 := { stood := { row := hexReadsRow, standIns := [], harness := (true, "381b3d995802db150526979998337f3331f288d85bc6668213dae9efe9adfbda"), looks := false }, kinds := [], alts := [], laidByText := true, laidKinds := [.data], laidTests := true, laidLooks := .later }
def HexReadsCardSaid : Prop := Claim7.holds Tryd.pinned (.plain (OpenSpec.ofChange hexReadsSpec)) hexReadsCard

/-- THE TIED CARD OF 'legatelaw01.HexBack'. -/
def hexBackCard : Claim7 := { stood := { row := hexBackRow, standIns := [], harness := (true, "381b3d995802db150526979998337f3331f288d85bc6668213dae9efe9adfbda"), looks := false }, kinds := [], alts := [], laidByText := true, laidKinds := [.data], laidTests := true, laidLooks := .later }
def HexBackCardSaid : Prop := Claim7.holds Tryd.pinned (.plain (OpenSpec.ofChange hexBackSpec)) hexBackCard

/-- THE TIED CARD OF 'legatelaw01.HexBehind'. -/
def hexBehindCard : Claim7 := { stood := { row := hexBehindRow, standIns := [], harness := (true, "381b3d995802db150526979998337f3331f288d85bc6668213dae9efe9adfbda"), looks := false }, kinds := [], alts := [], laidByText := true, laidKinds := [.data], laidTests := true, laidLooks := .later }
def HexBehindCardSaid : Prop := Claim7.holds Tryd.pinned (.plain (OpenSpec.ofChange hexBehindSpec)) hexBehindCard

/-- THE TIED CARD OF 'legatelaw01.HexRise'. -/
def hexRiseCard : Claim7 := { stood := { row := hexRiseRow, standIns := [], harness := (true, "381b3d995802db150526979998337f3331f288d85bc6668213dae9efe9adfbda"), looks := false }, kinds := [], alts := [], laidByText := true, laidKinds := [.data], laidTests := true, laidLooks := .later }
def HexRiseCardSaid : Prop := Claim7.holds Tryd.pinned (.plain (OpenSpec.ofChange hexRiseSpec)) hexRiseCard

/-- THE SECOND FORM's CARD OF 'legatelaw01.HexNames'. -/
def hexNamesUptoCard : Claim7 := { stood := { row := hexNamesUptoRow, standIns := [], harness := (true, "381b3d995802db150526979998337f3331f288d85bc6668213dae9efe9adfbda"), looks := false }, kinds := [], alts := [], laidByText := true, laidKinds := [.data], laidTests := true, laidLooks := .later }
def HexNamesUptoCardSaid : Prop := Claim7.holds Tryd.pinned (.plain (OpenSpec.upto hexNamesSpec)) hexNamesUptoCard

/-- THE SECOND FORM's CARD OF 'legatelaw01.HexTells'. -/
def hexTellsUptoCard : Claim7 := { stood := { row := hexTellsUptoRow, standIns := [], harness := (true, "381b3d995802db150526979998337f3331f288d85bc6668213dae9efe9adfbda"), looks := false }, kinds := [], alts := [], laidByText := true, laidKinds := [.data], laidTests := true, laidLooks := .later }
def HexTellsUptoCardSaid : Prop := Claim7.holds Tryd.pinned (.plain (OpenSpec.upto hexTellsSpec)) hexTellsUptoCard

/-- THE SECOND FORM's CARD OF 'legatelaw01.HexReads'. -/
def hexReadsUptoCard : Claim7 := { stood := { row := hexReadsUptoRow, standIns := [], harness := (true, "381b3d995802db150526979998337f3331f288d85bc6668213dae9efe9adfbda"), looks := false }, kinds := [], alts := [], laidByText := true, laidKinds := [.data], laidTests := true, laidLooks := .later }
def HexReadsUptoCardSaid : Prop := Claim7.holds Tryd.pinned (.plain (OpenSpec.upto hexReadsSpec)) hexReadsUptoCard

/-- THE SECOND FORM's CARD OF 'legatelaw01.HexBack'. -/
def hexBackUptoCard : Claim7 := { stood := { row := hexBackUptoRow, standIns := [], harness := (true, "381b3d995802db150526979998337f3331f288d85bc6668213dae9efe9adfbda"), looks := false }, kinds := [], alts := [], laidByText := true, laidKinds := [.data], laidTests := true, laidLooks := .later }
def HexBackUptoCardSaid : Prop := Claim7.holds Tryd.pinned (.plain (OpenSpec.upto hexBackSpec)) hexBackUptoCard

/-- THE SECOND FORM's CARD OF 'legatelaw01.HexBehind'. -/
def hexBehindUptoCard : Claim7 := { stood := { row := hexBehindUptoRow, standIns := [], harness := (true, "381b3d995802db150526979998337f3331f288d85bc6668213dae9efe9adfbda"), looks := false }, kinds := [], alts := [], laidByText := true, laidKinds := [.data], laidTests := true, laidLooks := .later }
def HexBehindUptoCardSaid : Prop := Claim7.holds Tryd.pinned (.plain (OpenSpec.upto hexBehindSpec)) hexBehindUptoCard

/-- THE SECOND FORM's CARD OF 'legatelaw01.HexRise'. -/
def hexRiseUptoCard : Claim7 := { stood := { row := hexRiseUptoRow, standIns := [], harness := (true, "381b3d995802db150526979998337f3331f288d85bc6668213dae9efe9adfbda"), looks := false }, kinds := [], alts := [], laidByText := true, laidKinds := [.data], laidTests := true, laidLooks := .later }
def HexRiseUptoCardSaid : Prop := Claim7.holds Tryd.pinned (.plain (OpenSpec.upto hexRiseSpec)) hexRiseUptoCard
end Rows
end Go.Proofs.YticilkbhcejmoaaDoor
