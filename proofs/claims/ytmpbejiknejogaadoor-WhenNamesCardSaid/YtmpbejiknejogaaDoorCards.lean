/-
  DERIVED. GIVEN WITH THE SEED: THE CARDS: each row of YtmpbejiknejogaaDoorRows.lean that lists a variable, with what it lists TIED to the program's text (the seventh form; the later family's looks); each row that meets fmt, with fmt's text TOLD by the authors' own Lean function (tested against real Go, not proved from fmt's source: count such statements apart). THE CARD IS WHAT COUNTS. Prove the row's statement (the work); the ties are given (YtmpbejiknejogaaDoorTie.lean); close each card by the builder's one call (the guide's Derived/Test/ToyasCard.lean, 'card_holds'). Laid BY PROGRAM, IN A SANDBOX (cutbox-door.mjs). By AI agents, Wed Nov 11 2026. No macro, syntax, notation, axiom, sorry.
-/
import Derived.Test.YtmpbejiknejogaaDoorRows
import GoSem.ClaimSeven
namespace Go.Proofs.YtmpbejiknejogaaDoor
namespace Rows

/-- THE TIED CARD OF 'legatelaw12.WhenLeap'. -/
def whenLeapCard : Claim7 := { stood := { row := whenLeapRow, standIns := [], harness := (true, "36cf72d613dafdbe2bb04ace8cf21903e749bd722b8eeedaf81df15fc0e845ea"), looks := false }, kinds := [], alts := [], laidByText := true, laidKinds := [.data, .data, .data, .data], laidTests := true, laidLooks := .later }
def WhenLeapCardSaid : Prop := Claim7.holds Tryd.pinned (.plain (OpenSpec.ofChange whenLeapSpec)) whenLeapCard

/-- THE TIED CARD OF 'legatelaw12.WhenCycle'. -/
def whenCycleCard : Claim7 := { stood := { row := whenCycleRow, standIns := [], harness := (true, "36cf72d613dafdbe2bb04ace8cf21903e749bd722b8eeedaf81df15fc0e845ea"), looks := false }, kinds := [], alts := [], laidByText := true, laidKinds := [.data, .data, .data, .data], laidTests := true, laidLooks := .later }
def WhenCycleCardSaid : Prop := Claim7.holds Tryd.pinned (.plain (OpenSpec.ofChange whenCycleSpec)) whenCycleCard

/-- THE TIED CARD OF 'legatelaw12.WhenReads'. -/
def whenReadsCard : Claim7 := { stood := { row := whenReadsRow, standIns := [], harness := (true, "36cf72d613dafdbe2bb04ace8cf21903e749bd722b8eeedaf81df15fc0e845ea"), looks := false }, kinds := [], alts := [], laidByText := true, laidKinds := [.data, .data, .data, .data], laidTests := true, laidLooks := .later }
def WhenReadsCardSaid : Prop := Claim7.holds Tryd.pinned (.plain (OpenSpec.ofChange whenReadsSpec)) whenReadsCard

/-- THE TIED CARD OF 'legatelaw12.WhenShows'. -/
def whenShowsCard : Claim7 := { stood := { row := whenShowsRow, standIns := [], harness := (true, "36cf72d613dafdbe2bb04ace8cf21903e749bd722b8eeedaf81df15fc0e845ea"), looks := false }, kinds := [], alts := [], laidByText := true, laidKinds := [.data, .data, .data, .data], laidTests := true, laidLooks := .later }
def WhenShowsCardSaid : Prop := Claim7.holds Tryd.pinned (.plain (OpenSpec.ofChange whenShowsSpec)) whenShowsCard

/-- THE TIED CARD OF 'legatelaw12.WhenMonths'. -/
def whenMonthsCard : Claim7 := { stood := { row := whenMonthsRow, standIns := [], harness := (true, "36cf72d613dafdbe2bb04ace8cf21903e749bd722b8eeedaf81df15fc0e845ea"), looks := false }, kinds := [], alts := [], laidByText := true, laidKinds := [.data, .data, .data, .data], laidTests := true, laidLooks := .later }
def WhenMonthsCardSaid : Prop := Claim7.holds Tryd.pinned (.plain (OpenSpec.ofChange whenMonthsSpec)) whenMonthsCard

/-- THE TIED CARD OF 'legatelaw12.WhenNames'. -/
def whenNamesCard : Claim7 := { stood := { row := whenNamesRow, standIns := [], harness := (true, "36cf72d613dafdbe2bb04ace8cf21903e749bd722b8eeedaf81df15fc0e845ea"), looks := false }, kinds := [], alts := [], laidByText := true, laidKinds := [.data, .data, .data, .data], laidTests := true, laidLooks := .later }
def WhenNamesCardSaid : Prop := Claim7.holds Tryd.pinned (.plain (OpenSpec.ofChange whenNamesSpec)) whenNamesCard

/-- THE TIED CARD OF 'legatelaw12.WhenBack'. -/
def whenBackCard : Claim7 := { stood := { row := whenBackRow, standIns := [], harness := (true, "36cf72d613dafdbe2bb04ace8cf21903e749bd722b8eeedaf81df15fc0e845ea"), looks := false }, kinds := [], alts := [], laidByText := true, laidKinds := [.data, .data, .data, .data], laidTests := true, laidLooks := .later }
def WhenBackCardSaid : Prop := Claim7.holds Tryd.pinned (.plain (OpenSpec.ofChange whenBackSpec)) whenBackCard

/-- THE TIED CARD OF 'legatelaw12.WhenOrder'. -/
def whenOrderCard : Claim7 := { stood := { row := whenOrderRow, standIns := [], harness := (true, "36cf72d613dafdbe2bb04ace8cf21903e749bd722b8eeedaf81df15fc0e845ea"), looks := false }, kinds := [], alts := [], laidByText := true, laidKinds := [.data, .data, .data, .data], laidTests := true, laidLooks := .later }
def WhenOrderCardSaid : Prop := Claim7.holds Tryd.pinned (.plain (OpenSpec.ofChange whenOrderSpec)) whenOrderCard

/-- THE TIED CARD OF 'legatelaw12.WhenDays'. -/
def whenDaysCard : Claim7 := { stood := { row := whenDaysRow, standIns := [], harness := (true, "36cf72d613dafdbe2bb04ace8cf21903e749bd722b8eeedaf81df15fc0e845ea"), looks := false }, kinds := [], alts := [], laidByText := true, laidKinds := [.data, .data, .data, .data], laidTests := true, laidLooks := .later }
def WhenDaysCardSaid : Prop := Claim7.holds Tryd.pinned (.plain (OpenSpec.ofChange whenDaysSpec)) whenDaysCard

/-- THE SECOND FORM's CARD OF 'legatelaw12.WhenLeap'. -/
def whenLeapUptoCard : Claim7 := { stood := { row := whenLeapUptoRow, standIns := [], harness := (true, "36cf72d613dafdbe2bb04ace8cf21903e749bd722b8eeedaf81df15fc0e845ea"), looks := false }, kinds := [], alts := [], laidByText := true, laidKinds := [.data, .data, .data, .data], laidTests := true, laidLooks := .later }
def WhenLeapUptoCardSaid : Prop := Claim7.holds Tryd.pinned (.plain (OpenSpec.upto whenLeapSpec)) whenLeapUptoCard

/-- THE SECOND FORM's CARD OF 'legatelaw12.WhenCycle'. -/
def whenCycleUptoCard : Claim7 := { stood := { row := whenCycleUptoRow, standIns := [], harness := (true, "36cf72d613dafdbe2bb04ace8cf21903e749bd722b8eeedaf81df15fc0e845ea"), looks := false }, kinds := [], alts := [], laidByText := true, laidKinds := [.data, .data, .data, .data], laidTests := true, laidLooks := .later }
def WhenCycleUptoCardSaid : Prop := Claim7.holds Tryd.pinned (.plain (OpenSpec.upto whenCycleSpec)) whenCycleUptoCard

/-- THE SECOND FORM's CARD OF 'legatelaw12.WhenReads'. -/
def whenReadsUptoCard : Claim7 := { stood := { row := whenReadsUptoRow, standIns := [], harness := (true, "36cf72d613dafdbe2bb04ace8cf21903e749bd722b8eeedaf81df15fc0e845ea"), looks := false }, kinds := [], alts := [], laidByText := true, laidKinds := [.data, .data, .data, .data], laidTests := true, laidLooks := .later }
def WhenReadsUptoCardSaid : Prop := Claim7.holds Tryd.pinned (.plain (OpenSpec.upto whenReadsSpec)) whenReadsUptoCard

/-- THE SECOND FORM's CARD OF 'legatelaw12.WhenShows'. -/
def whenShowsUptoCard : Claim7 := { stood := { row := whenShowsUptoRow, standIns := [], harness := (true, "36cf72d613dafdbe2bb04ace8cf21903e749bd722b8eeedaf81df15fc0e845ea"), looks := false }, kinds := [], alts := [], laidByText := true, laidKinds := [.data, .data, .data, .data], laidTests := true, laidLooks := .later }
def WhenShowsUptoCardSaid : Prop := Claim7.holds Tryd.pinned (.plain (OpenSpec.upto whenShowsSpec)) whenShowsUptoCard

/-- THE SECOND FORM's CARD OF 'legatelaw12.WhenMonths'. -/
def whenMonthsUptoCard : Claim7 := { stood := { row := whenMonthsUptoRow, standIns := [], harness := (true, "36cf72d613dafdbe2bb04ace8cf21903e749bd722b8eeedaf81df15fc0e845ea"), looks := false }, kinds := [], alts := [], laidByText := true, laidKinds := [.data, .data, .data, .data], laidTests := true, laidLooks := .later }
def WhenMonthsUptoCardSaid : Prop := Claim7.holds Tryd.pinned (.plain (OpenSpec.upto whenMonthsSpec)) whenMonthsUptoCard

/-- THE SECOND FORM's CARD OF 'legatelaw12.WhenNames'. -/
def whenNamesUptoCard : Claim7 := { stood := { row := whenNamesUptoRow, standIns := [], harness := (true, "36cf72d613dafdbe2bb04ace8cf21903e749bd722b8eeedaf81df15fc0e845ea"), looks := false }, kinds := [], alts := [], laidByText := true, laidKinds := [.data, .data, .data, .data], laidTests := true, laidLooks := .later }
def WhenNamesUptoCardSaid : Prop := Claim7.holds Tryd.pinned (.plain (OpenSpec.upto whenNamesSpec)) whenNamesUptoCard

/-- THE SECOND FORM's CARD OF 'legatelaw12.WhenBack'. -/
def whenBackUptoCard : Claim7 := { stood := { row := whenBackUptoRow, standIns := [], harness := (true, "36cf72d613dafdbe2bb04ace8cf21903e749bd722b8eeedaf81df15fc0e845ea"), looks := false }, kinds := [], alts := [], laidByText := true, laidKinds := [.data, .data, .data, .data], laidTests := true, laidLooks := .later }
def WhenBackUptoCardSaid : Prop := Claim7.holds Tryd.pinned (.plain (OpenSpec.upto whenBackSpec)) whenBackUptoCard

/-- THE SECOND FORM's CARD OF 'legatelaw12.WhenOrder'. -/
def whenOrderUptoCard : Claim7 := { stood := { row := whenOrderUptoRow, standIns := [], harness := (true, "36cf72d613dafdbe2bb04ace8cf21903e749bd722b8eeedaf81df15fc0e845ea"), looks := false }, kinds := [], alts := [], laidByText := true, laidKinds := [.data, .data, .data, .data], laidTests := true, laidLooks := .later }
def WhenOrderUptoCardSaid : Prop := Claim7.holds Tryd.pinned (.plain (OpenSpec.upto whenOrderSpec)) whenOrderUptoCard

/-- THE SECOND FORM's CARD OF 'legatelaw12.WhenDays'. -/
def whenDaysUptoCard : Claim7 := { stood := { row := whenDaysUptoRow, standIns := [], harness := (true, "36cf72d613dafdbe2bb04ace8cf21903e749bd722b8eeedaf81df15fc0e845ea"), looks := false }, kinds := [], alts := [], laidByText := true, laidKinds := [.data, .data, .data, .data], laidTests := true, laidLooks := .later }
def WhenDaysUptoCardSaid : Prop := Claim7.holds Tryd.pinned (.plain (OpenSpec.upto whenDaysSpec)) whenDaysUptoCard
end Rows
end Go.Proofs.YtmpbejiknejogaaDoor
