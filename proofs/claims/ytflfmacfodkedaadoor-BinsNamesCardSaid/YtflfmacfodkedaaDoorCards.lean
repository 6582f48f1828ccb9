/-
  DERIVED. GIVEN WITH THE SEED: THE CARDS: each row of YtflfmacfodkedaaDoorRows.lean that lists a variable, with what it lists TIED to the program's text (the seventh form; the later family's looks); each row that meets fmt, with fmt's text TOLD by the authors' own Lean function (tested against real Go, not proved from fmt's source: count such statements apart). THE CARD IS WHAT COUNTS. Prove the row's statement (the work); the ties are given (YtflfmacfodkedaaDoorTie.lean); close each card by the builder's one call (the guide's Derived/Test/ToyasCard.lean, 'card_holds'). Laid BY PROGRAM, IN A SANDBOX (cutbox-door.mjs). By AI agents, Wed Nov 11 2026. No macro, syntax, notation, axiom, sorry.
-/
import Derived.Test.YtflfmacfodkedaaDoorRows
import GoSem.ClaimSeven
namespace Go.Proofs.YtflfmacfodkedaaDoor
namespace Rows

/-- THE TIED CARD OF 'legatelaw19.BinsPaths'. -/
def binsPathsCard : Claim7 := { stood := { row := binsPathsRow, standIns := [], harness := (true, "53e382db6a5d3e64e84aa748a370356b0d8db02bc36096954b2f41ee0cc0c87d"), looks := false }, kinds := [], alts := [], laidByText := true, laidKinds := [.data, .data, .data], laidTests := true, laidLooks := .later }
def BinsPathsCardSaid : Prop := Claim7.holds Tryd.pinned (.plain (OpenSpec.ofChange binsPathsSpec)) binsPathsCard

/-- THE TIED CARD OF 'legatelaw19.BinsRoles'. -/
def binsRolesCard : Claim7 := { stood := { row := binsRolesRow, standIns := [], harness := (true, "53e382db6a5d3e64e84aa748a370356b0d8db02bc36096954b2f41ee0cc0c87d"), looks := false }, kinds := [], alts := [], laidByText := true, laidKinds := [.data, .data, .data], laidTests := true, laidLooks := .later }
def BinsRolesCardSaid : Prop := Claim7.holds Tryd.pinned (.plain (OpenSpec.ofChange binsRolesSpec)) binsRolesCard

/-- THE TIED CARD OF 'legatelaw19.BinsNames'. -/
def binsNamesCard : Claim7 := { stood := { row := binsNamesRow, standIns := [], harness := (true, "53e382db6a5d3e64e84aa748a370356b0d8db02bc36096954b2f41ee0cc0c87d"), looks := false }, kinds := [], alts := [], laidByText := true, laidKinds := [.data, .data, .data], laidTests := true, laidLooks := .later }
def BinsNamesCardSaid : Prop := Claim7.holds Tryd.pinned (.plain (OpenSpec.ofChange binsNamesSpec)) binsNamesCard

/-- THE TIED CARD OF 'legatelaw19.BinsOne'. -/
def binsOneCard : Claim7 := { stood := { row := binsOneRow, standIns := [], harness := (true, "53e382db6a5d3e64e84aa748a370356b0d8db02bc36096954b2f41ee0cc0c87d"), looks := false }, kinds := [], alts := [], laidByText := true, laidKinds := [.data, .data, .data], laidTests := true, laidLooks := .later }
def BinsOneCardSaid : Prop := Claim7.holds Tryd.pinned (.plain (OpenSpec.ofChange binsOneSpec)) binsOneCard

/-- THE TIED CARD OF 'legatelaw19.BinsHalves'. -/
def binsHalvesCard : Claim7 := { stood := { row := binsHalvesRow, standIns := [], harness := (true, "53e382db6a5d3e64e84aa748a370356b0d8db02bc36096954b2f41ee0cc0c87d"), looks := false }, kinds := [], alts := [], laidByText := true, laidKinds := [.data, .data, .data], laidTests := true, laidLooks := .later }
def BinsHalvesCardSaid : Prop := Claim7.holds Tryd.pinned (.plain (OpenSpec.ofChange binsHalvesSpec)) binsHalvesCard

/-- THE TIED CARD OF 'legatelaw19.BinsLonger'. -/
def binsLongerCard : Claim7 := { stood := { row := binsLongerRow, standIns := [], harness := (true, "53e382db6a5d3e64e84aa748a370356b0d8db02bc36096954b2f41ee0cc0c87d"), looks := false }, kinds := [], alts := [], laidByText := true, laidKinds := [.data, .data, .data], laidTests := true, laidLooks := .later }
def BinsLongerCardSaid : Prop := Claim7.holds Tryd.pinned (.plain (OpenSpec.ofChange binsLongerSpec)) binsLongerCard

/-- THE TIED CARD OF 'legatelaw19.BinsAll'. -/
def binsAllCard : Claim7 := { stood := { row := binsAllRow, standIns := [], harness := (true, "53e382db6a5d3e64e84aa748a370356b0d8db02bc36096954b2f41ee0cc0c87d"), looks := false }, kinds := [], alts := [], laidByText := true, laidKinds := [.data, .data, .data], laidTests := true, laidLooks := .later }
def BinsAllCardSaid : Prop := Claim7.holds Tryd.pinned (.plain (OpenSpec.ofChange binsAllSpec)) binsAllCard

/-- THE TIED CARD OF 'legatelaw19.BinsNamed'. -/
def binsNamedCard : Claim7 := { stood := { row := binsNamedRow, standIns := [], harness := (true, "53e382db6a5d3e64e84aa748a370356b0d8db02bc36096954b2f41ee0cc0c87d"), looks := false }, kinds := [], alts := [], laidByText := true, laidKinds := [.data, .data, .data], laidTests := true, laidLooks := .later }
def BinsNamedCardSaid : Prop := Claim7.holds Tryd.pinned (.plain (OpenSpec.ofChange binsNamedSpec)) binsNamedCard

/-- THE SECOND FORM's CARD OF 'legatelaw19.BinsPaths'. -/
def binsPathsUptoCard : Claim7 := { stood := { row := binsPathsUptoRow, standIns := [], harness := (true, "53e382db6a5d3e64e84aa748a370356b0d8db02bc36096954b2f41ee0cc0c87d"), looks := false }, kinds := [], alts := [], laidByText := true, laidKinds := [.data, .data, .data], laidTests := true, laidLooks := .later }
def BinsPathsUptoCardSaid : Prop := Claim7.holds Tryd.pinned (.plain (OpenSpec.upto binsPathsSpec)) binsPathsUptoCard

/-- THE SECOND FORM's CARD OF 'legatelaw19.BinsRoles'. -/
def binsRolesUptoCard : Claim7 := { stood := { row := binsRolesUptoRow, standIns := [], harness := (true, "53e382db6a5d3e64e84aa748a370356b0d8db02bc36096954b2f41ee0cc0c87d"), looks := false }, kinds := [], alts := [], laidByText := true, laidKinds := [.data, .data, .data], laidTests := true, laidLooks := .later }
def BinsRolesUptoCardSaid : Prop := Claim7.holds Tryd.pinned (.plain (OpenSpec.upto binsRolesSpec)) binsRolesUptoCard

/-- THE SECOND FORM's CARD OF 'legatelaw19.BinsNames'. -/
def binsNamesUptoCard : Claim7 := { stood := { row := binsNamesUptoRow, standIns := [], harness := (true, "53e382db6a5d3e64e84aa748a370356b0d8db02bc36096954b2f41ee0cc0c87d"), looks := false }, kinds := [], alts := [], laidByText := true, laidKinds := [.data, .data, .data], laidTests := true, laidLooks := .later }
def BinsNamesUptoCardSaid : Prop := Claim7.holds Tryd.pinned (.plain (OpenSpec.upto binsNamesSpec)) binsNamesUptoCard

/-- THE SECOND FORM's CARD OF 'legatelaw19.BinsOne'. -/
def binsOneUptoCard : Claim7 := { stood := { row := binsOneUptoRow, standIns := [], harness := (true, "53e382db6a5d3e64e84aa748a370356b0d8db02bc36096954b2f41ee0cc0c87d"), looks := false }, kinds := [], alts := [], laidByText := true, laidKinds := [.data, .data, .data], laidTests := true, laidLooks := .later }
def BinsOneUptoCardSaid : Prop := Claim7.holds Tryd.pinned (.plain (OpenSpec.upto binsOneSpec)) binsOneUptoCard

/-- THE SECOND FORM's CARD OF 'legatelaw19.BinsHalves'. -/
def binsHalvesUptoCard : Claim7 := { stood := { row := binsHalvesUptoRow, standIns := [], harness := (true, "53e382db6a5d3e64e84aa748a370356b0d8db02bc36096954b2f41ee0cc0c87d"), looks := false }, kinds := [], alts := [], laidByText := true, laidKinds := [.data, .data, .data], laidTests := true, laidLooks := .later }
def BinsHalvesUptoCardSaid : Prop := Claim7.holds Tryd.pinned (.plain (OpenSpec.upto binsHalvesSpec)) binsHalvesUptoCard

/-- THE SECOND FORM's CARD OF 'legatelaw19.BinsLonger'. -/
def binsLongerUptoCard : Claim7 := { stood := { row := binsLongerUptoRow, standIns := [], harness := (true, "53e382db6a5d3e64e84aa748a370356b0d8db02bc36096954b2f41ee0cc0c87d"), looks := false }, kinds := [], alts := [], laidByText := true, laidKinds := [.data, .data, .data], laidTests := true, laidLooks := .later }
def BinsLongerUptoCardSaid : Prop := Claim7.holds Tryd.pinned (.plain (OpenSpec.upto binsLongerSpec)) binsLongerUptoCard

/-- THE SECOND FORM's CARD OF 'legatelaw19.BinsAll'. -/
def binsAllUptoCard : Claim7 := { stood := { row := binsAllUptoRow, standIns := [], harness := (true, "53e382db6a5d3e64e84aa748a370356b0d8db02bc36096954b2f41ee0cc0c87d"), looks := false }, kinds := [], alts := [], laidByText := true, laidKinds := [.data, .data, .data], laidTests := true, laidLooks := .later }
def BinsAllUptoCardSaid : Prop := Claim7.holds Tryd.pinned (.plain (OpenSpec.upto binsAllSpec)) binsAllUptoCard

/-- THE SECOND FORM's CARD OF 'legatelaw19.BinsNamed'. -/
def binsNamedUptoCard : Claim7 := { stood := { row := binsNamedUptoRow, standIns := [], harness := (true, "53e382db6a5d3e64e84aa748a370356b0d8db02bc36096954b2f41ee0cc0c87d"), looks := false }, kinds := [], alts := [], laidByText := true, laidKinds := [.data, .data, .data], laidTests := true, laidLooks := .later }
def BinsNamedUptoCardSaid : Prop := Claim7.holds Tryd.pinned (.plain (OpenSpec.upto binsNamedSpec)) binsNamedUptoCard
end Rows
end Go.Proofs.YtflfmacfodkedaaDoor
