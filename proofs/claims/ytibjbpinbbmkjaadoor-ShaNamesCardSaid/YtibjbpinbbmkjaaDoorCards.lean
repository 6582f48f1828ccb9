/-
  DERIVED. GIVEN WITH THE SEED: THE CARDS: each row of YtibjbpinbbmkjaaDoorRows.lean that lists a variable, with what it lists TIED to the program's text (the seventh form; the later family's looks); each row that meets fmt, with fmt's text TOLD by the authors' own Lean function (tested against real Go, not proved from fmt's source: count such statements apart). THE CARD IS WHAT COUNTS. Prove the row's statement (the work); the ties are given (YtibjbpinbbmkjaaDoorTie.lean); close each card by the builder's one call (the guide's Derived/Test/ToyasCard.lean, 'card_holds'). Laid BY PROGRAM, IN A SANDBOX (cutbox-door.mjs). By AI agents, Wed Nov 11 2026. No macro, syntax, notation, axiom, sorry.
-/
import Derived.Test.YtibjbpinbbmkjaaDoorRows
import GoSem.ClaimSeven
namespace Go.Proofs.YtibjbpinbbmkjaaDoor
namespace Rows

/-- THE TIED CARD OF 'legatelaw02.ShaSums'. -/
def shaSumsCard : Claim7 := { stood := { row := shaSumsRow, standIns := [], harness := (true, "b5e0b1923c88be52cc50e62984721713006b7dc62c674a4f09ff40d8c0b76c00"), looks := false }, kinds := [], alts := [], laidByText := true, laidKinds := [.data, .data, .data], laidTests := true, laidLooks := .later }
def ShaSumsCardSaid : Prop := Claim7.holds Tryd.pinned (.plain (OpenSpec.ofChange shaSumsSpec)) shaSumsCard

/-- THE TIED CARD OF 'legatelaw02.ShaParts'. -/
def shaPartsCard : Claim7 := { stood := { row := shaPartsRow, standIns := [], harness := (true, "b5e0b1923c88be52cc50e62984721713006b7dc62c674a4f09ff40d8c0b76c00"), looks := false }, kinds := [], alts := [], laidByText := true, laidKinds := [.data, .data, .data], laidTests := true, laidLooks := .later }
def ShaPartsCardSaid : Prop := Claim7.holds Tryd.pinned (.plain (OpenSpec.ofChange shaPartsSpec)) shaPartsCard

/-- THE TIED CARD OF 'legatelaw02.ShaWrites'. -/
def shaWritesCard : Claim7 := { stood := { row := shaWritesRow, standIns := [], harness := (true, "b5e0b1923c88be52cc50e62984721713006b7dc62c674a4f09ff40d8c0b76c00"), looks := false }, kinds := [], alts := [], laidByText := true, laidKinds := [.data, .data, .data], laidTests := true, laidLooks := .later }
def ShaWritesCardSaid : Prop := Claim7.holds Tryd.pinned (.plain (OpenSpec.ofChange shaWritesSpec)) shaWritesCard

/-- THE TIED CARD OF 'legatelaw02.ShaNames'. -/
def shaNamesCard : Claim7 := { stood := { row := shaNamesRow, standIns := [], harness := (true, "b5e0b1923c88be52cc50e62984721713006b7dc62c674a4f09ff40d8c0b76c00"), looks := false }, kinds := [], alts := [], laidByText := true, laidKinds := [.data, .data, .data], laidTests := true, laidLooks := .later }
def ShaNamesCardSaid : Prop := Claim7.holds Tryd.pinned (.plain (OpenSpec.ofChange shaNamesSpec)) shaNamesCard

/-- THE TIED CARD OF 'legatelaw02.ShaApart'. -/
def shaApartCard : Claim7 := { stood := { row := shaApartRow, standIns := [], harness := (true, "b5e0b1923c88be52cc50e62984721713006b7dc62c674a4f09ff40d8c0b76c00"), looks := false }, kinds := [], alts := [], laidByText := true, laidKinds := [.data, .data, .data], laidTests := true, laidLooks := .later }
def ShaApartCardSaid : Prop := Claim7.holds Tryd.pinned (.plain (OpenSpec.ofChange shaApartSpec)) shaApartCard

/-- THE TIED CARD OF 'legatelaw02.ShaDigests'. -/
def shaDigestsCard : Claim7 := { stood := { row := shaDigestsRow, standIns := [], harness := (true, "b5e0b1923c88be52cc50e62984721713006b7dc62c674a4f09ff40d8c0b76c00"), looks := false }, kinds := [], alts := [], laidByText := true, laidKinds := [.data, .data, .data], laidTests := true, laidLooks := .later }
def ShaDigestsCardSaid : Prop := Claim7.holds Tryd.pinned (.plain (OpenSpec.ofChange shaDigestsSpec)) shaDigestsCard

/-- THE SECOND FORM's CARD OF 'legatelaw02.ShaSums'. -/
def shaSumsUptoCard : Claim7 := { stood := { row := shaSumsUptoRow, standIns := [], harness := (true, "b5e0b1923c88be52cc50e62984721713006b7dc62c674a4f09ff40d8c0b76c00"), looks := false }, kinds := [], alts := [], laidByText := true, laidKinds := [.data, .data, .data], laidTests := true, laidLooks := .later }
def ShaSumsUptoCardSaid : Prop := Claim7.holds Tryd.pinned (.plain (OpenSpec.upto shaSumsSpec)) shaSumsUptoCard

/-- THE SECOND FORM's CARD OF 'legatelaw02.ShaParts'. -/
def shaPartsUptoCard : Claim7 := { stood := { row := shaPartsUptoRow, standIns := [], harness := (true, "b5e0b1923c88be52cc50e62984721713006b7dc62c674a4f09ff40d8c0b76c00"), looks := false }, kinds := [], alts := [], laidByText := true, laidKinds := [.data, .data, .data], laidTests := true, laidLooks := .later }
def ShaPartsUptoCardSaid : Prop := Claim7.holds Tryd.pinned (.plain (OpenSpec.upto shaPartsSpec)) shaPartsUptoCard

/-- THE SECOND FORM's CARD OF 'legatelaw02.ShaWrites'. -/
def shaWritesUptoCard : Claim7 := { stood := { row := shaWritesUptoRow, standIns := [], harness := (true, "b5e0b1923c88be52cc50e62984721713006b7dc62c674a4f09ff40d8c0b76c00"), looks := false }, kinds := [], alts := [], laidByText := true, laidKinds := [.data, .data, .data], laidTests := true, laidLooks := .later }
def ShaWritesUptoCardSaid : Prop := Claim7.holds Tryd.pinned (.plain (OpenSpec.upto shaWritesSpec)) shaWritesUptoCard

/-- THE SECOND FORM's CARD OF 'legatelaw02.ShaNames'. -/
def shaNamesUptoCard : Claim7 := { stood := { row := shaNamesUptoRow, standIns := [], harness := (true, "b5e0b1923c88be52cc50e62984721713006b7dc62c674a4f09ff40d8c0b76c00"), looks := false }, kinds := [], alts := [], laidByText := true, laidKinds := [.data, .data, .data], laidTests := true, laidLooks := .later }
def ShaNamesUptoCardSaid : Prop := Claim7.holds Tryd.pinned (.plain (OpenSpec.upto shaNamesSpec)) shaNamesUptoCard

/-- THE SECOND FORM's CARD OF 'legatelaw02.ShaApart'. -/
def shaApartUptoCard : Claim7 := { stood := { row := shaApartUptoRow, standIns := [], harness := (true, "b5e0b1923c88be52cc50e62984721713006b7dc62c674a4f09ff40d8c0b76c00"), looks := false }, kinds := [], alts := [], laidByText := true, laidKinds := [.data, .data, .data], laidTests := true, laidLooks := .later }
def ShaApartUptoCardSaid : Prop := Claim7.holds Tryd.pinned (.plain (OpenSpec.upto shaApartSpec)) shaApartUptoCard

/-- THE SECOND FORM's CARD OF 'legatelaw02.ShaDigests'. -/
def shaDigestsUptoCard : Claim7 := { stood := { row := shaDigestsUptoRow, standIns := [], harness := (true, "b5e0b1923c88be52cc50e62984721713006b7dc62c674a4f09ff40d8c0b76c00"), looks := false }, kinds := [], alts := [], laidByText := true, laidKinds := [.data, .data, .data], laidTests := true, laidLooks := .later }
def ShaDigestsUptoCardSaid : Prop := Claim7.holds Tryd.pinned (.plain (OpenSpec.upto shaDigestsSpec)) shaDigestsUptoCard
end Rows
end Go.Proofs.YtibjbpinbbmkjaaDoor
