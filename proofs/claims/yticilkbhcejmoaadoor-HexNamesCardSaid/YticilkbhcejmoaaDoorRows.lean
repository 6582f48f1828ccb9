/-
  NARROWER THAN 'FOR EVERY INPUT', by the rows' own cells (each row's printed sentence says how): HexNames: laid · HexTells: laid · HexReads: laid · HexBack: laid · HexBehind: laid · HexRise: laid.
  DERIVED. THE GIVEN ROWS OF THIS SEAT. 6 by the template 'for every input the law returns true; each argument reads behind the call as it read before'; 0 by the template 'total and deterministic' (their statements: YticilkbhcejmoaaDoorTotals.lean).
  GIVEN WITH THE SEED: the statements are not yours to turn. If you find one false, say at which input.
  Laid BY PROGRAM, IN A SANDBOX (cutbox-rows.mjs): the forced cells as the released guide's own fill.sh prints them over the translation afa12a1a6dd40879… (all of the seat's roots in one cut). By AI agents, Wed Nov 11 2026. No macro, syntax, notation, axiom, sorry.
-/
import Derived.Test.YticilkbhcejmoaaDoorChecked
import GoSem.Claim
import GoSem.ClaimJoined
import GoSem.ClaimMapViews
import Derived.JoinedTies
import Derived.KernelRfl
namespace Go.Proofs.YticilkbhcejmoaaDoor
/- THE CELL 'sum', in the pinned program and in every row, IS THE sha256 OF THE DUMP (.gsa) THAT YticilkbhcejmoaaDoorProg.lean LOADS. Nothing in Lean hashes anything: it is a label: what it is worth is what the hold of that sum in a sandbox is worth. -/
noncomputable def Tryd.pinned : Pinned := { name := "yticilkbhcejmoaadoor", sum := "afa12a1a6dd40879cd48a062d2b88e0d61db6a3474c29d0221545cadf6558611", checked := Tryd.checked }
namespace Rows
def none {H : Type} : Left H := { results := [], args := [] }

/- WHAT THE LISTED PACKAGE-LEVEL VARIABLES READ AS WHEN THE CALL BEGINS. Each datum BY PROGRAM (the guide's laid-datum.mjs) off the statement by which the dump's own 'gosem.cut.vars' lays the variable. In a bare row this is a premise. The card (YticilkbhcejmoaaDoorCards.lean) ties it to the program's text. -/
def laid_legate_hex_digits {H : Type} : DataW H := .agg [.lit (.int .u8 48), .lit (.int .u8 49), .lit (.int .u8 50), .lit (.int .u8 51), .lit (.int .u8 52), .lit (.int .u8 53), .lit (.int .u8 54), .lit (.int .u8 55), .lit (.int .u8 56), .lit (.int .u8 57), .lit (.int .u8 97), .lit (.int .u8 98), .lit (.int .u8 99), .lit (.int .u8 100), .lit (.int .u8 101), .lit (.int .u8 102)]

/-- 'legatelaw01.HexNames': WHATEVER THE INPUT: true; the input reads as it did. -/
def hexNamesSpec : ChangeSpec := { name := "hexNames", fn := fun _ => fun
  | [] => { results := [.lit (.bool true)], args := [] }
  | _ => none }
def hexNamesRow : OpenClaim := { program := "yticilkbhcejmoaadoor", sum := "afa12a1a6dd40879cd48a062d2b88e0d61db6a3474c29d0221545cadf6558611", func := "legate/legatelaw01.HexNames", spec := "hexNames", named := ["legate/hex.digits"], apart := false, laid := [("legate/hex.digits", laid_legate_hex_digits)] }
def HexNamesSaid : Prop := hexNamesRow.holds Tryd.pinned (OpenSpec.ofChange hexNamesSpec)

/-- ITS FALSE NEIGHBOUR: 'it returns false'. Refute it at one input. -/
def hexNamesWrong : ChangeSpec := { name := "hexNames", fn := fun _ => fun
  | [] => { results := [.lit (.bool false)], args := [] }
  | _ => none }
def HexNamesWrongFalsely : Prop := hexNamesRow.holds Tryd.pinned (OpenSpec.ofChange hexNamesWrong)

/-- 'legatelaw01.HexTells': WHATEVER THE INPUT: true; the input reads as it did. -/
def hexTellsSpec : ChangeSpec := { name := "hexTells", fn := fun _ => fun
  | [d1, d2] => { results := [.lit (.bool true)], args := [d1, d2] }
  | _ => none }
def hexTellsRow : OpenClaim := { program := "yticilkbhcejmoaadoor", sum := "afa12a1a6dd40879cd48a062d2b88e0d61db6a3474c29d0221545cadf6558611", func := "legate/legatelaw01.HexTells", spec := "hexTells", named := ["legate/hex.digits"], apart := false, laid := [("legate/hex.digits", laid_legate_hex_digits)] }
def HexTellsSaid : Prop := hexTellsRow.holds Tryd.pinned (OpenSpec.ofChange hexTellsSpec)

/-- ITS FALSE NEIGHBOUR: 'it returns false'. Refute it at one input. -/
def hexTellsWrong : ChangeSpec := { name := "hexTells", fn := fun _ => fun
  | [d1, d2] => { results := [.lit (.bool false)], args := [d1, d2] }
  | _ => none }
def HexTellsWrongFalsely : Prop := hexTellsRow.holds Tryd.pinned (OpenSpec.ofChange hexTellsWrong)

/-- 'legatelaw01.HexReads': WHATEVER THE INPUT: true; the input reads as it did. -/
def hexReadsSpec : ChangeSpec := { name := "hexReads", fn := fun _ => fun
  | [d] => { results := [.lit (.bool true)], args := [d] }
  | _ => none }
def hexReadsRow : OpenClaim := { program := "yticilkbhcejmoaadoor", sum := "afa12a1a6dd40879cd48a062d2b88e0d61db6a3474c29d0221545cadf6558611", func := "legate/legatelaw01.HexReads", spec := "hexReads", named := ["legate/hex.digits"], apart := false, laid := [("legate/hex.digits", laid_legate_hex_digits)] }
def HexReadsSaid : Prop := hexReadsRow.holds Tryd.pinned (OpenSpec.ofChange hexReadsSpec)

/-- ITS FALSE NEIGHBOUR: 'it returns false'. Refute it at one input. -/
def hexReadsWrong : ChangeSpec := { name := "hexReads", fn := fun _ => fun
  | [d] => { results := [.lit (.bool false)], args := [d] }
  | _ => none }
def HexReadsWrongFalsely : Prop := hexReadsRow.holds Tryd.pinned (OpenSpec.ofChange hexReadsWrong)

/-- 'legatelaw01.HexBack': WHATEVER THE INPUT: true; the input reads as it did. -/
def hexBackSpec : ChangeSpec := { name := "hexBack", fn := fun _ => fun
  | [d1, d2] => { results := [.lit (.bool true)], args := [d1, d2] }
  | _ => none }
def hexBackRow : OpenClaim := { program := "yticilkbhcejmoaadoor", sum := "afa12a1a6dd40879cd48a062d2b88e0d61db6a3474c29d0221545cadf6558611", func := "legate/legatelaw01.HexBack", spec := "hexBack", named := ["legate/hex.digits"], apart := false, laid := [("legate/hex.digits", laid_legate_hex_digits)] }
def HexBackSaid : Prop := hexBackRow.holds Tryd.pinned (OpenSpec.ofChange hexBackSpec)

/-- ITS FALSE NEIGHBOUR: 'it returns false'. Refute it at one input. -/
def hexBackWrong : ChangeSpec := { name := "hexBack", fn := fun _ => fun
  | [d1, d2] => { results := [.lit (.bool false)], args := [d1, d2] }
  | _ => none }
def HexBackWrongFalsely : Prop := hexBackRow.holds Tryd.pinned (OpenSpec.ofChange hexBackWrong)

/-- 'legatelaw01.HexBehind': WHATEVER THE INPUT: true; the input reads as it did. -/
def hexBehindSpec : ChangeSpec := { name := "hexBehind", fn := fun _ => fun
  | [d1, d2] => { results := [.lit (.bool true)], args := [d1, d2] }
  | _ => none }
def hexBehindRow : OpenClaim := { program := "yticilkbhcejmoaadoor", sum := "afa12a1a6dd40879cd48a062d2b88e0d61db6a3474c29d0221545cadf6558611", func := "legate/legatelaw01.HexBehind", spec := "hexBehind", named := ["legate/hex.digits"], apart := false, laid := [("legate/hex.digits", laid_legate_hex_digits)] }
def HexBehindSaid : Prop := hexBehindRow.holds Tryd.pinned (OpenSpec.ofChange hexBehindSpec)

/-- ITS FALSE NEIGHBOUR: 'it returns false'. Refute it at one input. -/
def hexBehindWrong : ChangeSpec := { name := "hexBehind", fn := fun _ => fun
  | [d1, d2] => { results := [.lit (.bool false)], args := [d1, d2] }
  | _ => none }
def HexBehindWrongFalsely : Prop := hexBehindRow.holds Tryd.pinned (OpenSpec.ofChange hexBehindWrong)

/-- 'legatelaw01.HexRise': WHATEVER THE INPUT: true; the input reads as it did. -/
def hexRiseSpec : ChangeSpec := { name := "hexRise", fn := fun _ => fun
  | [d1, d2] => { results := [.lit (.bool true)], args := [d1, d2] }
  | _ => none }
def hexRiseRow : OpenClaim := { program := "yticilkbhcejmoaadoor", sum := "afa12a1a6dd40879cd48a062d2b88e0d61db6a3474c29d0221545cadf6558611", func := "legate/legatelaw01.HexRise", spec := "hexRise", named := ["legate/hex.digits"], apart := false, laid := [("legate/hex.digits", laid_legate_hex_digits)] }
def HexRiseSaid : Prop := hexRiseRow.holds Tryd.pinned (OpenSpec.ofChange hexRiseSpec)

/-- ITS FALSE NEIGHBOUR: 'it returns false'. Refute it at one input. -/
def hexRiseWrong : ChangeSpec := { name := "hexRise", fn := fun _ => fun
  | [d1, d2] => { results := [.lit (.bool false)], args := [d1, d2] }
  | _ => none }
def HexRiseWrongFalsely : Prop := hexRiseRow.holds Tryd.pinned (OpenSpec.ofChange hexRiseWrong)

/- THE SECOND FORM. 'bulk': how many values and letters a reading holds, each counted each time it is reached (what is shared counts as often as it is met; a slice's spare places count too). A statement '..UptoSaid' is the law's where the arguments, and the package variables that the reading takes, are together of bulk at most 1048576: NARROWER than '..Said'. Prove '..Said' where nothing that the law and all that it calls make is longer than what came in: it says more and counts as full. Else prove '..UptoSaid'. A law counts once. -/
mutual
def uptoBulk {H : Type} : DataW H → Nat
  | .lit (.string bytes) => bytes.length + 1
  | .lit _ => 1
  | .nil => 1
  | .ptr d => uptoBulk d + 1
  | .slice elems spare => uptoBulkAll elems + uptoBulkAll spare + 1
  | .agg parts => uptoBulkAll parts + 1
  | .iface _ d => uptoBulk d + 1
  | .map entries => uptoBulkEntries entries + 1
  | .held _ => 1
def uptoBulkAll {H : Type} : List (DataW H) → Nat
  | [] => 0
  | d :: r => uptoBulk d + uptoBulkAll r
def uptoBulkEntries {H : Type} : List (Lit × DataW H) → Nat
  | [] => 0
  | x :: r => uptoBulkEntry x + uptoBulkEntries r
def uptoBulkEntry {H : Type} : Lit × DataW H → Nat
  | (.string bytes, d) => bytes.length + uptoBulk d + 1
  | (_, d) => uptoBulk d + 1
 end
def uptoSmall : (H : Type) → List (DataW H) → Bool := fun _ ds => decide (uptoBulkAll ds ≤ 1048576)
def OpenSpec.upto (s : _root_.Go.ChangeSpec) : _root_.Go.OpenSpec := { _root_.Go.OpenSpec.ofChange s with cond := some uptoSmall }

/-- 'legatelaw01.HexNames', WHERE WHAT IT READS IS OF BULK AT MOST 1048576: true; the input reads as it did. -/
def hexNamesUptoRow : OpenClaim := { program := "yticilkbhcejmoaadoor", sum := "afa12a1a6dd40879cd48a062d2b88e0d61db6a3474c29d0221545cadf6558611", func := "legate/legatelaw01.HexNames", spec := "hexNames", named := ["legate/hex.digits"], apart := false, laid := [("legate/hex.digits", laid_legate_hex_digits)], narrowed := true }
def HexNamesUptoSaid : Prop := hexNamesUptoRow.holds Tryd.pinned (OpenSpec.upto hexNamesSpec)

/-- 'legatelaw01.HexTells', WHERE WHAT IT READS IS OF BULK AT MOST 1048576: true; the input reads as it did. -/
def hexTellsUptoRow : OpenClaim := { program := "yticilkbhcejmoaadoor", sum := "afa12a1a6dd40879cd48a062d2b88e0d61db6a3474c29d0221545cadf6558611", func := "legate/legatelaw01.HexTells", spec := "hexTells", named := ["legate/hex.digits"], apart := false, laid := [("legate/hex.digits", laid_legate_hex_digits)], narrowed := true }
def HexTellsUptoSaid : Prop := hexTellsUptoRow.holds Tryd.pinned (OpenSpec.upto hexTellsSpec)

/-- 'legatelaw01.HexReads', WHERE WHAT IT READS IS OF BULK AT MOST 1048576: true; the input reads as it did. -/
def hexReadsUptoRow : OpenClaim := { program := "yticilkbhcejmoaadoor", sum := "afa12a1a6dd40879cd48a062d2b88e0d61db6a3474c29d0221545cadf6558611", func := "legate/legatelaw01.HexReads", spec := "hexReads", named := ["legate/hex.digits"], apart := false, laid := [("legate/hex.digits", laid_legate_hex_digits)], narrowed := true }
def HexReadsUptoSaid : Prop := hexReadsUptoRow.holds Tryd.pinned (OpenSpec.upto hexReadsSpec)

/-- 'legatelaw01.HexBack', WHERE WHAT IT READS IS OF BULK AT MOST 1048576: true; the input reads as it did. -/
def hexBackUptoRow : OpenClaim := { program := "yticilkbhcejmoaadoor", sum := "afa12a1a6dd40879cd48a062d2b88e0d61db6a3474c29d0221545cadf6558611", func := "legate/legatelaw01.HexBack", spec := "hexBack", named := ["legate/hex.digits"], apart := false, laid := [("legate/hex.digits", laid_legate_hex_digits)], narrowed := true }
def HexBackUptoSaid : Prop := hexBackUptoRow.holds Tryd.pinned (OpenSpec.upto hexBackSpec)

/-- 'legatelaw01.HexBehind', WHERE WHAT IT READS IS OF BULK AT MOST 1048576: true; the input reads as it did. -/
def hexBehindUptoRow : OpenClaim := { program := "yticilkbhcejmoaadoor", sum := "afa12a1a6dd40879cd48a062d2b88e0d61db6a3474c29d0221545cadf6558611", func := "legate/legatelaw01.HexBehind", spec := "hexBehind", named := ["legate/hex.digits"], apart := false, laid := [("legate/hex.digits", laid_legate_hex_digits)], narrowed := true }
def HexBehindUptoSaid : Prop := hexBehindUptoRow.holds Tryd.pinned (OpenSpec.upto hexBehindSpec)

/-- 'legatelaw01.HexRise', WHERE WHAT IT READS IS OF BULK AT MOST 1048576: true; the input reads as it did. -/
def hexRiseUptoRow : OpenClaim := { program := "yticilkbhcejmoaadoor", sum := "afa12a1a6dd40879cd48a062d2b88e0d61db6a3474c29d0221545cadf6558611", func := "legate/legatelaw01.HexRise", spec := "hexRise", named := ["legate/hex.digits"], apart := false, laid := [("legate/hex.digits", laid_legate_hex_digits)], narrowed := true }
def HexRiseUptoSaid : Prop := hexRiseUptoRow.holds Tryd.pinned (OpenSpec.upto hexRiseSpec)

end Rows
end Go.Proofs.YticilkbhcejmoaaDoor
