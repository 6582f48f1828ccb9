/-
  No cell of these rows narrows 'for every input' (looked for: loops, veiled, ifaces, maps, wideKeys, modest, calm, conditions, laid).
  DERIVED. THE GIVEN ROWS OF THIS SEAT. 8 by the template 'for every input the law returns true; each argument reads behind the call as it read before'; 0 by the template 'total and deterministic' (their statements: YtcglfpgniifedaaTotals.lean).
  GIVEN WITH THE SEED: the statements are not yours to turn. If you find one false, say at which input.
  Laid BY PROGRAM, IN A SANDBOX (cutbox-rows.mjs): the forced cells as the released guide's own fill.sh prints them over the translation 4e2e0c83acee1cda… (all of the seat's roots in one cut). By AI agents, Wed Nov 11 2026. No macro, syntax, notation, axiom, sorry.
-/
import Derived.Test.YtcglfpgniifedaaChecked
import GoSem.Claim
import GoSem.ClaimJoined
import GoSem.ClaimMapViews
import Derived.JoinedTies
import Derived.KernelRfl
namespace Go.Proofs.Ytcglfpgniifedaa
/- THE CELL 'sum', in the pinned program and in every row, IS THE sha256 OF THE DUMP (.gsa) THAT YtcglfpgniifedaaProg.lean LOADS. Nothing in Lean hashes anything: it is a label: what it is worth is what the hold of that sum in a sandbox is worth. -/
noncomputable def Try.pinned : Pinned := { name := "ytcglfpgniifedaa", sum := "4e2e0c83acee1cdaf140b0893fc507a3c464ee180af15775679f6fd1b526d9bb", checked := Try.checked }
namespace Rows
def none {H : Type} : Left H := { results := [], args := [] }

/-- 'legatelaw18.GlobMatches': WHATEVER THE INPUT: true; the input reads as it did. -/
def globMatchesSpec : ChangeSpec := { name := "globMatches", fn := fun _ => fun
  | [d1, d2] => { results := [.lit (.bool true)], args := [d1, d2] }
  | _ => none }
def globMatchesRow : OpenClaim := { program := "ytcglfpgniifedaa", sum := "4e2e0c83acee1cdaf140b0893fc507a3c464ee180af15775679f6fd1b526d9bb", func := "legate/legatelaw18.GlobMatches", spec := "globMatches", apart := false }
def GlobMatchesSaid : Prop := globMatchesRow.holds Try.pinned (OpenSpec.ofChange globMatchesSpec)

/-- ITS FALSE NEIGHBOUR: 'it returns false'. Refute it at one input. -/
def globMatchesWrong : ChangeSpec := { name := "globMatches", fn := fun _ => fun
  | [d1, d2] => { results := [.lit (.bool false)], args := [d1, d2] }
  | _ => none }
def GlobMatchesWrongFalsely : Prop := globMatchesRow.holds Try.pinned (OpenSpec.ofChange globMatchesWrong)

/-- 'legatelaw18.GlobFirst': WHATEVER THE INPUT: true; the input reads as it did. -/
def globFirstSpec : ChangeSpec := { name := "globFirst", fn := fun _ => fun
  | [d1, d2] => { results := [.lit (.bool true)], args := [d1, d2] }
  | _ => none }
def globFirstRow : OpenClaim := { program := "ytcglfpgniifedaa", sum := "4e2e0c83acee1cdaf140b0893fc507a3c464ee180af15775679f6fd1b526d9bb", func := "legate/legatelaw18.GlobFirst", spec := "globFirst", apart := false }
def GlobFirstSaid : Prop := globFirstRow.holds Try.pinned (OpenSpec.ofChange globFirstSpec)

/-- ITS FALSE NEIGHBOUR: 'it returns false'. Refute it at one input. -/
def globFirstWrong : ChangeSpec := { name := "globFirst", fn := fun _ => fun
  | [d1, d2] => { results := [.lit (.bool false)], args := [d1, d2] }
  | _ => none }
def GlobFirstWrongFalsely : Prop := globFirstRow.holds Try.pinned (OpenSpec.ofChange globFirstWrong)

/-- 'legatelaw18.GlobNames': WHATEVER THE INPUT: true; the input reads as it did. -/
def globNamesSpec : ChangeSpec := { name := "globNames", fn := fun _ => fun
  | [] => { results := [.lit (.bool true)], args := [] }
  | _ => none }
def globNamesRow : OpenClaim := { program := "ytcglfpgniifedaa", sum := "4e2e0c83acee1cdaf140b0893fc507a3c464ee180af15775679f6fd1b526d9bb", func := "legate/legatelaw18.GlobNames", spec := "globNames", apart := false }
def GlobNamesSaid : Prop := globNamesRow.holds Try.pinned (OpenSpec.ofChange globNamesSpec)

/-- ITS FALSE NEIGHBOUR: 'it returns false'. Refute it at one input. -/
def globNamesWrong : ChangeSpec := { name := "globNames", fn := fun _ => fun
  | [] => { results := [.lit (.bool false)], args := [] }
  | _ => none }
def GlobNamesWrongFalsely : Prop := globNamesRow.holds Try.pinned (OpenSpec.ofChange globNamesWrong)

/-- 'legatelaw18.GlobItself': WHATEVER THE INPUT: true; the input reads as it did. -/
def globItselfSpec : ChangeSpec := { name := "globItself", fn := fun _ => fun
  | [d1, d2] => { results := [.lit (.bool true)], args := [d1, d2] }
  | _ => none }
def globItselfRow : OpenClaim := { program := "ytcglfpgniifedaa", sum := "4e2e0c83acee1cdaf140b0893fc507a3c464ee180af15775679f6fd1b526d9bb", func := "legate/legatelaw18.GlobItself", spec := "globItself", apart := false }
def GlobItselfSaid : Prop := globItselfRow.holds Try.pinned (OpenSpec.ofChange globItselfSpec)

/-- ITS FALSE NEIGHBOUR: 'it returns false'. Refute it at one input. -/
def globItselfWrong : ChangeSpec := { name := "globItself", fn := fun _ => fun
  | [d1, d2] => { results := [.lit (.bool false)], args := [d1, d2] }
  | _ => none }
def GlobItselfWrongFalsely : Prop := globItselfRow.holds Try.pinned (OpenSpec.ofChange globItselfWrong)

/-- 'legatelaw18.GlobParts': WHATEVER THE INPUT: true; the input reads as it did. -/
def globPartsSpec : ChangeSpec := { name := "globParts", fn := fun _ => fun
  | [d1, d2] => { results := [.lit (.bool true)], args := [d1, d2] }
  | _ => none }
def globPartsRow : OpenClaim := { program := "ytcglfpgniifedaa", sum := "4e2e0c83acee1cdaf140b0893fc507a3c464ee180af15775679f6fd1b526d9bb", func := "legate/legatelaw18.GlobParts", spec := "globParts", apart := false }
def GlobPartsSaid : Prop := globPartsRow.holds Try.pinned (OpenSpec.ofChange globPartsSpec)

/-- ITS FALSE NEIGHBOUR: 'it returns false'. Refute it at one input. -/
def globPartsWrong : ChangeSpec := { name := "globParts", fn := fun _ => fun
  | [d1, d2] => { results := [.lit (.bool false)], args := [d1, d2] }
  | _ => none }
def GlobPartsWrongFalsely : Prop := globPartsRow.holds Try.pinned (OpenSpec.ofChange globPartsWrong)

/-- 'legatelaw18.GlobStar': WHATEVER THE INPUT: true; the input reads as it did. -/
def globStarSpec : ChangeSpec := { name := "globStar", fn := fun _ => fun
  | [d1, d2] => { results := [.lit (.bool true)], args := [d1, d2] }
  | _ => none }
def globStarRow : OpenClaim := { program := "ytcglfpgniifedaa", sum := "4e2e0c83acee1cdaf140b0893fc507a3c464ee180af15775679f6fd1b526d9bb", func := "legate/legatelaw18.GlobStar", spec := "globStar", apart := false }
def GlobStarSaid : Prop := globStarRow.holds Try.pinned (OpenSpec.ofChange globStarSpec)

/-- ITS FALSE NEIGHBOUR: 'it returns false'. Refute it at one input. -/
def globStarWrong : ChangeSpec := { name := "globStar", fn := fun _ => fun
  | [d1, d2] => { results := [.lit (.bool false)], args := [d1, d2] }
  | _ => none }
def GlobStarWrongFalsely : Prop := globStarRow.holds Try.pinned (OpenSpec.ofChange globStarWrong)

/-- 'legatelaw18.GlobRune': WHATEVER THE INPUT: true; the input reads as it did. -/
def globRuneSpec : ChangeSpec := { name := "globRune", fn := fun _ => fun
  | [d1, d2, d3, d4] => { results := [.lit (.bool true)], args := [d1, d2, d3, d4] }
  | _ => none }
def globRuneRow : OpenClaim := { program := "ytcglfpgniifedaa", sum := "4e2e0c83acee1cdaf140b0893fc507a3c464ee180af15775679f6fd1b526d9bb", func := "legate/legatelaw18.GlobRune", spec := "globRune", apart := false }
def GlobRuneSaid : Prop := globRuneRow.holds Try.pinned (OpenSpec.ofChange globRuneSpec)

/-- ITS FALSE NEIGHBOUR: 'it returns false'. Refute it at one input. -/
def globRuneWrong : ChangeSpec := { name := "globRune", fn := fun _ => fun
  | [d1, d2, d3, d4] => { results := [.lit (.bool false)], args := [d1, d2, d3, d4] }
  | _ => none }
def GlobRuneWrongFalsely : Prop := globRuneRow.holds Try.pinned (OpenSpec.ofChange globRuneWrong)

/-- 'legatelaw18.GlobWider': WHATEVER THE INPUT: true; the input reads as it did. -/
def globWiderSpec : ChangeSpec := { name := "globWider", fn := fun _ => fun
  | [d1, d2, d3] => { results := [.lit (.bool true)], args := [d1, d2, d3] }
  | _ => none }
def globWiderRow : OpenClaim := { program := "ytcglfpgniifedaa", sum := "4e2e0c83acee1cdaf140b0893fc507a3c464ee180af15775679f6fd1b526d9bb", func := "legate/legatelaw18.GlobWider", spec := "globWider", apart := false }
def GlobWiderSaid : Prop := globWiderRow.holds Try.pinned (OpenSpec.ofChange globWiderSpec)

/-- ITS FALSE NEIGHBOUR: 'it returns false'. Refute it at one input. -/
def globWiderWrong : ChangeSpec := { name := "globWider", fn := fun _ => fun
  | [d1, d2, d3] => { results := [.lit (.bool false)], args := [d1, d2, d3] }
  | _ => none }
def GlobWiderWrongFalsely : Prop := globWiderRow.holds Try.pinned (OpenSpec.ofChange globWiderWrong)

/- THE SECOND FORM. 'bulk': how many values and letters a reading holds, each counted each time it is reached (what is shared counts as often as it is met; a slice's spare places count too). A statement '..UptoSaid' is the law's where the arguments, and the package variables that the reading takes, are together of bulk at most 1048576: NARROWER than '..Said'. Prove '..Said' where nothing that the law and all that it calls make is longer than what came in: it says more and counts as full. Else prove '..UptoSaid'. A law counts once. -/
mutual
def uptoBulk {H : Type} : DataW H → Nat
  | .lit (.string bytes) => bytes.length + 1
  | .lit _ => 1
  | .nil => 1
  | .ptr d => uptoBulk d + 1
  | .slice elems spare => uptoBulkAll elems + uptoBulkAll spare + 1
  | .agg parts => uptoBulkAll parts + 1
  | .iface _ d => uptoBulk d + 1
  | .map entries => uptoBulkEntries entries + 1
  | .held _ => 1
def uptoBulkAll {H : Type} : List (DataW H) → Nat
  | [] => 0
  | d :: r => uptoBulk d + uptoBulkAll r
def uptoBulkEntries {H : Type} : List (Lit × DataW H) → Nat
  | [] => 0
  | x :: r => uptoBulkEntry x + uptoBulkEntries r
def uptoBulkEntry {H : Type} : Lit × DataW H → Nat
  | (.string bytes, d) => bytes.length + uptoBulk d + 1
  | (_, d) => uptoBulk d + 1
 end
def uptoSmall : (H : Type) → List (DataW H) → Bool := fun _ ds => decide (uptoBulkAll ds ≤ 1048576)
def OpenSpec.upto (s : _root_.Go.ChangeSpec) : _root_.Go.OpenSpec := { _root_.Go.OpenSpec.ofChange s with cond := some uptoSmall }

/-- 'legatelaw18.GlobMatches', WHERE WHAT IT READS IS OF BULK AT MOST 1048576: true; the input reads as it did. -/
def globMatchesUptoRow : OpenClaim := { program := "ytcglfpgniifedaa", sum := "4e2e0c83acee1cdaf140b0893fc507a3c464ee180af15775679f6fd1b526d9bb", func := "legate/legatelaw18.GlobMatches", spec := "globMatches", apart := false, narrowed := true }
def GlobMatchesUptoSaid : Prop := globMatchesUptoRow.holds Try.pinned (OpenSpec.upto globMatchesSpec)

/-- 'legatelaw18.GlobFirst', WHERE WHAT IT READS IS OF BULK AT MOST 1048576: true; the input reads as it did. -/
def globFirstUptoRow : OpenClaim := { program := "ytcglfpgniifedaa", sum := "4e2e0c83acee1cdaf140b0893fc507a3c464ee180af15775679f6fd1b526d9bb", func := "legate/legatelaw18.GlobFirst", spec := "globFirst", apart := false, narrowed := true }
def GlobFirstUptoSaid : Prop := globFirstUptoRow.holds Try.pinned (OpenSpec.upto globFirstSpec)

/-- 'legatelaw18.GlobNames', WHERE WHAT IT READS IS OF BULK AT MOST 1048576: true; the input reads as it did. -/
def globNamesUptoRow : OpenClaim := { program := "ytcglfpgniifedaa", sum := "4e2e0c83acee1cdaf140b0893fc507a3c464ee180af15775679f6fd1b526d9bb", func := "legate/legatelaw18.GlobNames", spec := "globNames", apart := false, narrowed := true }
def GlobNamesUptoSaid : Prop := globNamesUptoRow.holds Try.pinned (OpenSpec.upto globNamesSpec)

/-- 'legatelaw18.GlobItself', WHERE WHAT IT READS IS OF BULK AT MOST 1048576: true; the input reads as it did. -/
def globItselfUptoRow : OpenClaim := { program := "ytcglfpgniifedaa", sum := "4e2e0c83acee1cdaf140b0893fc507a3c464ee180af15775679f6fd1b526d9bb", func := "legate/legatelaw18.GlobItself", spec := "globItself", apart := false, narrowed := true }
def GlobItselfUptoSaid : Prop := globItselfUptoRow.holds Try.pinned (OpenSpec.upto globItselfSpec)

/-- 'legatelaw18.GlobParts', WHERE WHAT IT READS IS OF BULK AT MOST 1048576: true; the input reads as it did. -/
def globPartsUptoRow : OpenClaim := { program := "ytcglfpgniifedaa", sum := "4e2e0c83acee1cdaf140b0893fc507a3c464ee180af15775679f6fd1b526d9bb", func := "legate/legatelaw18.GlobParts", spec := "globParts", apart := false, narrowed := true }
def GlobPartsUptoSaid : Prop := globPartsUptoRow.holds Try.pinned (OpenSpec.upto globPartsSpec)

/-- 'legatelaw18.GlobStar', WHERE WHAT IT READS IS OF BULK AT MOST 1048576: true; the input reads as it did. -/
def globStarUptoRow : OpenClaim := { program := "ytcglfpgniifedaa", sum := "4e2e0c83acee1cdaf140b0893fc507a3c464ee180af15775679f6fd1b526d9bb", func := "legate/legatelaw18.GlobStar", spec := "globStar", apart := false, narrowed := true }
def GlobStarUptoSaid : Prop := globStarUptoRow.holds Try.pinned (OpenSpec.upto globStarSpec)

/-- 'legatelaw18.GlobRune', WHERE WHAT IT READS IS OF BULK AT MOST 1048576: true; the input reads as it did. -/
def globRuneUptoRow : OpenClaim := { program := "ytcglfpgniifedaa", sum := "4e2e0c83acee1cdaf140b0893fc507a3c464ee180af15775679f6fd1b526d9bb", func := "legate/legatelaw18.GlobRune", spec := "globRune", apart := false, narrowed := true }
def GlobRuneUptoSaid : Prop := globRuneUptoRow.holds Try.pinned (OpenSpec.upto globRuneSpec)

/-- 'legatelaw18.GlobWider', WHERE WHAT IT READS IS OF BULK AT MOST 1048576: true; the input reads as it did. -/
def globWiderUptoRow : OpenClaim := { program := "ytcglfpgniifedaa", sum := "4e2e0c83acee1cdaf140b0893fc507a3c464ee180af15775679f6fd1b526d9bb", func := "legate/legatelaw18.GlobWider", spec := "globWider", apart := false, narrowed := true }
def GlobWiderUptoSaid : Prop := globWiderUptoRow.holds Try.pinned (OpenSpec.upto globWiderSpec)

end Rows
end Go.Proofs.Ytcglfpgniifedaa
