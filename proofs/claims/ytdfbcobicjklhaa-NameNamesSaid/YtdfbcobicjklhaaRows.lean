/-
  No cell of these rows narrows 'for every input' (looked for: loops, veiled, ifaces, maps, wideKeys, modest, calm, conditions, laid).
  DERIVED. THE GIVEN ROWS OF THIS SEAT. 8 by the template 'for every input the law returns true; each argument reads behind the call as it read before'; 0 by the template 'total and deterministic' (their statements: YtdfbcobicjklhaaTotals.lean).
  GIVEN WITH THE SEED: the statements are not yours to turn. If you find one false, say at which input.
  Laid BY PROGRAM, IN A SANDBOX (cutbox-rows.mjs): the forced cells as the released guide's own fill.sh prints them over the translation 634e1bca9d048abf… (all of the seat's roots in one cut). By AI agents, Wed Nov 11 2026. No macro, syntax, notation, axiom, sorry.
-/
import Derived.Test.YtdfbcobicjklhaaChecked
import GoSem.Claim
import GoSem.ClaimJoined
import GoSem.ClaimMapViews
import Derived.JoinedTies
import Derived.KernelRfl
namespace Go.Proofs.Ytdfbcobicjklhaa
/- THE CELL 'sum', in the pinned program and in every row, IS THE sha256 OF THE DUMP (.gsa) THAT YtdfbcobicjklhaaProg.lean LOADS. Nothing in Lean hashes anything: it is a label: what it is worth is what the hold of that sum in a sandbox is worth. -/
noncomputable def Try.pinned : Pinned := { name := "ytdfbcobicjklhaa", sum := "634e1bca9d048abfed0e8d96241c86c4ff1f818a0935070a0a94b7c52c475fe8", checked := Try.checked }
namespace Rows
def none {H : Type} : Left H := { results := [], args := [] }

/-- 'legatelaw13.NameTells': WHATEVER THE INPUT: true; the input reads as it did. -/
def nameTellsSpec : ChangeSpec := { name := "nameTells", fn := fun _ => fun
  | [d] => { results := [.lit (.bool true)], args := [d] }
  | _ => none }
def nameTellsRow : OpenClaim := { program := "ytdfbcobicjklhaa", sum := "634e1bca9d048abfed0e8d96241c86c4ff1f818a0935070a0a94b7c52c475fe8", func := "legate/legatelaw13.NameTells", spec := "nameTells", apart := false }
def NameTellsSaid : Prop := nameTellsRow.holds Try.pinned (OpenSpec.ofChange nameTellsSpec)

/-- ITS FALSE NEIGHBOUR: 'it returns false'. Refute it at one input. -/
def nameTellsWrong : ChangeSpec := { name := "nameTells", fn := fun _ => fun
  | [d] => { results := [.lit (.bool false)], args := [d] }
  | _ => none }
def NameTellsWrongFalsely : Prop := nameTellsRow.holds Try.pinned (OpenSpec.ofChange nameTellsWrong)

/-- 'legatelaw13.NameFiles': WHATEVER THE INPUT: true; the input reads as it did. -/
def nameFilesSpec : ChangeSpec := { name := "nameFiles", fn := fun _ => fun
  | [d] => { results := [.lit (.bool true)], args := [d] }
  | _ => none }
def nameFilesRow : OpenClaim := { program := "ytdfbcobicjklhaa", sum := "634e1bca9d048abfed0e8d96241c86c4ff1f818a0935070a0a94b7c52c475fe8", func := "legate/legatelaw13.NameFiles", spec := "nameFiles", apart := false }
def NameFilesSaid : Prop := nameFilesRow.holds Try.pinned (OpenSpec.ofChange nameFilesSpec)

/-- ITS FALSE NEIGHBOUR: 'it returns false'. Refute it at one input. -/
def nameFilesWrong : ChangeSpec := { name := "nameFiles", fn := fun _ => fun
  | [d] => { results := [.lit (.bool false)], args := [d] }
  | _ => none }
def NameFilesWrongFalsely : Prop := nameFilesRow.holds Try.pinned (OpenSpec.ofChange nameFilesWrong)

/-- 'legatelaw13.NameNames': WHATEVER THE INPUT: true; the input reads as it did. -/
def nameNamesSpec : ChangeSpec := { name := "nameNames", fn := fun _ => fun
  | [] => { results := [.lit (.bool true)], args := [] }
  | _ => none }
def nameNamesRow : OpenClaim := { program := "ytdfbcobicjklhaa", sum := "634e1bca9d048abfed0e8d96241c86c4ff1f818a0935070a0a94b7c52c475fe8", func := "legate/legatelaw13.NameNames", spec := "nameNames", apart := false }
def NameNamesSaid : Prop := nameNamesRow.holds Try.pinned (OpenSpec.ofChange nameNamesSpec)

/-- ITS FALSE NEIGHBOUR: 'it returns false'. Refute it at one input. -/
def nameNamesWrong : ChangeSpec := { name := "nameNames", fn := fun _ => fun
  | [] => { results := [.lit (.bool false)], args := [] }
  | _ => none }
def NameNamesWrongFalsely : Prop := nameNamesRow.holds Try.pinned (OpenSpec.ofChange nameNamesWrong)

/-- 'legatelaw13.NameBack': WHATEVER THE INPUT: true; the input reads as it did. -/
def nameBackSpec : ChangeSpec := { name := "nameBack", fn := fun _ => fun
  | [d1, d2] => { results := [.lit (.bool true)], args := [d1, d2] }
  | _ => none }
def nameBackRow : OpenClaim := { program := "ytdfbcobicjklhaa", sum := "634e1bca9d048abfed0e8d96241c86c4ff1f818a0935070a0a94b7c52c475fe8", func := "legate/legatelaw13.NameBack", spec := "nameBack", apart := false }
def NameBackSaid : Prop := nameBackRow.holds Try.pinned (OpenSpec.ofChange nameBackSpec)

/-- ITS FALSE NEIGHBOUR: 'it returns false'. Refute it at one input. -/
def nameBackWrong : ChangeSpec := { name := "nameBack", fn := fun _ => fun
  | [d1, d2] => { results := [.lit (.bool false)], args := [d1, d2] }
  | _ => none }
def NameBackWrongFalsely : Prop := nameBackRow.holds Try.pinned (OpenSpec.ofChange nameBackWrong)

/-- 'legatelaw13.NameBytes': WHATEVER THE INPUT: true; the input reads as it did. -/
def nameBytesSpec : ChangeSpec := { name := "nameBytes", fn := fun _ => fun
  | [d1, d2, d3] => { results := [.lit (.bool true)], args := [d1, d2, d3] }
  | _ => none }
def nameBytesRow : OpenClaim := { program := "ytdfbcobicjklhaa", sum := "634e1bca9d048abfed0e8d96241c86c4ff1f818a0935070a0a94b7c52c475fe8", func := "legate/legatelaw13.NameBytes", spec := "nameBytes", apart := false }
def NameBytesSaid : Prop := nameBytesRow.holds Try.pinned (OpenSpec.ofChange nameBytesSpec)

/-- ITS FALSE NEIGHBOUR: 'it returns false'. Refute it at one input. -/
def nameBytesWrong : ChangeSpec := { name := "nameBytes", fn := fun _ => fun
  | [d1, d2, d3] => { results := [.lit (.bool false)], args := [d1, d2, d3] }
  | _ => none }
def NameBytesWrongFalsely : Prop := nameBytesRow.holds Try.pinned (OpenSpec.ofChange nameBytesWrong)

/-- 'legatelaw13.NameJoined': WHATEVER THE INPUT: true; the input reads as it did. -/
def nameJoinedSpec : ChangeSpec := { name := "nameJoined", fn := fun _ => fun
  | [d1, d2] => { results := [.lit (.bool true)], args := [d1, d2] }
  | _ => none }
def nameJoinedRow : OpenClaim := { program := "ytdfbcobicjklhaa", sum := "634e1bca9d048abfed0e8d96241c86c4ff1f818a0935070a0a94b7c52c475fe8", func := "legate/legatelaw13.NameJoined", spec := "nameJoined", apart := false }
def NameJoinedSaid : Prop := nameJoinedRow.holds Try.pinned (OpenSpec.ofChange nameJoinedSpec)

/-- ITS FALSE NEIGHBOUR: 'it returns false'. Refute it at one input. -/
def nameJoinedWrong : ChangeSpec := { name := "nameJoined", fn := fun _ => fun
  | [d1, d2] => { results := [.lit (.bool false)], args := [d1, d2] }
  | _ => none }
def NameJoinedWrongFalsely : Prop := nameJoinedRow.holds Try.pinned (OpenSpec.ofChange nameJoinedWrong)

/-- 'legatelaw13.NamePaths': WHATEVER THE INPUT: true; the input reads as it did. -/
def namePathsSpec : ChangeSpec := { name := "namePaths", fn := fun _ => fun
  | [d1, d2, d3] => { results := [.lit (.bool true)], args := [d1, d2, d3] }
  | _ => none }
def namePathsRow : OpenClaim := { program := "ytdfbcobicjklhaa", sum := "634e1bca9d048abfed0e8d96241c86c4ff1f818a0935070a0a94b7c52c475fe8", func := "legate/legatelaw13.NamePaths", spec := "namePaths", apart := false }
def NamePathsSaid : Prop := namePathsRow.holds Try.pinned (OpenSpec.ofChange namePathsSpec)

/-- ITS FALSE NEIGHBOUR: 'it returns false'. Refute it at one input. -/
def namePathsWrong : ChangeSpec := { name := "namePaths", fn := fun _ => fun
  | [d1, d2, d3] => { results := [.lit (.bool false)], args := [d1, d2, d3] }
  | _ => none }
def NamePathsWrongFalsely : Prop := namePathsRow.holds Try.pinned (OpenSpec.ofChange namePathsWrong)

/-- 'legatelaw13.NameIsPath': WHATEVER THE INPUT: true; the input reads as it did. -/
def nameIsPathSpec : ChangeSpec := { name := "nameIsPath", fn := fun _ => fun
  | [d] => { results := [.lit (.bool true)], args := [d] }
  | _ => none }
def nameIsPathRow : OpenClaim := { program := "ytdfbcobicjklhaa", sum := "634e1bca9d048abfed0e8d96241c86c4ff1f818a0935070a0a94b7c52c475fe8", func := "legate/legatelaw13.NameIsPath", spec := "nameIsPath", apart := false }
def NameIsPathSaid : Prop := nameIsPathRow.holds Try.pinned (OpenSpec.ofChange nameIsPathSpec)

/-- ITS FALSE NEIGHBOUR: 'it returns false'. Refute it at one input. -/
def nameIsPathWrong : ChangeSpec := { name := "nameIsPath", fn := fun _ => fun
  | [d] => { results := [.lit (.bool false)], args := [d] }
  | _ => none }
def NameIsPathWrongFalsely : Prop := nameIsPathRow.holds Try.pinned (OpenSpec.ofChange nameIsPathWrong)

/- THE SECOND FORM. 'bulk': how many values and letters a reading holds, each counted each time it is reached (what is shared counts as often as it is met; a slice's spare places count too). A statement '..UptoSaid' is the law's where the arguments, and the package variables that the reading takes, are together of bulk at most 1048576: NARROWER than '..Said'. Prove '..Said' where nothing that the law and all that it calls make is longer than what came in: it says more and counts as full. Else prove '..UptoSaid'. A law counts once. -/
mutual
def uptoBulk {H : Type} : DataW H → Nat
  | .lit (.string bytes) => bytes.length + 1
  | .lit _ => 1
  | .nil => 1
  | .ptr d => uptoBulk d + 1
  | .slice elems spare => uptoBulkAll elems + uptoBulkAll spare + 1
  | .agg parts => uptoBulkAll parts + 1
  | .iface _ d => uptoBulk d + 1
  | .map entries => uptoBulkEntries entries + 1
  | .held _ => 1
def uptoBulkAll {H : Type} : List (DataW H) → Nat
  | [] => 0
  | d :: r => uptoBulk d + uptoBulkAll r
def uptoBulkEntries {H : Type} : List (Lit × DataW H) → Nat
  | [] => 0
  | x :: r => uptoBulkEntry x + uptoBulkEntries r
def uptoBulkEntry {H : Type} : Lit × DataW H → Nat
  | (.string bytes, d) => bytes.length + uptoBulk d + 1
  | (_, d) => uptoBulk d + 1
 end
def uptoSmall : (H : Type) → List (DataW H) → Bool := fun _ ds => decide (uptoBulkAll ds ≤ 1048576)
def OpenSpec.upto (s : _root_.Go.ChangeSpec) : _root_.Go.OpenSpec := { _root_.Go.OpenSpec.ofChange s with cond := some uptoSmall }

/-- 'legatelaw13.NameTells', WHERE WHAT IT READS IS OF BULK AT MOST 1048576: true; the input reads as it did. -/
def nameTellsUptoRow : OpenClaim := { program := "ytdfbcobicjklhaa", sum := "634e1bca9d048abfed0e8d96241c86c4ff1f818a0935070a0a94b7c52c475fe8", func := "legate/legatelaw13.NameTells", spec := "nameTells", apart := false, narrowed := true }
def NameTellsUptoSaid : Prop := nameTellsUptoRow.holds Try.pinned (OpenSpec.upto nameTellsSpec)

/-- 'legatelaw13.NameFiles', WHERE WHAT IT READS IS OF BULK AT MOST 1048576: true; the input reads as it did. -/
def nameFilesUptoRow : OpenClaim := { program := "ytdfbcobicjklhaa", sum := "634e1bca9d048abfed0e8d96241c86c4ff1f818a0935070a0a94b7c52c475fe8", func := "legate/legatelaw13.NameFiles", spec := "nameFiles", apart := false, narrowed := true }
def NameFilesUptoSaid : Prop := nameFilesUptoRow.holds Try.pinned (OpenSpec.upto nameFilesSpec)

/-- 'legatelaw13.NameNames', WHERE WHAT IT READS IS OF BULK AT MOST 1048576: true; the input reads as it did. -/
def nameNamesUptoRow : OpenClaim := { program := "ytdfbcobicjklhaa", sum := "634e1bca9d048abfed0e8d96241c86c4ff1f818a0935070a0a94b7c52c475fe8", func := "legate/legatelaw13.NameNames", spec := "nameNames", apart := false, narrowed := true }
def NameNamesUptoSaid : Prop := nameNamesUptoRow.holds Try.pinned (OpenSpec.upto nameNamesSpec)

/-- 'legatelaw13.NameBack', WHERE WHAT IT READS IS OF BULK AT MOST 1048576: true; the input reads as it did. -/
def nameBackUptoRow : OpenClaim := { program := "ytdfbcobicjklhaa", sum := "634e1bca9d048abfed0e8d96241c86c4ff1f818a0935070a0a94b7c52c475fe8", func := "legate/legatelaw13.NameBack", spec := "nameBack", apart := false, narrowed := true }
def NameBackUptoSaid : Prop := nameBackUptoRow.holds Try.pinned (OpenSpec.upto nameBackSpec)

/-- 'legatelaw13.NameBytes', WHERE WHAT IT READS IS OF BULK AT MOST 1048576: true; the input reads as it did. -/
def nameBytesUptoRow : OpenClaim := { program := "ytdfbcobicjklhaa", sum := "634e1bca9d048abfed0e8d96241c86c4ff1f818a0935070a0a94b7c52c475fe8", func := "legate/legatelaw13.NameBytes", spec := "nameBytes", apart := false, narrowed := true }
def NameBytesUptoSaid : Prop := nameBytesUptoRow.holds Try.pinned (OpenSpec.upto nameBytesSpec)

/-- 'legatelaw13.NameJoined', WHERE WHAT IT READS IS OF BULK AT MOST 1048576: true; the input reads as it did. -/
def nameJoinedUptoRow : OpenClaim := { program := "ytdfbcobicjklhaa", sum := "634e1bca9d048abfed0e8d96241c86c4ff1f818a0935070a0a94b7c52c475fe8", func := "legate/legatelaw13.NameJoined", spec := "nameJoined", apart := false, narrowed := true }
def NameJoinedUptoSaid : Prop := nameJoinedUptoRow.holds Try.pinned (OpenSpec.upto nameJoinedSpec)

/-- 'legatelaw13.NamePaths', WHERE WHAT IT READS IS OF BULK AT MOST 1048576: true; the input reads as it did. -/
def namePathsUptoRow : OpenClaim := { program := "ytdfbcobicjklhaa", sum := "634e1bca9d048abfed0e8d96241c86c4ff1f818a0935070a0a94b7c52c475fe8", func := "legate/legatelaw13.NamePaths", spec := "namePaths", apart := false, narrowed := true }
def NamePathsUptoSaid : Prop := namePathsUptoRow.holds Try.pinned (OpenSpec.upto namePathsSpec)

/-- 'legatelaw13.NameIsPath', WHERE WHAT IT READS IS OF BULK AT MOST 1048576: true; the input reads as it did. -/
def nameIsPathUptoRow : OpenClaim := { program := "ytdfbcobicjklhaa", sum := "634e1bca9d048abfed0e8d96241c86c4ff1f818a0935070a0a94b7c52c475fe8", func := "legate/legatelaw13.NameIsPath", spec := "nameIsPath", apart := false, narrowed := true }
def NameIsPathUptoSaid : Prop := nameIsPathUptoRow.holds Try.pinned (OpenSpec.upto nameIsPathSpec)

end Rows
end Go.Proofs.Ytdfbcobicjklhaa
