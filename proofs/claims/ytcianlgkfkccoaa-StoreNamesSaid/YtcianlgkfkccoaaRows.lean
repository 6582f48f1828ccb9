/-
  No cell of these rows narrows 'for every input' (looked for: loops, veiled, ifaces, maps, wideKeys, modest, calm, conditions, laid).
  DERIVED. THE GIVEN ROWS OF THIS SEAT. 8 by the template 'for every input the law returns true; each argument reads behind the call as it read before'; 0 by the template 'total and deterministic' (their statements: YtcianlgkfkccoaaTotals.lean).
  GIVEN WITH THE SEED: the statements are not yours to turn. If you find one false, say at which input.
  Laid BY PROGRAM, IN A SANDBOX (cutbox-rows.mjs): the forced cells as the released guide's own fill.sh prints them over the translation 6e0e403957f29572… (all of the seat's roots in one cut). By AI agents, Wed Nov 11 2026. No macro, syntax, notation, axiom, sorry.
-/
import Derived.Test.YtcianlgkfkccoaaChecked
import GoSem.Claim
import GoSem.ClaimJoined
import GoSem.ClaimMapViews
import Derived.JoinedTies
import Derived.KernelRfl
namespace Go.Proofs.Ytcianlgkfkccoaa
/- THE CELL 'sum', in the pinned program and in every row, IS THE sha256 OF THE DUMP (.gsa) THAT YtcianlgkfkccoaaProg.lean LOADS. Nothing in Lean hashes anything: it is a label: what it is worth is what the hold of that sum in a sandbox is worth. -/
noncomputable def Try.pinned : Pinned := { name := "ytcianlgkfkccoaa", sum := "6e0e403957f295726ac75c829713d44f341089aecdc92627bfa41ccc7767c097", checked := Try.checked }
namespace Rows
def none {H : Type} : Left H := { results := [], args := [] }

/-- 'legatelaw26.StoreGets': WHATEVER THE INPUT: true; the input reads as it did. -/
def storeGetsSpec : ChangeSpec := { name := "storeGets", fn := fun _ => fun
  | [d1, d2, d3] => { results := [.lit (.bool true)], args := [d1, d2, d3] }
  | _ => none }
def storeGetsRow : OpenClaim := { program := "ytcianlgkfkccoaa", sum := "6e0e403957f295726ac75c829713d44f341089aecdc92627bfa41ccc7767c097", func := "legate/legatelaw26.StoreGets", spec := "storeGets", apart := false }
def StoreGetsSaid : Prop := storeGetsRow.holds Try.pinned (OpenSpec.ofChange storeGetsSpec)

/-- ITS FALSE NEIGHBOUR: 'it returns false'. Refute it at one input. -/
def storeGetsWrong : ChangeSpec := { name := "storeGets", fn := fun _ => fun
  | [d1, d2, d3] => { results := [.lit (.bool false)], args := [d1, d2, d3] }
  | _ => none }
def StoreGetsWrongFalsely : Prop := storeGetsRow.holds Try.pinned (OpenSpec.ofChange storeGetsWrong)

/-- 'legatelaw26.StoreOnce': WHATEVER THE INPUT: true; the input reads as it did. -/
def storeOnceSpec : ChangeSpec := { name := "storeOnce", fn := fun _ => fun
  | [d1, d2] => { results := [.lit (.bool true)], args := [d1, d2] }
  | _ => none }
def storeOnceRow : OpenClaim := { program := "ytcianlgkfkccoaa", sum := "6e0e403957f295726ac75c829713d44f341089aecdc92627bfa41ccc7767c097", func := "legate/legatelaw26.StoreOnce", spec := "storeOnce", apart := false }
def StoreOnceSaid : Prop := storeOnceRow.holds Try.pinned (OpenSpec.ofChange storeOnceSpec)

/-- ITS FALSE NEIGHBOUR: 'it returns false'. Refute it at one input. -/
def storeOnceWrong : ChangeSpec := { name := "storeOnce", fn := fun _ => fun
  | [d1, d2] => { results := [.lit (.bool false)], args := [d1, d2] }
  | _ => none }
def StoreOnceWrongFalsely : Prop := storeOnceRow.holds Try.pinned (OpenSpec.ofChange storeOnceWrong)

/-- 'legatelaw26.StoreCap': WHATEVER THE INPUT: true; the input reads as it did. -/
def storeCapSpec : ChangeSpec := { name := "storeCap", fn := fun _ => fun
  | [d1, d2, d3, d4] => { results := [.lit (.bool true)], args := [d1, d2, d3, d4] }
  | _ => none }
def storeCapRow : OpenClaim := { program := "ytcianlgkfkccoaa", sum := "6e0e403957f295726ac75c829713d44f341089aecdc92627bfa41ccc7767c097", func := "legate/legatelaw26.StoreCap", spec := "storeCap", apart := false }
def StoreCapSaid : Prop := storeCapRow.holds Try.pinned (OpenSpec.ofChange storeCapSpec)

/-- ITS FALSE NEIGHBOUR: 'it returns false'. Refute it at one input. -/
def storeCapWrong : ChangeSpec := { name := "storeCap", fn := fun _ => fun
  | [d1, d2, d3, d4] => { results := [.lit (.bool false)], args := [d1, d2, d3, d4] }
  | _ => none }
def StoreCapWrongFalsely : Prop := storeCapRow.holds Try.pinned (OpenSpec.ofChange storeCapWrong)

/-- 'legatelaw26.StoreElse': WHATEVER THE INPUT: true; the input reads as it did. -/
def storeElseSpec : ChangeSpec := { name := "storeElse", fn := fun _ => fun
  | [d1, d2, d3] => { results := [.lit (.bool true)], args := [d1, d2, d3] }
  | _ => none }
def storeElseRow : OpenClaim := { program := "ytcianlgkfkccoaa", sum := "6e0e403957f295726ac75c829713d44f341089aecdc92627bfa41ccc7767c097", func := "legate/legatelaw26.StoreElse", spec := "storeElse", apart := false }
def StoreElseSaid : Prop := storeElseRow.holds Try.pinned (OpenSpec.ofChange storeElseSpec)

/-- ITS FALSE NEIGHBOUR: 'it returns false'. Refute it at one input. -/
def storeElseWrong : ChangeSpec := { name := "storeElse", fn := fun _ => fun
  | [d1, d2, d3] => { results := [.lit (.bool false)], args := [d1, d2, d3] }
  | _ => none }
def StoreElseWrongFalsely : Prop := storeElseRow.holds Try.pinned (OpenSpec.ofChange storeElseWrong)

/-- 'legatelaw26.StoreRows': WHATEVER THE INPUT: true; the input reads as it did. -/
def storeRowsSpec : ChangeSpec := { name := "storeRows", fn := fun _ => fun
  | [d1, d2, d3, d4] => { results := [.lit (.bool true)], args := [d1, d2, d3, d4] }
  | _ => none }
def storeRowsRow : OpenClaim := { program := "ytcianlgkfkccoaa", sum := "6e0e403957f295726ac75c829713d44f341089aecdc92627bfa41ccc7767c097", func := "legate/legatelaw26.StoreRows", spec := "storeRows", apart := false }
def StoreRowsSaid : Prop := storeRowsRow.holds Try.pinned (OpenSpec.ofChange storeRowsSpec)

/-- ITS FALSE NEIGHBOUR: 'it returns false'. Refute it at one input. -/
def storeRowsWrong : ChangeSpec := { name := "storeRows", fn := fun _ => fun
  | [d1, d2, d3, d4] => { results := [.lit (.bool false)], args := [d1, d2, d3, d4] }
  | _ => none }
def StoreRowsWrongFalsely : Prop := storeRowsRow.holds Try.pinned (OpenSpec.ofChange storeRowsWrong)

/-- 'legatelaw26.StoreMakes': WHATEVER THE INPUT: true; the input reads as it did. -/
def storeMakesSpec : ChangeSpec := { name := "storeMakes", fn := fun _ => fun
  | [d1, d2] => { results := [.lit (.bool true)], args := [d1, d2] }
  | _ => none }
def storeMakesRow : OpenClaim := { program := "ytcianlgkfkccoaa", sum := "6e0e403957f295726ac75c829713d44f341089aecdc92627bfa41ccc7767c097", func := "legate/legatelaw26.StoreMakes", spec := "storeMakes", apart := false }
def StoreMakesSaid : Prop := storeMakesRow.holds Try.pinned (OpenSpec.ofChange storeMakesSpec)

/-- ITS FALSE NEIGHBOUR: 'it returns false'. Refute it at one input. -/
def storeMakesWrong : ChangeSpec := { name := "storeMakes", fn := fun _ => fun
  | [d1, d2] => { results := [.lit (.bool false)], args := [d1, d2] }
  | _ => none }
def StoreMakesWrongFalsely : Prop := storeMakesRow.holds Try.pinned (OpenSpec.ofChange storeMakesWrong)

/-- 'legatelaw26.StoreNames': WHATEVER THE INPUT: true; the input reads as it did. -/
def storeNamesSpec : ChangeSpec := { name := "storeNames", fn := fun _ => fun
  | [] => { results := [.lit (.bool true)], args := [] }
  | _ => none }
def storeNamesRow : OpenClaim := { program := "ytcianlgkfkccoaa", sum := "6e0e403957f295726ac75c829713d44f341089aecdc92627bfa41ccc7767c097", func := "legate/legatelaw26.StoreNames", spec := "storeNames", inPlace := ["maps.clone"], apart := false }
def StoreNamesSaid : Prop := storeNamesRow.holds Try.pinned (OpenSpec.ofChange storeNamesSpec)

/-- ITS FALSE NEIGHBOUR: 'it returns false'. Refute it at one input. -/
def storeNamesWrong : ChangeSpec := { name := "storeNames", fn := fun _ => fun
  | [] => { results := [.lit (.bool false)], args := [] }
  | _ => none }
def StoreNamesWrongFalsely : Prop := storeNamesRow.holds Try.pinned (OpenSpec.ofChange storeNamesWrong)

/-- 'legatelaw26.StoreApart': WHATEVER THE INPUT: true; the input reads as it did. -/
def storeApartSpec : ChangeSpec := { name := "storeApart", fn := fun _ => fun
  | [d1, d2, d3] => { results := [.lit (.bool true)], args := [d1, d2, d3] }
  | _ => none }
def storeApartRow : OpenClaim := { program := "ytcianlgkfkccoaa", sum := "6e0e403957f295726ac75c829713d44f341089aecdc92627bfa41ccc7767c097", func := "legate/legatelaw26.StoreApart", spec := "storeApart", inPlace := ["maps.clone"], apart := false }
def StoreApartSaid : Prop := storeApartRow.holds Try.pinned (OpenSpec.ofChange storeApartSpec)

/-- ITS FALSE NEIGHBOUR: 'it returns false'. Refute it at one input. -/
def storeApartWrong : ChangeSpec := { name := "storeApart", fn := fun _ => fun
  | [d1, d2, d3] => { results := [.lit (.bool false)], args := [d1, d2, d3] }
  | _ => none }
def StoreApartWrongFalsely : Prop := storeApartRow.holds Try.pinned (OpenSpec.ofChange storeApartWrong)

/- THE SECOND FORM. 'bulk': how many values and letters a reading holds, each counted each time it is reached (what is shared counts as often as it is met; a slice's spare places count too). A statement '..UptoSaid' is the law's where the arguments, and the package variables that the reading takes, are together of bulk at most 1048576: NARROWER than '..Said'. Prove '..Said' where nothing that the law and all that it calls make is longer than what came in: it says more and counts as full. Else prove '..UptoSaid'. A law counts once. -/
mutual
def uptoBulk {H : Type} : DataW H → Nat
  | .lit (.string bytes) => bytes.length + 1
  | .lit _ => 1
  | .nil => 1
  | .ptr d => uptoBulk d + 1
  | .slice elems spare => uptoBulkAll elems + uptoBulkAll spare + 1
  | .agg parts => uptoBulkAll parts + 1
  | .iface _ d => uptoBulk d + 1
  | .map entries => uptoBulkEntries entries + 1
  | .held _ => 1
def uptoBulkAll {H : Type} : List (DataW H) → Nat
  | [] => 0
  | d :: r => uptoBulk d + uptoBulkAll r
def uptoBulkEntries {H : Type} : List (Lit × DataW H) → Nat
  | [] => 0
  | x :: r => uptoBulkEntry x + uptoBulkEntries r
def uptoBulkEntry {H : Type} : Lit × DataW H → Nat
  | (.string bytes, d) => bytes.length + uptoBulk d + 1
  | (_, d) => uptoBulk d + 1
 end
def uptoSmall : (H : Type) → List (DataW H) → Bool := fun _ ds => decide (uptoBulkAll ds ≤ 1048576)
def OpenSpec.upto (s : _root_.Go.ChangeSpec) : _root_.Go.OpenSpec := { _root_.Go.OpenSpec.ofChange s with cond := some uptoSmall }

/-- 'legatelaw26.StoreGets', WHERE WHAT IT READS IS OF BULK AT MOST 1048576: true; the input reads as it did. -/
def storeGetsUptoRow : OpenClaim := { program := "ytcianlgkfkccoaa", sum := "6e0e403957f295726ac75c829713d44f341089aecdc92627bfa41ccc7767c097", func := "legate/legatelaw26.StoreGets", spec := "storeGets", apart := false, narrowed := true }
def StoreGetsUptoSaid : Prop := storeGetsUptoRow.holds Try.pinned (OpenSpec.upto storeGetsSpec)

/-- 'legatelaw26.StoreOnce', WHERE WHAT IT READS IS OF BULK AT MOST 1048576: true; the input reads as it did. -/
def storeOnceUptoRow : OpenClaim := { program := "ytcianlgkfkccoaa", sum := "6e0e403957f295726ac75c829713d44f341089aecdc92627bfa41ccc7767c097", func := "legate/legatelaw26.StoreOnce", spec := "storeOnce", apart := false, narrowed := true }
def StoreOnceUptoSaid : Prop := storeOnceUptoRow.holds Try.pinned (OpenSpec.upto storeOnceSpec)

/-- 'legatelaw26.StoreCap', WHERE WHAT IT READS IS OF BULK AT MOST 1048576: true; the input reads as it did. -/
def storeCapUptoRow : OpenClaim := { program := "ytcianlgkfkccoaa", sum := "6e0e403957f295726ac75c829713d44f341089aecdc92627bfa41ccc7767c097", func := "legate/legatelaw26.StoreCap", spec := "storeCap", apart := false, narrowed := true }
def StoreCapUptoSaid : Prop := storeCapUptoRow.holds Try.pinned (OpenSpec.upto storeCapSpec)

/-- 'legatelaw26.StoreElse', WHERE WHAT IT READS IS OF BULK AT MOST 1048576: true; the input reads as it did. -/
def storeElseUptoRow : OpenClaim := { program := "ytcianlgkfkccoaa", sum := "6e0e403957f295726ac75c829713d44f341089aecdc92627bfa41ccc7767c097", func := "legate/legatelaw26.StoreElse", spec := "storeElse", apart := false, narrowed := true }
def StoreElseUptoSaid : Prop := storeElseUptoRow.holds Try.pinned (OpenSpec.upto storeElseSpec)

/-- 'legatelaw26.StoreRows', WHERE WHAT IT READS IS OF BULK AT MOST 1048576: true; the input reads as it did. -/
def storeRowsUptoRow : OpenClaim := { program := "ytcianlgkfkccoaa", sum := "6e0e403957f295726ac75c829713d44f341089aecdc92627bfa41ccc7767c097", func := "legate/legatelaw26.StoreRows", spec := "storeRows", apart := false, narrowed := true }
def StoreRowsUptoSaid : Prop := storeRowsUptoRow.holds Try.pinned (OpenSpec.upto storeRowsSpec)

/-- 'legatelaw26.StoreMakes', WHERE WHAT IT READS IS OF BULK AT MOST 1048576: true; the input reads as it did. -/
def storeMakesUptoRow : OpenClaim := { program := "ytcianlgkfkccoaa", sum := "6e0e403957f295726ac75c829713d44f341089aecdc92627bfa41ccc7767c097", func := "legate/legatelaw26.StoreMakes", spec := "storeMakes", apart := false, narrowed := true }
def StoreMakesUptoSaid : Prop := storeMakesUptoRow.holds Try.pinned (OpenSpec.upto storeMakesSpec)

/-- 'legatelaw26.StoreNames', WHERE WHAT IT READS IS OF BULK AT MOST 1048576: true; the input reads as it did. -/
def storeNamesUptoRow : OpenClaim := { program := "ytcianlgkfkccoaa", sum := "6e0e403957f295726ac75c829713d44f341089aecdc92627bfa41ccc7767c097", func := "legate/legatelaw26.StoreNames", spec := "storeNames", inPlace := ["maps.clone"], apart := false, narrowed := true }
def StoreNamesUptoSaid : Prop := storeNamesUptoRow.holds Try.pinned (OpenSpec.upto storeNamesSpec)

/-- 'legatelaw26.StoreApart', WHERE WHAT IT READS IS OF BULK AT MOST 1048576: true; the input reads as it did. -/
def storeApartUptoRow : OpenClaim := { program := "ytcianlgkfkccoaa", sum := "6e0e403957f295726ac75c829713d44f341089aecdc92627bfa41ccc7767c097", func := "legate/legatelaw26.StoreApart", spec := "storeApart", inPlace := ["maps.clone"], apart := false, narrowed := true }
def StoreApartUptoSaid : Prop := storeApartUptoRow.holds Try.pinned (OpenSpec.upto storeApartSpec)

end Rows
end Go.Proofs.Ytcianlgkfkccoaa
