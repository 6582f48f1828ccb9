/-
  NARROWER THAN 'FOR EVERY INPUT', by the rows' own cells (each row's printed sentence says how): WhenLeap: laid · WhenCycle: laid · WhenReads: laid · WhenShows: laid · WhenMonths: laid · WhenNames: laid · WhenBack: laid · WhenOrder: laid · WhenDays: laid.
  DERIVED. THE GIVEN ROWS OF THIS SEAT. 9 by the template 'for every input the law returns true; each argument reads behind the call as it read before'; 0 by the template 'total and deterministic' (their statements: YtmpbejiknejogaaDoorTotals.lean).
  GIVEN WITH THE SEED: the statements are not yours to turn. If you find one false, say at which input.
  Laid BY PROGRAM, IN A SANDBOX (cutbox-rows.mjs): the forced cells as the released guide's own fill.sh prints them over the translation 82e047c318d78e40… (all of the seat's roots in one cut). By AI agents, Wed Nov 11 2026. No macro, syntax, notation, axiom, sorry.
-/
import Derived.Test.YtmpbejiknejogaaDoorChecked
import GoSem.Claim
import GoSem.ClaimJoined
import GoSem.ClaimMapViews
import Derived.JoinedTies
import Derived.KernelRfl
namespace Go.Proofs.YtmpbejiknejogaaDoor
/- THE CELL 'sum', in the pinned program and in every row, IS THE sha256 OF THE DUMP (.gsa) THAT YtmpbejiknejogaaDoorProg.lean LOADS. Nothing in Lean hashes anything: it is a label: what it is worth is what the hold of that sum in a sandbox is worth. -/
noncomputable def Tryd.pinned : Pinned := { name := "ytmpbejiknejogaadoor", sum := "82e047c318d78e4095df47864836189ba7d825103e9cece2abbb0caa63414cf4", checked := Tryd.checked }
namespace Rows
def none {H : Type} : Left H := { results := [], args := [] }

/- WHAT THE LISTED PACKAGE-LEVEL VARIABLES READ AS WHEN THE CALL BEGINS. Each datum BY PROGRAM (the guide's laid-datum.mjs) off the statement by which the dump's own 'gosem.cut.vars' lays the variable. In a bare row this is a premise. The card (YtmpbejiknejogaaDoorCards.lean) ties it to the program's text. -/
def laid_math_bits_deBruijn32tab {H : Type} : DataW H := .agg [.lit (.int .u8 0), .lit (.int .u8 1), .lit (.int .u8 28), .lit (.int .u8 2), .lit (.int .u8 29), .lit (.int .u8 14), .lit (.int .u8 24), .lit (.int .u8 3), .lit (.int .u8 30), .lit (.int .u8 22), .lit (.int .u8 20), .lit (.int .u8 15), .lit (.int .u8 25), .lit (.int .u8 17), .lit (.int .u8 4), .lit (.int .u8 8), .lit (.int .u8 31), .lit (.int .u8 27), .lit (.int .u8 13), .lit (.int .u8 23), .lit (.int .u8 21), .lit (.int .u8 19), .lit (.int .u8 16), .lit (.int .u8 7), .lit (.int .u8 26), .lit (.int .u8 12), .lit (.int .u8 18), .lit (.int .u8 6), .lit (.int .u8 11), .lit (.int .u8 5), .lit (.int .u8 10), .lit (.int .u8 9)]
def laid_math_bits_deBruijn64tab {H : Type} : DataW H := .agg [.lit (.int .u8 0), .lit (.int .u8 1), .lit (.int .u8 56), .lit (.int .u8 2), .lit (.int .u8 57), .lit (.int .u8 49), .lit (.int .u8 28), .lit (.int .u8 3), .lit (.int .u8 61), .lit (.int .u8 58), .lit (.int .u8 42), .lit (.int .u8 50), .lit (.int .u8 38), .lit (.int .u8 29), .lit (.int .u8 17), .lit (.int .u8 4), .lit (.int .u8 62), .lit (.int .u8 47), .lit (.int .u8 59), .lit (.int .u8 36), .lit (.int .u8 45), .lit (.int .u8 43), .lit (.int .u8 51), .lit (.int .u8 22), .lit (.int .u8 53), .lit (.int .u8 39), .lit (.int .u8 33), .lit (.int .u8 30), .lit (.int .u8 24), .lit (.int .u8 18), .lit (.int .u8 12), .lit (.int .u8 5), .lit (.int .u8 63), .lit (.int .u8 55), .lit (.int .u8 48), .lit (.int .u8 27), .lit (.int .u8 60), .lit (.int .u8 41), .lit (.int .u8 37), .lit (.int .u8 16), .lit (.int .u8 46), .lit (.int .u8 35), .lit (.int .u8 44), .lit (.int .u8 21), .lit (.int .u8 52), .lit (.int .u8 32), .lit (.int .u8 23), .lit (.int .u8 11), .lit (.int .u8 54), .lit (.int .u8 26), .lit (.int .u8 40), .lit (.int .u8 15), .lit (.int .u8 34), .lit (.int .u8 20), .lit (.int .u8 31), .lit (.int .u8 10), .lit (.int .u8 25), .lit (.int .u8 14), .lit (.int .u8 19), .lit (.int .u8 9), .lit (.int .u8 13), .lit (.int .u8 8), .lit (.int .u8 7), .lit (.int .u8 6)]
def laid_internal_strconv_uint64pow10 {H : Type} : DataW H := .agg [.lit (.int .u64 1), .lit (.int .u64 10), .lit (.int .u64 100), .lit (.int .u64 1000), .lit (.int .u64 10000), .lit (.int .u64 100000), .lit (.int .u64 1000000), .lit (.int .u64 10000000), .lit (.int .u64 100000000), .lit (.int .u64 1000000000), .lit (.int .u64 10000000000), .lit (.int .u64 100000000000), .lit (.int .u64 1000000000000), .lit (.int .u64 10000000000000), .lit (.int .u64 100000000000000), .lit (.int .u64 1000000000000000), .lit (.int .u64 10000000000000000), .lit (.int .u64 100000000000000000), .lit (.int .u64 1000000000000000000), .lit (.int .u64 10000000000000000000)]
def laid_legate_when_before {H : Type} : DataW H := .agg [.lit (.int .i64 0), .lit (.int .i64 31), .lit (.int .i64 59), .lit (.int .i64 90), .lit (.int .i64 120), .lit (.int .i64 151), .lit (.int .i64 181), .lit (.int .i64 212), .lit (.int .i64 243), .lit (.int .i64 273), .lit (.int .i64 304), .lit (.int .i64 334), .lit (.int .i64 365)]

/-- 'legatelaw12.WhenLeap': WHATEVER THE INPUT: true; the input reads as it did. -/
def whenLeapSpec : ChangeSpec := { name := "whenLeap", fn := fun _ => fun
  | [d] => { results := [.lit (.bool true)], args := [d] }
  | _ => none }
def whenLeapRow : OpenClaim := { program := "ytmpbejiknejogaadoor", sum := "82e047c318d78e4095df47864836189ba7d825103e9cece2abbb0caa63414cf4", func := "legate/legatelaw12.WhenLeap", spec := "whenLeap", inPlace := ["internal/abi.NoEscape", "internal/bytealg.MakeNoZero"], named := ["legate/when.before", "internal/strconv.uint64pow10", "math/bits.deBruijn32tab", "math/bits.deBruijn64tab"], apart := false, laid := [("math/bits.deBruijn32tab", laid_math_bits_deBruijn32tab), ("math/bits.deBruijn64tab", laid_math_bits_deBruijn64tab), ("internal/strconv.uint64pow10", laid_internal_strconv_uint64pow10), ("legate/when.before", laid_legate_when_before)] }
def WhenLeapSaid : Prop := whenLeapRow.holds Tryd.pinned (OpenSpec.ofChange whenLeapSpec)

/-- ITS FALSE NEIGHBOUR: 'it returns false'. Refute it at one input. -/
def whenLeapWrong : ChangeSpec := { name := "whenLeap", fn := fun _ => fun
  | [d] => { results := [.lit (.bool false)], args := [d] }
  | _ => none }
def WhenLeapWrongFalsely : Prop := whenLeapRow.holds Tryd.pinned (OpenSpec.ofChange whenLeapWrong)

/-- 'legatelaw12.WhenCycle': WHATEVER THE INPUT: true; the input reads as it did. -/
def whenCycleSpec : ChangeSpec := { name := "whenCycle", fn := fun _ => fun
  | [d] => { results := [.lit (.bool true)], args := [d] }
  | _ => none }
def whenCycleRow : OpenClaim := { program := "ytmpbejiknejogaadoor", sum := "82e047c318d78e4095df47864836189ba7d825103e9cece2abbb0caa63414cf4", func := "legate/legatelaw12.WhenCycle", spec := "whenCycle", inPlace := ["internal/abi.NoEscape", "internal/bytealg.MakeNoZero"], named := ["legate/when.before", "internal/strconv.uint64pow10", "math/bits.deBruijn32tab", "math/bits.deBruijn64tab"], apart := false, laid := [("math/bits.deBruijn32tab", laid_math_bits_deBruijn32tab), ("math/bits.deBruijn64tab", laid_math_bits_deBruijn64tab), ("internal/strconv.uint64pow10", laid_internal_strconv_uint64pow10), ("legate/when.before", laid_legate_when_before)] }
def WhenCycleSaid : Prop := whenCycleRow.holds Tryd.pinned (OpenSpec.ofChange whenCycleSpec)

/-- ITS FALSE NEIGHBOUR: 'it returns false'. Refute it at one input. -/
def whenCycleWrong : ChangeSpec := { name := "whenCycle", fn := fun _ => fun
  | [d] => { results := [.lit (.bool false)], args := [d] }
  | _ => none }
def WhenCycleWrongFalsely : Prop := whenCycleRow.holds Tryd.pinned (OpenSpec.ofChange whenCycleWrong)

/-- 'legatelaw12.WhenReads': WHATEVER THE INPUT: true; the input reads as it did. -/
def whenReadsSpec : ChangeSpec := { name := "whenReads", fn := fun _ => fun
  | [d] => { results := [.lit (.bool true)], args := [d] }
  | _ => none }
def whenReadsRow : OpenClaim := { program := "ytmpbejiknejogaadoor", sum := "82e047c318d78e4095df47864836189ba7d825103e9cece2abbb0caa63414cf4", func := "legate/legatelaw12.WhenReads", spec := "whenReads", inPlace := ["internal/abi.NoEscape", "internal/bytealg.MakeNoZero"], named := ["legate/when.before", "internal/strconv.uint64pow10", "math/bits.deBruijn32tab", "math/bits.deBruijn64tab"], apart := false, laid := [("math/bits.deBruijn32tab", laid_math_bits_deBruijn32tab), ("math/bits.deBruijn64tab", laid_math_bits_deBruijn64tab), ("internal/strconv.uint64pow10", laid_internal_strconv_uint64pow10), ("legate/when.before", laid_legate_when_before)] }
def WhenReadsSaid : Prop := whenReadsRow.holds Tryd.pinned (OpenSpec.ofChange whenReadsSpec)

/-- ITS FALSE NEIGHBOUR: 'it returns false'. Refute it at one input. -/
def whenReadsWrong : ChangeSpec := { name := "whenReads", fn := fun _ => fun
  | [d] => { results := [.lit (.bool false)], args := [d] }
  | _ => none }
def WhenReadsWrongFalsely : Prop := whenReadsRow.holds Tryd.pinned (OpenSpec.ofChange whenReadsWrong)

/-- 'legatelaw12.WhenShows': WHATEVER THE INPUT: true; the input reads as it did. -/
def whenShowsSpec : ChangeSpec := { name := "whenShows", fn := fun _ => fun
  | [d] => { results := [.lit (.bool true)], args := [d] }
  | _ => none }
def whenShowsRow : OpenClaim := { program := "ytmpbejiknejogaadoor", sum := "82e047c318d78e4095df47864836189ba7d825103e9cece2abbb0caa63414cf4", func := "legate/legatelaw12.WhenShows", spec := "whenShows", inPlace := ["internal/abi.NoEscape", "internal/bytealg.MakeNoZero"], named := ["legate/when.before", "internal/strconv.uint64pow10", "math/bits.deBruijn32tab", "math/bits.deBruijn64tab"], apart := false, laid := [("math/bits.deBruijn32tab", laid_math_bits_deBruijn32tab), ("math/bits.deBruijn64tab", laid_math_bits_deBruijn64tab), ("internal/strconv.uint64pow10", laid_internal_strconv_uint64pow10), ("legate/when.before", laid_legate_when_before)] }
def WhenShowsSaid : Prop := whenShowsRow.holds Tryd.pinned (OpenSpec.ofChange whenShowsSpec)

/-- ITS FALSE NEIGHBOUR: 'it returns false'. Refute it at one input. -/
def whenShowsWrong : ChangeSpec := { name := "whenShows", fn := fun _ => fun
  | [d] => { results := [.lit (.bool false)], args := [d] }
  | _ => none }
def WhenShowsWrongFalsely : Prop := whenShowsRow.holds Tryd.pinned (OpenSpec.ofChange whenShowsWrong)

/-- 'legatelaw12.WhenMonths': WHATEVER THE INPUT: true; the input reads as it did. -/
def whenMonthsSpec : ChangeSpec := { name := "whenMonths", fn := fun _ => fun
  | [d1, d2] => { results := [.lit (.bool true)], args := [d1, d2] }
  | _ => none }
def whenMonthsRow : OpenClaim := { program := "ytmpbejiknejogaadoor", sum := "82e047c318d78e4095df47864836189ba7d825103e9cece2abbb0caa63414cf4", func := "legate/legatelaw12.WhenMonths", spec := "whenMonths", inPlace := ["internal/abi.NoEscape", "internal/bytealg.MakeNoZero"], named := ["legate/when.before", "internal/strconv.uint64pow10", "math/bits.deBruijn32tab", "math/bits.deBruijn64tab"], apart := false, laid := [("math/bits.deBruijn32tab", laid_math_bits_deBruijn32tab), ("math/bits.deBruijn64tab", laid_math_bits_deBruijn64tab), ("internal/strconv.uint64pow10", laid_internal_strconv_uint64pow10), ("legate/when.before", laid_legate_when_before)] }
def WhenMonthsSaid : Prop := whenMonthsRow.holds Tryd.pinned (OpenSpec.ofChange whenMonthsSpec)

/-- ITS FALSE NEIGHBOUR: 'it returns false'. Refute it at one input. -/
def whenMonthsWrong : ChangeSpec := { name := "whenMonths", fn := fun _ => fun
  | [d1, d2] => { results := [.lit (.bool false)], args := [d1, d2] }
  | _ => none }
def WhenMonthsWrongFalsely : Prop := whenMonthsRow.holds Tryd.pinned (OpenSpec.ofChange whenMonthsWrong)

/-- 'legatelaw12.WhenNames': WHATEVER THE INPUT: true; the input reads as it did. -/
def whenNamesSpec : ChangeSpec := { name := "whenNames", fn := fun _ => fun
  | [] => { results := [.lit (.bool true)], args := [] }
  | _ => none }
def whenNamesRow : OpenClaim := { program := "ytmpbejiknejogaadoor", sum := "82e047c318d78e4095df47864836189ba7d825103e9cece2abbb0caa63414cf4", func := "legate/legatelaw12.WhenNames", spec := "whenNames", inPlace := ["internal/abi.NoEscape", "internal/bytealg.MakeNoZero"], named := ["legate/when.before", "internal/strconv.uint64pow10", "math/bits.deBruijn32tab", "math/bits.deBruijn64tab"], apart := false, laid := [("math/bits.deBruijn32tab", laid_math_bits_deBruijn32tab), ("math/bits.deBruijn64tab", laid_math_bits_deBruijn64tab), ("internal/strconv.uint64pow10", laid_internal_strconv_uint64pow10), ("legate/when.before", laid_legate_when_before)] }
def WhenNamesSaid : Prop := whenNamesRow.holds Tryd.pinned (OpenSpec.ofChange whenNamesSpec)

/-- ITS FALSE NEIGHBOUR: 'it returns false'. Refute it at one input. -/
def whenNamesWrong : ChangeSpec := { name := "whenNames", fn := fun _ => fun
  | [] => { results := [.lit (.bool false)], args := [] }
  | _ => none }
def WhenNamesWrongFalsely : Prop := whenNamesRow.holds Tryd.pinned (OpenSpec.ofChange whenNamesWrong)

/-- 'legatelaw12.WhenBack': WHATEVER THE INPUT: true; the input reads as it did. -/
def whenBackSpec : ChangeSpec := { name := "whenBack", fn := fun _ => fun
  | [d1, d2, d3] => { results := [.lit (.bool true)], args := [d1, d2, d3] }
  | _ => none }
def whenBackRow : OpenClaim := { program := "ytmpbejiknejogaadoor", sum := "82e047c318d78e4095df47864836189ba7d825103e9cece2abbb0caa63414cf4", func := "legate/legatelaw12.WhenBack", spec := "whenBack", inPlace := ["internal/abi.NoEscape", "internal/bytealg.MakeNoZero"], named := ["legate/when.before", "internal/strconv.uint64pow10", "math/bits.deBruijn32tab", "math/bits.deBruijn64tab"], apart := false, laid := [("math/bits.deBruijn32tab", laid_math_bits_deBruijn32tab), ("math/bits.deBruijn64tab", laid_math_bits_deBruijn64tab), ("internal/strconv.uint64pow10", laid_internal_strconv_uint64pow10), ("legate/when.before", laid_legate_when_before)] }
def WhenBackSaid : Prop := whenBackRow.holds Tryd.pinned (OpenSpec.ofChange whenBackSpec)

/-- ITS FALSE NEIGHBOUR: 'it returns false'. Refute it at one input. -/
def whenBackWrong : ChangeSpec := { name := "whenBack", fn := fun _ => fun
  | [d1, d2, d3] => { results := [.lit (.bool false)], args := [d1, d2, d3] }
  | _ => none }
def WhenBackWrongFalsely : Prop := whenBackRow.holds Tryd.pinned (OpenSpec.ofChange whenBackWrong)

/-- 'legatelaw12.WhenOrder': WHATEVER THE INPUT: true; the input reads as it did. -/
def whenOrderSpec : ChangeSpec := { name := "whenOrder", fn := fun _ => fun
  | [d1, d2] => { results := [.lit (.bool true)], args := [d1, d2] }
  | _ => none }
def whenOrderRow : OpenClaim := { program := "ytmpbejiknejogaadoor", sum := "82e047c318d78e4095df47864836189ba7d825103e9cece2abbb0caa63414cf4", func := "legate/legatelaw12.WhenOrder", spec := "whenOrder", inPlace := ["internal/abi.NoEscape", "internal/bytealg.MakeNoZero"], named := ["legate/when.before", "internal/strconv.uint64pow10", "math/bits.deBruijn32tab", "math/bits.deBruijn64tab"], apart := false, laid := [("math/bits.deBruijn32tab", laid_math_bits_deBruijn32tab), ("math/bits.deBruijn64tab", laid_math_bits_deBruijn64tab), ("internal/strconv.uint64pow10", laid_internal_strconv_uint64pow10), ("legate/when.before", laid_legate_when_before)] }
def WhenOrderSaid : Prop := whenOrderRow.holds Tryd.pinned (OpenSpec.ofChange whenOrderSpec)

/-- ITS FALSE NEIGHBOUR: 'it returns false'. Refute it at one input. -/
def whenOrderWrong : ChangeSpec := { name := "whenOrder", fn := fun _ => fun
  | [d1, d2] => { results := [.lit (.bool false)], args := [d1, d2] }
  | _ => none }
def WhenOrderWrongFalsely : Prop := whenOrderRow.holds Tryd.pinned (OpenSpec.ofChange whenOrderWrong)

/-- 'legatelaw12.WhenDays': WHATEVER THE INPUT: true; the input reads as it did. -/
def whenDaysSpec : ChangeSpec := { name := "whenDays", fn := fun _ => fun
  | [d] => { results := [.lit (.bool true)], args := [d] }
  | _ => none }
def whenDaysRow : OpenClaim := { program := "ytmpbejiknejogaadoor", sum := "82e047c318d78e4095df47864836189ba7d825103e9cece2abbb0caa63414cf4", func := "legate/legatelaw12.WhenDays", spec := "whenDays", inPlace := ["internal/abi.NoEscape", "internal/bytealg.MakeNoZero"], named := ["legate/when.before", "internal/strconv.uint64pow10", "math/bits.deBruijn32tab", "math/bits.deBruijn64tab"], apart := false, laid := [("math/bits.deBruijn32tab", laid_math_bits_deBruijn32tab), ("math/bits.deBruijn64tab", laid_math_bits_deBruijn64tab), ("internal/strconv.uint64pow10", laid_internal_strconv_uint64pow10), ("legate/when.before", laid_legate_when_before)] }
def WhenDaysSaid : Prop := whenDaysRow.holds Tryd.pinned (OpenSpec.ofChange whenDaysSpec)

/-- ITS FALSE NEIGHBOUR: 'it returns false'. Refute it at one input. -/
def whenDaysWrong : ChangeSpec := { name := "whenDays", fn := fun _ => fun
  | [d] => { results := [.lit (.bool false)], args := [d] }
  | _ => none }
def WhenDaysWrongFalsely : Prop := whenDaysRow.holds Tryd.pinned (OpenSpec.ofChange whenDaysWrong)

/- THE SECOND FORM. 'bulk': how many values and letters a reading holds, each counted each time it is reached (what is shared counts as often as it is met; a slice's spare places count too). A statement '..UptoSaid' is the law's where the arguments, and the package variables that the reading takes, are together of bulk at most 1048576: NARROWER than '..Said'. Prove '..Said' where nothing that the law and all that it calls make is longer than what came in: it says more and counts as full. Else prove '..UptoSaid'. A law counts once. -/
mutual
def uptoBulk {H : Type} : DataW H → Nat
  | .lit (.string bytes) => bytes.length + 1
  | .lit _ => 1
  | .nil => 1
  | .ptr d => uptoBulk d + 1
  | .slice elems spare => uptoBulkAll elems + uptoBulkAll spare + 1
  | .agg parts => uptoBulkAll parts + 1
  | .iface _ d => uptoBulk d + 1
  | .map entries => uptoBulkEntries entries + 1
  | .held _ => 1
def uptoBulkAll {H : Type} : List (DataW H) → Nat
  | [] => 0
  | d :: r => uptoBulk d + uptoBulkAll r
def uptoBulkEntries {H : Type} : List (Lit × DataW H) → Nat
  | [] => 0
  | x :: r => uptoBulkEntry x + uptoBulkEntries r
def uptoBulkEntry {H : Type} : Lit × DataW H → Nat
  | (.string bytes, d) => bytes.length + uptoBulk d + 1
  | (_, d) => uptoBulk d + 1
 end
def uptoSmall : (H : Type) → List (DataW H) → Bool := fun _ ds => decide (uptoBulkAll ds ≤ 1048576)
def OpenSpec.upto (s : _root_.Go.ChangeSpec) : _root_.Go.OpenSpec := { _root_.Go.OpenSpec.ofChange s with cond := some uptoSmall }

/-- 'legatelaw12.WhenLeap', WHERE WHAT IT READS IS OF BULK AT MOST 1048576: true; the input reads as it did. -/
def whenLeapUptoRow : OpenClaim := { program := "ytmpbejiknejogaadoor", sum := "82e047c318d78e4095df47864836189ba7d825103e9cece2abbb0caa63414cf4", func := "legate/legatelaw12.WhenLeap", spec := "whenLeap", inPlace := ["internal/abi.NoEscape", "internal/bytealg.MakeNoZero"], named := ["legate/when.before", "internal/strconv.uint64pow10", "math/bits.deBruijn32tab", "math/bits.deBruijn64tab"], apart := false, laid := [("math/bits.deBruijn32tab", laid_math_bits_deBruijn32tab), ("math/bits.deBruijn64tab", laid_math_bits_deBruijn64tab), ("internal/strconv.uint64pow10", laid_internal_strconv_uint64pow10), ("legate/when.before", laid_legate_when_before)], narrowed := true }
def WhenLeapUptoSaid : Prop := whenLeapUptoRow.holds Tryd.pinned (OpenSpec.upto whenLeapSpec)

/-- 'legatelaw12.WhenCycle', WHERE WHAT IT READS IS OF BULK AT MOST 1048576: true; the input reads as it did. -/
def whenCycleUptoRow : OpenClaim := { program := "ytmpbejiknejogaadoor", sum := "82e047c318d78e4095df47864836189ba7d825103e9cece2abbb0caa63414cf4", func := "legate/legatelaw12.WhenCycle", spec := "whenCycle", inPlace := ["internal/abi.NoEscape", "internal/bytealg.MakeNoZero"], named := ["legate/when.before", "internal/strconv.uint64pow10", "math/bits.deBruijn32tab", "math/bits.deBruijn64tab"], apart := false, laid := [("math/bits.deBruijn32tab", laid_math_bits_deBruijn32tab), ("math/bits.deBruijn64tab", laid_math_bits_deBruijn64tab), ("internal/strconv.uint64pow10", laid_internal_strconv_uint64pow10), ("legate/when.before", laid_legate_when_before)], narrowed := true }
def WhenCycleUptoSaid : Prop := whenCycleUptoRow.holds Tryd.pinned (OpenSpec.upto whenCycleSpec)

/-- 'legatelaw12.WhenReads', WHERE WHAT IT READS IS OF BULK AT MOST 1048576: true; the input reads as it did. -/
def whenReadsUptoRow : OpenClaim := { program := "ytmpbejiknejogaadoor", sum := "82e047c318d78e4095df47864836189ba7d825103e9cece2abbb0caa63414cf4", func := "legate/legatelaw12.WhenReads", spec := "whenReads", inPlace := ["internal/abi.NoEscape", "internal/bytealg.MakeNoZero"], named := ["legate/when.before", "internal/strconv.uint64pow10", "math/bits.deBruijn32tab", "math/bits.deBruijn64tab"], apart := false, laid := [("math/bits.deBruijn32tab", laid_math_bits_deBruijn32tab), ("math/bits.deBruijn64tab", laid_math_bits_deBruijn64tab), ("internal/strconv.uint64pow10", laid_internal_strconv_uint64pow10), ("legate/when.before", laid_legate_when_before)], narrowed := true }
def WhenReadsUptoSaid : Prop := whenReadsUptoRow.holds Tryd.pinned (OpenSpec.upto whenReadsSpec)

/-- 'legatelaw12.WhenShows', WHERE WHAT IT READS IS OF BULK AT MOST 1048576: true; the input reads as it did. -/
def whenShowsUptoRow : OpenClaim := { program := "ytmpbejiknejogaadoor", sum := "82e047c318d78e4095df47864836189ba7d825103e9cece2abbb0caa63414cf4", func := "legate/legatelaw12.WhenShows", spec := "whenShows", inPlace := ["internal/abi.NoEscape", "internal/bytealg.MakeNoZero"], named := ["legate/when.before", "internal/strconv.uint64pow10", "math/bits.deBruijn32tab", "math/bits.deBruijn64tab"], apart := false, laid := [("math/bits.deBruijn32tab", laid_math_bits_deBruijn32tab), ("math/bits.deBruijn64tab", laid_math_bits_deBruijn64tab), ("internal/strconv.uint64pow10", laid_internal_strconv_uint64pow10), ("legate/when.before", laid_legate_when_before)], narrowed := true }
def WhenShowsUptoSaid : Prop := whenShowsUptoRow.holds Tryd.pinned (OpenSpec.upto whenShowsSpec)

/-- 'legatelaw12.WhenMonths', WHERE WHAT IT READS IS OF BULK AT MOST 1048576: true; the input reads as it did. -/
def whenMonthsUptoRow : OpenClaim := { program := "ytmpbejiknejogaadoor", sum := "82e047c318d78e4095df47864836189ba7d825103e9cece2abbb0caa63414cf4", func := "legate/legatelaw12.WhenMonths", spec := "whenMonths", inPlace := ["internal/abi.NoEscape", "internal/bytealg.MakeNoZero"], named := ["legate/when.before", "internal/strconv.uint64pow10", "math/bits.deBruijn32tab", "math/bits.deBruijn64tab"], apart := false, laid := [("math/bits.deBruijn32tab", laid_math_bits_deBruijn32tab), ("math/bits.deBruijn64tab", laid_math_bits_deBruijn64tab), ("internal/strconv.uint64pow10", laid_internal_strconv_uint64pow10), ("legate/when.before", laid_legate_when_before)], narrowed := true }
def WhenMonthsUptoSaid : Prop := whenMonthsUptoRow.holds Tryd.pinned (OpenSpec.upto whenMonthsSpec)

/-- 'legatelaw12.WhenNames', WHERE WHAT IT READS IS OF BULK AT MOST 1048576: true; the input reads as it did. -/
def whenNamesUptoRow : OpenClaim := { program := "ytmpbejiknejogaadoor", sum := "82e047c318d78e4095df47864836189ba7d825103e9cece2abbb0caa63414cf4", func := "legate/legatelaw12.WhenNames", spec := "whenNames", inPlace := ["internal/abi.NoEscape", "internal/bytealg.MakeNoZero"], named := ["legate/when.before", "internal/strconv.uint64pow10", "math/bits.deBruijn32tab", "math/bits.deBruijn64tab"], apart := false, laid := [("math/bits.deBruijn32tab", laid_math_bits_deBruijn32tab), ("math/bits.deBruijn64tab", laid_math_bits_deBruijn64tab), ("internal/strconv.uint64pow10", laid_internal_strconv_uint64pow10), ("legate/when.before", laid_legate_when_before)], narrowed := true }
def WhenNamesUptoSaid : Prop := whenNamesUptoRow.holds Tryd.pinned (OpenSpec.upto whenNamesSpec)

/-- 'legatelaw12.WhenBack', WHERE WHAT IT READS IS OF BULK AT MOST 1048576: true; the input reads as it did. -/
def whenBackUptoRow : OpenClaim := { program := "ytmpbejiknejogaadoor", sum := "82e047c318d78e4095df47864836189ba7d825103e9cece2abbb0caa63414cf4", func := "legate/legatelaw12.WhenBack", spec := "whenBack", inPlace := ["internal/abi.NoEscape", "internal/bytealg.MakeNoZero"], named := ["legate/when.before", "internal/strconv.uint64pow10", "math/bits.deBruijn32tab", "math/bits.deBruijn64tab"], apart := false, laid := [("math/bits.deBruijn32tab", laid_math_bits_deBruijn32tab), ("math/bits.deBruijn64tab", laid_math_bits_deBruijn64tab), ("internal/strconv.uint64pow10", laid_internal_strconv_uint64pow10), ("legate/when.before", laid_legate_when_before)], narrowed := true }
def WhenBackUptoSaid : Prop := whenBackUptoRow.holds Tryd.pinned (OpenSpec.upto whenBackSpec)

/-- 'legatelaw12.WhenOrder', WHERE WHAT IT READS IS OF BULK AT MOST 1048576: true; the input reads as it did. -/
def whenOrderUptoRow : OpenClaim := { program := "ytmpbejiknejogaadoor", sum := "82e047c318d78e4095df47864836189ba7d825103e9cece2abbb0caa63414cf4", func := "legate/legatelaw12.WhenOrder", spec := "whenOrder", inPlace := ["internal/abi.NoEscape", "internal/bytealg.MakeNoZero"], named := ["legate/when.before", "internal/strconv.uint64pow10", "math/bits.deBruijn32tab", "math/bits.deBruijn64tab"], apart := false, laid := [("math/bits.deBruijn32tab", laid_math_bits_deBruijn32tab), ("math/bits.deBruijn64tab", laid_math_bits_deBruijn64tab), ("internal/strconv.uint64pow10", laid_internal_strconv_uint64pow10), ("legate/when.before", laid_legate_when_before)], narrowed := true }
def WhenOrderUptoSaid : Prop := whenOrderUptoRow.holds Tryd.pinned (OpenSpec.upto whenOrderSpec)

/-- 'legatelaw12.WhenDays', WHERE WHAT IT READS IS OF BULK AT MOST 1048576: true; the input reads as it did. -/
def whenDaysUptoRow : OpenClaim := { program := "ytmpbejiknejogaadoor", sum := "82e047c318d78e4095df47864836189ba7d825103e9cece2abbb0caa63414cf4", func := "legate/legatelaw12.WhenDays", spec := "whenDays", inPlace := ["internal/abi.NoEscape", "internal/bytealg.MakeNoZero"], named := ["legate/when.before", "internal/strconv.uint64pow10", "math/bits.deBruijn32tab", "math/bits.deBruijn64tab"], apart := false, laid := [("math/bits.deBruijn32tab", laid_math_bits_deBruijn32tab), ("math/bits.deBruijn64tab", laid_math_bits_deBruijn64tab), ("internal/strconv.uint64pow10", laid_internal_strconv_uint64pow10), ("legate/when.before", laid_legate_when_before)], narrowed := true }
def WhenDaysUptoSaid : Prop := whenDaysUptoRow.holds Tryd.pinned (OpenSpec.upto whenDaysSpec)

end Rows
end Go.Proofs.YtmpbejiknejogaaDoor
