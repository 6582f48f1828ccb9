/-
  What all cards of this seat share: the tables that the rows list, and a world for the witness.
-/
import Derived.Test.YtmpbejiknejogaaDoorCards
import Derived.Test.YtmpbejiknejogaaDoorTie
import Derived.Test.YtmpbejiknejogaaDoorWhenFns
import Derived.WalkKit
import Derived.ProofKit
import Derived.OpenShut
import Derived.Deep.DeepHandedRow
import Derived.Lib.LaidTab
import Derived.Stop.LaidErr
namespace Go.Proofs.YtmpbejiknejogaaDoor.Frame
set_option linter.unusedSimpArgs false
set_option linter.unusedVariables false
open Go Go.ChangeShapes Go.WideShapes Go.ChangeAt Go.RowKit

theorem own : ownKnob Tryd.prog.godebug = none := by kernel_rfl
def n32 : List Int := [0, 1, 28, 2, 29, 14, 24, 3, 30, 22, 20, 15, 25, 17, 4, 8, 31, 27, 13, 23, 21, 19, 16, 7, 26, 12, 18, 6, 11, 5, 10, 9]
def n64 : List Int := [0, 1, 56, 2, 57, 49, 28, 3, 61, 58, 42, 50, 38, 29, 17, 4, 62, 47, 59, 36, 45, 43, 51, 22, 53, 39, 33, 30, 24, 18, 12, 5, 63, 55, 48, 27, 60, 41, 37, 16, 46, 35, 44, 21, 52, 32, 23, 11, 54, 26, 40, 15, 34, 20, 31, 10, 25, 14, 19, 9, 13, 8, 7, 6]
def nPow : List Int := [1, 10, 100, 1000, 10000, 100000, 1000000, 10000000, 100000000, 1000000000, 10000000000, 100000000000, 1000000000000, 10000000000000, 100000000000000, 1000000000000000, 10000000000000000, 100000000000000000, 1000000000000000000, 10000000000000000000]
def nBef : List Int := [0, 31, 59, 90, 120, 151, 181, 212, 243, 273, 304, 334, 365]
theorem gBef : Tryd.prog.globalNamed "legate/when.before" = some 0 := by kernel_rfl
theorem tBef : (Tryd.prog.globals[0]?).map (·.type) = some 39 := by kernel_rfl
theorem tPow : (Tryd.prog.globals[1]?).map (·.type) = some 77 := by kernel_rfl
theorem cBef : Tryd.prog.cellsOf 39 = 13 := by kernel_rfl
theorem cPow : Tryd.prog.cellsOf 77 = 20 := by kernel_rfl
theorem cInt : Tryd.prog.cellsOf 3 = 1 := by kernel_rfl
theorem cU64 : Tryd.prog.cellsOf 64 = 1 := by kernel_rfl
theorem table {W : World} (h : laidMetH Tryd.prog [("math/bits.deBruijn32tab", Rows.laid_math_bits_deBruijn32tab), ("math/bits.deBruijn64tab", Rows.laid_math_bits_deBruijn64tab), ("internal/strconv.uint64pow10", Rows.laid_internal_strconv_uint64pow10), ("legate/when.before", Rows.laid_legate_when_before)] W) : Tb W := by
  have T : Lib.TabIs Tryd.prog W "internal/strconv.uint64pow10" .u64 nPow := Lib.tabIs_of_head gPow tPow Tryd.underlying77 Tryd.underlying64 cU64 cPow (laidMet.tail (laidMet.tail h))
  have T2 : Lib.TabIs Tryd.prog W "legate/when.before" .i64 nBef := Lib.tabIs_of_head (rest := []) gBef tBef Tryd.underlying39 Tryd.underlying3 cInt cBef (laidMet.tail (laidMet.tail (laidMet.tail h)))
  have e : nPow = Lib.pow10Tab := by decide +kernel
  refine ⟨fun i hi => ?_, e ▸ T⟩
  refine (T2.cell gBef i hi).trans ?_
  have : ∀ j : Fin 13, nBef.getD j 0 = Wh.bef j := by decide
  rw [this ⟨i, hi⟩]
def put (k : IntKind) (zs : List Int) : Obj → Obj
  | .cells _ t frozen => .cells (zs.map fun z => Value.int k z).toArray t frozen
  | o => o
/-- The settled world, the tables holding what their initialisers lay. -/
noncomputable def laidWorld (os : Os) : World :=
  { World.holding Tryd.prog os ⟨#[], #[], []⟩ with heap := (((((World.holding Tryd.prog os ⟨#[], #[], []⟩).heap.modify 3 (put .u8 n32)).modify 4 (put .u8 n64)).modify 1 (put .u64 nPow)).modify 0 (put .i64 nBef)) }
end Go.Proofs.YtmpbejiknejogaaDoor.Frame
