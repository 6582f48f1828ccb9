/-
  What all cards of this seat share: the table that the rows list, and a world for the witness.
-/
import Derived.Test.YticilkbhcejmoaaDoorCards
import Derived.Test.YticilkbhcejmoaaDoorTie
import Derived.Test.YticilkbhcejmoaaDoorHexEnc
import Derived.WalkKit
import Derived.ProofKit
import Derived.OpenShut
import Derived.Deep.DeepHandedRow
import Derived.Lib.LaidTab
namespace Go.Proofs.YticilkbhcejmoaaDoor.Frame
open Go Go.ChangeShapes Go.WideShapes Go.ChangeAt Go.RowKit

theorem own : ownKnob Tryd.prog.godebug = none := by kernel_rfl
theorem gTab : Tryd.prog.globalNamed "legate/hex.digits" = some 0 := by kernel_rfl
theorem gTabType : (Tryd.prog.globals[0]?).map (·.type) = some 39 := by kernel_rfl
theorem cellsArr : Tryd.prog.cellsOf 39 = 16 := by kernel_rfl
theorem cellsU8 : Tryd.prog.cellsOf 5 = 1 := by kernel_rfl
def nums : List Int := [48, 49, 50, 51, 52, 53, 54, 55, 56, 57, 97, 98, 99, 100, 101, 102]
theorem table {W : World} (h : laidMetH Tryd.prog [("legate/hex.digits", Rows.laid_legate_hex_digits)] W) : Digs W := by
  have T : Lib.TabIs Tryd.prog W "legate/hex.digits" .u8 nums := Lib.tabIs_of_head (rest := []) gTab gTabType Tryd.underlying39 Tryd.underlying5 cellsU8 cellsArr h
  intro i hi
  refine (T.cell gTab i hi).trans ?_
  have : ∀ j : Fin 16, nums.getD j 0 = ((Hx.hexd j).toNat : Int) := by decide
  rw [this ⟨i, hi⟩]
/-- The settled world, the table holding what its initialiser lays. -/
noncomputable def laidWorld (os : Os) : World :=
  { World.holding Tryd.prog os ⟨#[], #[], []⟩ with heap := (World.holding Tryd.prog os ⟨#[], #[], []⟩).heap.modify 0 fun
      | .cells _ t frozen => .cells (nums.map fun z => Value.int .u8 z).toArray t frozen
      | o => o }
end Go.Proofs.YticilkbhcejmoaaDoor.Frame
