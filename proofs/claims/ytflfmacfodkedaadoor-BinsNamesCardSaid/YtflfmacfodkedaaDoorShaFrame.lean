/-
  What all cards of this seat share: the tables that the rows list, and a world for the witness.
-/
import Derived.Test.YtflfmacfodkedaaDoorCards
import Derived.Test.YtflfmacfodkedaaDoorTie
import Derived.Test.YtflfmacfodkedaaDoorShaTop
import Derived.WalkKit
import Derived.ProofKit
import Derived.OpenShut
import Derived.Deep.DeepHandedRow
import Derived.Lib.LaidTab
import Derived.Stop.LaidErr
namespace Go.Proofs.YtflfmacfodkedaaDoor.Frame
set_option linter.unusedSimpArgs false
set_option linter.unusedVariables false
open Go Go.ChangeShapes Go.WideShapes Go.ChangeAt Go.RowKit

theorem own : ownKnob Tryd.prog.godebug = none := by kernel_rfl
theorem laidOut : laidOutB Tryd.prog = true := by kernel_rfl
def nDig : List Int := [48, 49, 50, 51, 52, 53, 54, 55, 56, 57, 97, 98, 99, 100, 101, 102]
def nIni : List Int := [1779033703, 3144134277, 1013904242, 2773480762, 1359893119, 2600822924, 528734635, 1541459225]
def nRnd : List Int := [1116352408, 1899447441, 3049323471, 3921009573, 961987163, 1508970993, 2453635748, 2870763221, 3624381080, 310598401, 607225278, 1426881987, 1925078388, 2162078206, 2614888103, 3248222580, 3835390401, 4022224774, 264347078, 604807628, 770255983, 1249150122, 1555081692, 1996064986, 2554220882, 2821834349, 2952996808, 3210313671, 3336571891, 3584528711, 113926993, 338241895, 666307205, 773529912, 1294757372, 1396182291, 1695183700, 1986661051, 2177026350, 2456956037, 2730485921, 2820302411, 3259730800, 3345764771, 3516065817, 3600352804, 4094571909, 275423344, 430227734, 506948616, 659060556, 883997877, 958139571, 1322822218, 1537002063, 1747873779, 1955562222, 2024104815, 2227730452, 2361852424, 2428436474, 2756734187, 3204031479, 3329325298]
theorem gDig : Tryd.prog.globalNamed "legate/hex.digits" = some 0 := by kernel_rfl
theorem gIni : Tryd.prog.globalNamed "legate/sha.initial" = some 1 := by kernel_rfl
theorem gRnd : Tryd.prog.globalNamed "legate/sha.rounds" = some 2 := by kernel_rfl
theorem tDig : (Tryd.prog.globals[0]?).map (·.type) = some 83 := by kernel_rfl
theorem tIni : (Tryd.prog.globals[1]?).map (·.type) = some 80 := by kernel_rfl
theorem tRnd : (Tryd.prog.globals[2]?).map (·.type) = some 88 := by kernel_rfl
theorem cDig : Tryd.prog.cellsOf 83 = 16 := by kernel_rfl
theorem cIni : Tryd.prog.cellsOf 80 = 8 := by kernel_rfl
theorem cRnd : Tryd.prog.cellsOf 88 = 64 := by kernel_rfl
theorem cU8 : Tryd.prog.cellsOf 5 = 1 := by kernel_rfl
theorem cU32 : Tryd.prog.cellsOf 25 = 1 := by kernel_rfl
theorem table {W : World} (h : laidMetH Tryd.prog [("legate/hex.digits", Rows.laid_legate_hex_digits), ("legate/sha.initial", Rows.laid_legate_sha_initial), ("legate/sha.rounds", Rows.laid_legate_sha_rounds)] W) : Tb W ∧ Digs W := by
  have T1 : Lib.TabIs Tryd.prog W "legate/hex.digits" .u8 nDig := Lib.tabIs_of_head gDig tDig Tryd.underlying83 Tryd.underlying5 cU8 cDig h
  have T2 : Lib.TabIs Tryd.prog W "legate/sha.initial" .u32 nIni := Lib.tabIs_of_head gIni tIni Tryd.underlying80 Tryd.underlying25 cU32 cIni (laidMet.tail h)
  have T3 : Lib.TabIs Tryd.prog W "legate/sha.rounds" .u32 nRnd := Lib.tabIs_of_head (rest := []) gRnd tRnd Tryd.underlying88 Tryd.underlying25 cU32 cRnd (laidMet.tail (laidMet.tail h))
  refine ⟨⟨fun i hi => ?_, fun i hi => ?_⟩, fun i hi => ?_⟩
  · refine (T3.cell gRnd i hi).trans ?_
    have : ∀ j : Fin 64, nRnd.getD j 0 = ((Sh.kk j : Nat) : Int) := by decide +kernel
    rw [this ⟨i, hi⟩]
  · refine (T2.cell gIni i hi).trans ?_
    have : ∀ j : Fin 8, nIni.getD j 0 = ((Sh.s0.l.getD j 0 : Nat) : Int) := by decide +kernel
    rw [this ⟨i, hi⟩]
  · refine (T1.cell gDig i hi).trans ?_
    have : ∀ j : Fin 16, nDig.getD j 0 = ((Hx.hexd j).toNat : Int) := by decide
    rw [this ⟨i, hi⟩]
def put (k : IntKind) (zs : List Int) : Obj → Obj
  | .cells _ t frozen => .cells (zs.map fun z => Value.int k z).toArray t frozen
  | o => o
/-- The settled world, the tables holding what their initialisers lay. -/
noncomputable def laidWorld (os : Os) : World :=
  { World.holding Tryd.prog os ⟨#[], #[], []⟩ with heap := ((((World.holding Tryd.prog os ⟨#[], #[], []⟩).heap.modify 0 (put .u8 nDig)).modify 1 (put .u32 nIni)).modify 2 (put .u32 nRnd)) }
end Go.Proofs.YtflfmacfodkedaaDoor.Frame
