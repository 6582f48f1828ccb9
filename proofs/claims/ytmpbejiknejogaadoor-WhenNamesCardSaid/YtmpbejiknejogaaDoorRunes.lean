/-
  The row of a text's runes, as the model reads them. No program in sight.
-/
import Derived.Test.YtmpbejiknejogaaDoorUtfRef
import Derived.Laws.IdiomStrings
namespace Go.Proofs.YtmpbejiknejogaaDoor.Uf
set_option linter.unusedSimpArgs false
set_option linter.unusedVariables false
open Go

/-- With so much fuel, from that place on: the runes. -/
def rf (s : ByteArray) : Nat → Nat → List Nat
  | 0, _ => []
  | f + 1, i => if i < s.size then rune s i :: rf s f (i + wid s i) else []
theorem rf_end (s : ByteArray) (f i : Nat) (h : s.size ≤ i) : rf s f i = [] := by
  cases f with
  | zero => rfl
  | succ f => rw [rf, if_neg (by omega)]
theorem rf_fuel (s : ByteArray) : ∀ (f g i : Nat), s.size - i ≤ f → s.size - i ≤ g → rf s f i = rf s g i
  | 0, g, i, hf, _ => by rw [rf_end s 0 i (by omega), rf_end s g i (by omega)]
  | f + 1, 0, i, _, hg => by rw [rf_end s _ i (by omega), rf_end s _ i (by omega)]
  | f + 1, g + 1, i, hf, hg => by
    by_cases h : i < s.size
    · have := wid_pos s i h
      rw [rf, rf, if_pos h, if_pos h, rf_fuel s f g (i + wid s i) (by omega) (by omega)]
    · rw [rf_end s _ i (by omega), rf_end s _ i (by omega)]
def row (s : ByteArray) (i : Nat) : List Nat := rf s (s.size - i) i
theorem row_end (s : ByteArray) (i : Nat) (h : s.size ≤ i) : row s i = [] := rf_end s _ i h
theorem row_step (s : ByteArray) (i : Nat) (h : i < s.size) : row s i = rune s i :: row s (i + wid s i) := by
  have := wid_pos s i h
  unfold row
  rw [show s.size - i = (s.size - i - 1) + 1 by omega, rf, if_pos h, rf_fuel s (s.size - i - 1) (s.size - (i + wid s i)) (i + wid s i) (by omega) (Nat.le_refl _)]
/-- The runes of a text. -/
def runes (s : ByteArray) : List Nat := row s 0
theorem rf_length (s : ByteArray) : ∀ (f i : Nat), (rf s f i).length ≤ s.size - i
  | 0, i => by simp [rf]
  | f + 1, i => by
    rw [rf]
    split
    · rename_i h
      have := rf_length s f (i + wid s i)
      have := wid_pos s i h
      rw [List.length_cons]
      omega
    · simp
theorem row_length (s : ByteArray) (i : Nat) : (row s i).length ≤ s.size - i := rf_length s _ i
theorem runes_length (s : ByteArray) : (runes s).length ≤ s.size := row_length s 0
theorem runes_pos (s : ByteArray) (h : 0 < s.size) : 0 < (runes s).length := by
  unfold runes; rw [row_step s 0 h]; simp
def cellR (r : Nat) : Value := .int .i32 (r : Int)
theorem runesFrom_eq (s : ByteArray) : ∀ (f i : Nat) (acc : Array Value), Conv.runesFrom s f i acc = acc ++ ((rf s f i).map cellR).toArray
  | 0, i, acc => by simp [rf, Conv.runesFrom]
  | f + 1, i, acc => by
    rw [rf, Conv.runesFrom]
    split
    · have := runesFrom_eq s f (i + wid s i) (acc.push (.int .i32 (Int.ofNat (rune s i))))
      show Conv.runesFrom s f (i + wid s i) (acc.push (.int .i32 (Int.ofNat (rune s i)))) = _
      rw [this]
      simp [cellR]
    · simp
theorem runesFrom_all (s : ByteArray) : Conv.runesFrom s s.size 0 #[] = ((runes s).map cellR).toArray := by
  rw [runesFrom_eq]
  unfold runes row
  simp
theorem rune_lt (s : ByteArray) (i : Nat) : rune s i ≤ 2147483647 := decode_le s i
end Go.Proofs.YtmpbejiknejogaaDoor.Uf
