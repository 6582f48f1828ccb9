/-
  Arguments that lead into memory: slices of bytes and of bools.
-/
import Derived.Test.YtflfmacfodkedaaDoorArgs
import Derived.ChangeSlices
import Derived.Deep.Grids
namespace Go.Proofs.YtflfmacfodkedaaDoor
set_option linter.unusedSimpArgs false
set_option linter.unusedVariables false
open Go Go.ChangeShapes Go.WideShapes Go.RowKit

/-- A slice whose elements are these. -/
def Elems (w : World) (A : Option Addr) (n : Nat) (f : Nat → Value) : Prop := ∀ i, i < n → ∃ a : Addr, A = some a ∧ a.block < w.heap.size ∧ w.cell? (a.add i) = some (f i)
theorem Elems.below {w w' : World} {A : Option Addr} {n : Nat} {f : Nat → Value} (h : Elems w A n f) (hb : Below w.heap.size w w') : Elems w' A n f := fun i hi => by
  obtain ⟨a, e, hl, hc⟩ := h i hi
  exact ⟨a, e, Nat.lt_of_lt_of_le hl hb.size, (hb.cell (by rw [add_block]; exact hl)).trans hc⟩
theorem bytes_arg {H : Type} {enc : TypeId × Value → H} {P : Program} {w : World} {t e : TypeId} {A : Option Addr} {len cap : Nat} {d : DataW H} {p : List MemPlace} (ht : P.underlying t = some (.slice e)) (he : P.underlying e = some (.int .u8)) (hc : P.cellsOf e = 1)
    (h : DataW.Trod enc P w 0 (fun _ => true) true t (.slice A len cap) d p) : ∃ f : Nat → Nat, Elems w A len (fun i => .int .u8 (f i : Nat)) ∧ (∀ i, f i < 256) ∧ len ≤ maxLen := by
  obtain ⟨fuel, hf⟩ := h
  rcases open_ints ht he hc hf with ⟨hcs, _⟩ | ⟨a, len', cap', zs, hcs, _, hl, hm, hz, _, hcell, hwz⟩
  · have : A = none ∧ len = 0 := by
      simp [Value.cells] at hcs
      exact ⟨hcs.1, hcs.2.1⟩
    obtain ⟨rfl, rfl⟩ := this
    exact ⟨fun _ => 0, fun i hi => absurd hi (by simp), fun i => (by decide : (0 : Nat) < 256), by simp⟩
  · have : A = some a ∧ len = len' := by
      simp [Value.cells] at hcs
      exact ⟨hcs.1, hcs.2.1⟩
    obtain ⟨rfl, rfl⟩ := this
    have hzl : len ≤ zs.length := by
      rw [hz]
      split <;> omega
    have hb : ∀ i, i < zs.length → 0 ≤ zs.getD i 0 ∧ zs.getD i 0 < 256 := fun i hi => by
      have hmem : zs.getD i 0 ∈ zs := by
        rw [List.getD_eq_getElem?_getD, List.getElem?_eq_getElem hi]
        exact List.getElem_mem _
      have := bounds_u8 (hwz _ hmem)
      omega
    refine ⟨fun i => if i < zs.length then (zs.getD i 0).toNat else 0, fun i hi => ?_, fun i => ?_, by omega⟩
    · have h1 := hcell i (by omega)
      have h2 := World.block_lt_of_cell? w _ h1
      rw [add_block] at h2
      refine ⟨a, rfl, h2, ?_⟩
      rw [h1]
      have := hb i (by omega)
      simp only [show i < zs.length by omega, if_true]
      congr 2
      omega
    · show (if i < zs.length then (zs.getD i 0).toNat else 0) < 256
      split
      · have := hb i (by assumption); omega
      · decide
theorem bools_arg {H : Type} {enc : TypeId × Value → H} {P : Program} {w : World} {t e : TypeId} {A : Option Addr} {len cap : Nat} {d : DataW H} {p : List MemPlace} (ht : P.underlying t = some (.slice e)) (he : P.underlying e = some .bool) (hc : P.cellsOf e = 1)
    (h : DataW.Trod enc P w 0 (fun _ => true) true t (.slice A len cap) d p) : ∃ f : Nat → Bool, Elems w A len (fun i => .bool (f i)) ∧ len ≤ maxLen := by
  obtain ⟨fuel, hf⟩ := h
  rcases Go.Deep.open_bools ht he hc hf with ⟨hcs, _⟩ | ⟨a, len', cap', B, hcs, _, hl, hm, _, hcell⟩
  · have : A = none ∧ len = 0 := by
      simp [Value.cells] at hcs
      exact ⟨hcs.1, hcs.2.1⟩
    obtain ⟨rfl, rfl⟩ := this
    exact ⟨fun _ => false, fun i hi => absurd hi (by simp), by simp⟩
  · have : A = some a ∧ len = len' := by
      simp [Value.cells] at hcs
      exact ⟨hcs.1, hcs.2.1⟩
    obtain ⟨rfl, rfl⟩ := this
    refine ⟨B, fun i hi => ?_, by omega⟩
    have h1 := hcell i (by omega)
    have h2 := World.block_lt_of_cell? w _ h1
    rw [add_block] at h2
    exact ⟨a, rfl, h2, h1⟩
end Go.Proofs.YtflfmacfodkedaaDoor
