/-
  Arguments that lead into memory: a slice of strings.
-/
import Derived.Test.YtcianlgkfkccoaaBase
import Derived.SliceStrings
import Derived.ProofKit
import Derived.OpenShut
import Derived.Carry
namespace Go.Proofs.Ytcianlgkfkccoaa
set_option linter.unusedSimpArgs false
set_option linter.unusedVariables false
open Go Go.ChangeShapes Go.WideShapes Go.RowKit

/-- A slice that reads as a list of strings. -/
def Strs (w : World) (A : Option Addr) (ls : List ByteArray) : Prop := ∀ i, i < ls.length → ∃ a : Addr, A = some a ∧ a.block < w.heap.size ∧ w.cell? (a.add i) = some (.string (ls.getD i ByteArray.empty))
theorem add_block (a : Addr) (i : Nat) : (a.add i).block = a.block := by unfold Addr.add; split <;> rfl
theorem Strs.below {w w' : World} {A : Option Addr} {ls : List ByteArray} (h : Strs w A ls) (hb : Below w.heap.size w w') : Strs w' A ls := fun i hi => by
  obtain ⟨a, e, hl, hc⟩ := h i hi
  exact ⟨a, e, Nat.lt_of_lt_of_le hl hb.size, (hb.cell (by rw [add_block]; exact hl)).trans hc⟩
theorem strings_arg {H : Type} {enc : TypeId × Value → H} {P : Program} {w : World} {t e : TypeId} {A : Option Addr} {len cap : Nat} {d : DataW H} {p : List MemPlace} (ht : P.underlying t = some (.slice e)) (he : P.underlying e = some .string) (hc : P.cellsOf e = 1)
    (h : DataW.Trod enc P w 0 (fun _ => true) true t (.slice A len cap) d p) : ∃ ls : List ByteArray, len = ls.length ∧ Strs w A ls ∧ (∀ i, i < ls.length → (ls.getD i ByteArray.empty).size ≤ maxLen) ∧ ls.length ≤ maxLen := by
  obtain ⟨fuel, hf⟩ := h
  rcases open_strings ht he hc hf with ⟨hcs, _⟩ | ⟨a, len', cap', ss, hcs, _, hl, hm, hz, _, hcell, hws⟩
  · have : A = none ∧ len = 0 := by
      simp [Value.cells] at hcs
      exact ⟨hcs.1, hcs.2.1⟩
    obtain ⟨rfl, rfl⟩ := this
    exact ⟨[], rfl, fun i hi => absurd hi (by simp), fun i hi => absurd hi (by simp), by simp⟩
  · have : A = some a ∧ len = len' := by
      simp [Value.cells] at hcs
      exact ⟨hcs.1, hcs.2.1⟩
    obtain ⟨rfl, rfl⟩ := this
    have hzl : len ≤ ss.length := by
      rw [hz]
      split <;> omega
    have hlen : (ss.take len).length = len := by rw [List.length_take]; omega
    have hgd : ∀ i, i < len → (ss.take len).getD i ByteArray.empty = ss.getD i ByteArray.empty := fun i hi => by
      rw [List.getD_eq_getElem?_getD, List.getD_eq_getElem?_getD, List.getElem?_take, if_pos hi]
    refine ⟨ss.take len, hlen.symm, fun i hi => ?_, fun i hi => ?_, by rw [hlen]; omega⟩
    · have hi' : i < len := by rw [hlen] at hi; exact hi
      have h1 := hcell i (by omega)
      have h2 := World.block_lt_of_cell? w _ h1
      rw [add_block] at h2
      exact ⟨a, rfl, h2, by rw [hgd i hi']; exact h1⟩
    · have hi' : i < len := by rw [hlen] at hi; exact hi
      rw [hgd i hi', List.getD_eq_getElem?_getD, List.getElem?_eq_getElem (by omega)]
      exact hws _ (List.getElem_mem _)
end Go.Proofs.Ytcianlgkfkccoaa
