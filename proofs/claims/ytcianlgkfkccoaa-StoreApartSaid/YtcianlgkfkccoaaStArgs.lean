/-
  Arguments that lead into memory: slices of files and of askings.
-/
import Derived.Test.YtcianlgkfkccoaaStMem
import Derived.Deep.SlicePairs
import Derived.ProofKit
import Derived.OpenShut
import Derived.Carry
namespace Go.Proofs.Ytcianlgkfkccoaa
set_option linter.unusedSimpArgs false
set_option linter.unusedVariables false
open Go Go.ChangeShapes Go.WideShapes Go.RowKit Go.Deep

def strOf : Value → ByteArray | .string s => s | _ => ⟨#[]⟩
def numOf : Value → Int | .int _ n => n | _ => 0
theorem spot_none {w : World} {a : Addr} {v : Value} (h : w.cell? a = some v) : a.spot = none := by
  unfold World.cell? at h
  split at h
  · split at h
    · cases h
    · rename_i hs
      cases ha : a.spot with
      | none => rfl
      | some x => rw [ha] at hs; exact absurd rfl hs
  · cases h
theorem addr_lit {a : Addr} (h : a.spot = none) : a = ⟨a.block, a.off, none⟩ := by
  obtain ⟨b, o, s⟩ := a
  simp at h
  subst h; rfl
theorem getD_map {α : Type} (n i : Nat) (f : Nat → α) (d : α) (h : i < n) : ((List.range n).map f).getD i d = f i := by
  rw [List.getD_eq_getElem?_getD, List.getElem?_map, List.getElem?_range h]; rfl
theorem file_cells : Try.prog.cellsOf 35 = 2 := by kernel_rfl
theorem ask_cells : Try.prog.cellsOf 39 = 2 := by kernel_rfl
theorem one_str : Try.prog.cellsOf 9 = 1 := by kernel_rfl
theorem one_int : Try.prog.cellsOf 3 = 1 := by kernel_rfl
theorem files_arg {H : Type} {enc : TypeId × Value → H} {w : World} {A : Option Addr} {len cap : Nat} {d : DataW H} {p : List MemPlace}
    (h : DataW.Trod enc Try.prog w 0 (fun _ => true) true 22 (.slice A len cap) d p) : ∃ fs : List (ByteArray × ByteArray), len = fs.length ∧ Files w A fs ∧ fs.length ≤ maxLen := by
  obtain ⟨fuel, hf⟩ := h
  rcases open_slice_pairs Try.underlying22 Try.underlying35 file_cells rfl rfl one_str one_str hf with ⟨hcs, _⟩ | ⟨a, len', cap', m, n, V0, V1, D0, D1, P0, P1, hcs, _, hl, hm, hmm, _, hi⟩
  · have : A = none ∧ len = 0 := by
      simp [Value.cells] at hcs
      exact ⟨hcs.1, hcs.2.1⟩
    obtain ⟨rfl, rfl⟩ := this
    exact ⟨[], rfl, fun i hi => absurd hi (by simp), by simp⟩
  · have : A = some a ∧ len = len' := by
      simp [Value.cells] at hcs
      exact ⟨hcs.1, hcs.2.1⟩
    obtain ⟨rfl, rfl⟩ := this
    simp only [if_true] at hmm
    refine ⟨(List.range len).map fun i => (strOf (V0 i), strOf (V1 i)), by simp, fun i hii => ?_, by simp; omega⟩
    have hil : i < len := by simpa using hii
    obtain ⟨h0, h1, t0, t1⟩ := hi i (by omega)
    obtain ⟨z0, _⟩ := hi 0 (by omega)
    rw [Nat.zero_mul, show a.add 0 = a from rfl] at z0
    have hs := addr_lit (spot_none z0)
    obtain ⟨s0, e0, _, _⟩ := DataW.trod_string Try.underlying9 t0
    obtain ⟨s1, e1, _, _⟩ := DataW.trod_string Try.underlying9 t1
    obtain e0 : V0 i = _ := List.head_eq_of_cons_eq e0
    obtain e1 : V1 i = _ := List.head_eq_of_cons_eq e1
    rw [hs, Addr.add_lit] at h0 h1
    refine ⟨a.block, a.off, congrArg some hs, World.block_lt_of_cell? w _ z0, ?_, ?_⟩
    · rw [getD_map _ _ _ _ hil, h0, e0]; rfl
    · rw [getD_map _ _ _ _ hil, Nat.add_assoc, h1, e1]; rfl
theorem asks_arg {H : Type} {enc : TypeId × Value → H} {w : World} {A : Option Addr} {len cap : Nat} {d : DataW H} {p : List MemPlace}
    (h : DataW.Trod enc Try.prog w 0 (fun _ => true) true 23 (.slice A len cap) d p) : ∃ qs : List (ByteArray × Int), len = qs.length ∧ Asks w A qs ∧ qs.length ≤ maxLen := by
  obtain ⟨fuel, hf⟩ := h
  rcases open_slice_pairs Try.underlying23 Try.underlying39 ask_cells rfl rfl one_str one_int hf with ⟨hcs, _⟩ | ⟨a, len', cap', m, n, V0, V1, D0, D1, P0, P1, hcs, _, hl, hm, hmm, _, hi⟩
  · have : A = none ∧ len = 0 := by
      simp [Value.cells] at hcs
      exact ⟨hcs.1, hcs.2.1⟩
    obtain ⟨rfl, rfl⟩ := this
    exact ⟨[], rfl, fun i hi => absurd hi (by simp), by simp⟩
  · have : A = some a ∧ len = len' := by
      simp [Value.cells] at hcs
      exact ⟨hcs.1, hcs.2.1⟩
    obtain ⟨rfl, rfl⟩ := this
    simp only [if_true] at hmm
    refine ⟨(List.range len).map fun i => (strOf (V0 i), numOf (V1 i)), by simp, fun i hii => ?_, by simp; omega⟩
    have hil : i < len := by simpa using hii
    obtain ⟨h0, h1, t0, t1⟩ := hi i (by omega)
    obtain ⟨z0, _⟩ := hi 0 (by omega)
    rw [Nat.zero_mul, show a.add 0 = a from rfl] at z0
    have hs := addr_lit (spot_none z0)
    obtain ⟨s0, e0, _, _⟩ := DataW.trod_string Try.underlying9 t0
    obtain ⟨s1, e1, _, _⟩ := DataW.trod_int Try.underlying3 t1
    obtain e0 : V0 i = _ := List.head_eq_of_cons_eq e0
    obtain e1 : V1 i = _ := List.head_eq_of_cons_eq e1
    rw [hs, Addr.add_lit] at h0 h1
    refine ⟨a.block, a.off, congrArg some hs, World.block_lt_of_cell? w _ z0, ?_, ?_⟩
    · rw [getD_map _ _ _ _ hil, h0, e0]; rfl
    · rw [getD_map _ _ _ _ hil, Nat.add_assoc, h1, e1]; rfl
end Go.Proofs.Ytcianlgkfkccoaa
