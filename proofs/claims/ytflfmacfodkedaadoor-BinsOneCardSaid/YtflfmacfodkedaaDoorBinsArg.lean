/-
  An argument that is bins: its four cells, and what they are.
-/
import Derived.Test.YtflfmacfodkedaaDoorArgs
import Derived.Lib.SmallJoins
import Derived.Deep.Strs
import Derived.ChangeSame
import Derived.ChangeArms
namespace Go.Proofs.YtflfmacfodkedaaDoor
set_option linter.unusedSimpArgs false
set_option linter.unusedVariables false
open Go Go.ChangeShapes Go.WideShapes Go.RowKit Go.Deep Go.Joins

theorem bins_cells : Tryd.prog.cellsOf 34 = 4 := by kernel_rfl
theorem auth_cells : Tryd.prog.cellsOf 32 = 2 := by kernel_rfl
theorem strs_cells : Tryd.prog.cellsOf 22 = 1 := by kernel_rfl
theorem int_cells : Tryd.prog.cellsOf 3 = 1 := by kernel_rfl
theorem str_cells : Tryd.prog.cellsOf 9 = 1 := by kernel_rfl
set_option maxRecDepth 100000 in
theorem bins_arg {H : Type} {enc : TypeId × Value → H} {w : World} {r : Reach} {b0 : Nat} {v : Value} {d : DataW H} {ps : List MemPlace} (hv : Value.okWide Tryd.prog w r b0 34 v) (h : DataW.Trod enc Tryd.prog w 0 (fun _ => true) true 34 v d ps) :
    ∃ (th b : Int) (A : Option Addr) (ls : List ByteArray) (cap : Nat) (p : ByteArray), v = .agg #[.int .i64 th, .slice A ls.length cap, .int .i64 b, .string p] ∧ p.size ≤ maxLen ∧ Strs w A ls ∧ (∀ i, i < ls.length → (ls.getD i ByteArray.empty).size ≤ maxLen) ∧ ls.length ≤ maxLen := by
  obtain ⟨cs, rfl, hsz⟩ := okWide_struct Tryd.underlying34 hv
  obtain ⟨c0, c1, c2, c3, rfl⟩ := array4 (hsz.trans bins_cells)
  obtain ⟨fuel, hf⟩ := h
  obtain ⟨y0, y1, y2, n, _, _, h0, h1, h2⟩ := trod_struct3 Tryd.underlying34 hf
  simp only [auth_cells, int_cells, str_cells, Value.cells, List.drop_zero, List.drop_succ_cons, List.take_succ_cons, List.take_zero] at h0 h1 h2
  obtain ⟨z0, z1, m, _, _, g0, g1⟩ := trod_struct2 Tryd.underlying32 h0
  simp only [strs_cells, int_cells, List.drop_zero, List.drop_succ_cons, List.take_succ_cons, List.take_zero] at g0 g1
  obtain ⟨th, e0, _, _⟩ := DataW.trod_int Tryd.underlying3 g0
  obtain ⟨A, l, cap, e1⟩ := slice_form Tryd.underlying22 g1
  obtain ⟨b, e2, _, _⟩ := DataW.trod_int Tryd.underlying3 h1
  obtain ⟨p, e3, _, hp⟩ := DataW.trod_string Tryd.underlying9 h2
  obtain rfl : c0 = _ := List.head_eq_of_cons_eq e0
  obtain rfl : c1 = _ := List.head_eq_of_cons_eq e1
  obtain rfl : c2 = _ := List.head_eq_of_cons_eq e2
  obtain rfl : c3 = _ := List.head_eq_of_cons_eq e3
  obtain ⟨ls, rfl, hs, hz, hl⟩ := strings_arg (H := H) (enc := enc) (d := z1.1) (p := z1.2) Tryd.underlying22 Tryd.underlying9 (by kernel_rfl) ⟨m, g1⟩
  exact ⟨th, b, A, ls, cap, p, rfl, hp, hs, hz, hl⟩
end Go.Proofs.YtflfmacfodkedaaDoor
