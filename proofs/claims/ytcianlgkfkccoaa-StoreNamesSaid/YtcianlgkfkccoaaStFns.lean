/-
  The walks of made, Repo and the copies of slices and maps.
-/
import Derived.Test.YtcianlgkfkccoaaStFew
import Derived.WalkSpells
namespace Go.Proofs.Ytcianlgkfkccoaa
set_option linter.unusedSimpArgs false
set_option linter.unusedVariables false
open Go Go.RowKit

theorem und_pstore : Try.prog.underlying 27 = some (.pointer (Try.prog.pointee 27)) := by kernel_rfl
theorem neq_map (w : World) (r : Option Nat) : (binOp .neq 59 (.map r) (.map none)).run Try.prog w = .ok (.bool (!r.isNone)) w := run_neq_map_nil w _ _ _ r Try.underlying59

set_option maxHeartbeats 400000 in
theorem made_nil (w : World) : Calls Try.prog 29 #[.pointer none] w fun e w' => e = .returned (.bool false) ∧ w = w' := by
  have nm := fun w => neq_map w
  go_enter Try.func29, Try.ntmps29
  go_wp2_with fail
  go_ret
  exact ⟨rfl, rfl⟩
set_option maxHeartbeats 400000 in
theorem smade_cell (g : Nat) (r : Option Nat) (w : World) (h : w.cell? ⟨g, 2, none⟩ = some (.map r)) : Calls Try.prog 29 #[.pointer (some ⟨g, 0, none⟩)] w fun e w' => e = .returned (.bool r.isSome) ∧ w = w' := by
  have nm := fun w => neq_map w
  go_enter Try.func29, Try.ntmps29
  go_wp2_with fail
  go_ret
  exact ⟨rfl, rfl⟩
theorem made_yes (g m : Nat) (w : World) (h : w.cell? ⟨g, 2, none⟩ = some (.map (some m))) : Calls Try.prog 29 #[.pointer (some ⟨g, 0, none⟩)] w fun e w' => e = .returned (.bool true) ∧ w = w' := smade_cell g (some m) w h
theorem made_no (g : Nat) (w : World) (h : w.cell? ⟨g, 2, none⟩ = some (.map none)) : Calls Try.prog 29 #[.pointer (some ⟨g, 0, none⟩)] w fun e w' => e = .returned (.bool false) ∧ w = w' := smade_cell g none w h

set_option maxHeartbeats 400000 in
theorem repo_nil (w : World) : Calls Try.prog 22 #[.pointer none] w fun e w' => e = .returned (.string ⟨#[]⟩) ∧ w = w' := by
  go_enter Try.func22, Try.ntmps22
  go_wp2_with fail
  refine (made_nil _).mono ?_
  rintro e w' ⟨rfl, rfl⟩
  go_wp2_with fail
  go_ret
  exact ⟨rfl, rfl⟩
set_option maxHeartbeats 400000 in
theorem repo_no (g : Nat) (w : World) (h : w.cell? ⟨g, 2, none⟩ = some (.map none)) : Calls Try.prog 22 #[.pointer (some ⟨g, 0, none⟩)] w fun e w' => e = .returned (.string ⟨#[]⟩) ∧ w = w' := by
  go_enter Try.func22, Try.ntmps22
  go_wp2_with fail
  refine (made_no g _ h).mono ?_
  rintro e w' ⟨rfl, rfl⟩
  go_wp2_with fail
  go_ret
  exact ⟨rfl, rfl⟩
set_option maxHeartbeats 400000 in
theorem repo_cells (g m : Nat) (repo : ByteArray) (w : World) (h0 : w.cell? ⟨g, 0, none⟩ = some (.string repo)) (h : w.cell? ⟨g, 2, none⟩ = some (.map (some m))) : Calls Try.prog 22 #[.pointer (some ⟨g, 0, none⟩)] w fun e w' => e = .returned (.string repo) ∧ w = w' := by
  go_enter Try.func22, Try.ntmps22
  go_wp2_with fail
  refine (made_yes g m _ h).mono ?_
  rintro e w' ⟨rfl, rfl⟩
  go_wp2_with fail
  go_ret
  exact ⟨rfl, rfl⟩
theorem repo_has {w : World} {g : Nat} {F : Nat → Prop} {repo : ByteArray} {fs : List (ByteArray × ByteArray)} {l : List St.En} (h : Has w g F repo fs l) : Calls Try.prog 22 #[.pointer (some ⟨g, 0, none⟩)] w fun e w' => e = .returned (.string repo) ∧ w = w' := by
  obtain ⟨m, fv, ov, h⟩ := h
  exact repo_cells g m repo w (h.row.cell 0) (h.row.cell 2)
end Go.Proofs.Ytcianlgkfkccoaa
