/-
  The examples of the statements on names: awake returns true.
-/
import Derived.Test.YtdfbcobicjklhaaNameLoc
namespace Go.Proofs.Ytdfbcobicjklhaa
set_option linter.unusedSimpArgs false
set_option linter.unusedVariables false
open Go Go.RowKit

theorem nawake_c1 (w : World) : Calls Try.prog 12 #[.string ⟨#[116, 97, 114, 103, 101, 116, 115]⟩] w fun e w' => e = .returned (.bool true) ∧ w = w' := by
  have := role_any ⟨#[116, 97, 114, 103, 101, 116, 115]⟩ w (by decide)
  rwa [show Nm.role ⟨#[116, 97, 114, 103, 101, 116, 115]⟩ = true by decide +kernel] at this
theorem nawake_c2 (w : World) : Calls Try.prog 12 #[.string ⟨#[97, 45, 49, 46, 66, 95, 50]⟩] w fun e w' => e = .returned (.bool true) ∧ w = w' := by
  have := role_any ⟨#[97, 45, 49, 46, 66, 95, 50]⟩ w (by decide)
  rwa [show Nm.role ⟨#[97, 45, 49, 46, 66, 95, 50]⟩ = true by decide +kernel] at this
theorem nawake_c3 (w : World) : Calls Try.prog 12 #[.string ⟨#[46, 97]⟩] w fun e w' => e = .returned (.bool false) ∧ w = w' := by
  have := role_any ⟨#[46, 97]⟩ w (by decide)
  rwa [show Nm.role ⟨#[46, 97]⟩ = false by decide +kernel] at this
theorem nawake_c4 (w : World) : Calls Try.prog 12 #[.string ⟨#[97, 32, 98]⟩] w fun e w' => e = .returned (.bool false) ∧ w = w' := by
  have := role_any ⟨#[97, 32, 98]⟩ w (by decide)
  rwa [show Nm.role ⟨#[97, 32, 98]⟩ = false by decide +kernel] at this
theorem nawake_c5 (w : World) : Calls Try.prog 12 #[.string ⟨#[97, 47, 98]⟩] w fun e w' => e = .returned (.bool false) ∧ w = w' := by
  have := role_any ⟨#[97, 47, 98]⟩ w (by decide)
  rwa [show Nm.role ⟨#[97, 47, 98]⟩ = false by decide +kernel] at this
theorem nawake_c6 (w : World) : Calls Try.prog 12 #[.string ⟨#[]⟩] w fun e w' => e = .returned (.bool false) ∧ w = w' := by
  have := role_any ⟨#[]⟩ w (by decide)
  rwa [show Nm.role ⟨#[]⟩ = false by decide +kernel] at this
theorem nawake_c7 (w : World) : Calls Try.prog 14 #[.string ⟨#[97, 47, 98, 46, 116, 120, 116]⟩] w fun e w' => e = .returned (.bool true) ∧ Below w.heap.size w w' := by
  have := path_any ⟨#[97, 47, 98, 46, 116, 120, 116]⟩ w (by decide)
  rwa [show Nm.path ⟨#[97, 47, 98, 46, 116, 120, 116]⟩ = true by decide +kernel] at this
theorem nawake_c8 (w : World) : Calls Try.prog 14 #[.string ⟨#[46, 47, 97]⟩] w fun e w' => e = .returned (.bool true) ∧ Below w.heap.size w w' := by
  have := path_any ⟨#[46, 47, 97]⟩ w (by decide)
  rwa [show Nm.path ⟨#[46, 47, 97]⟩ = true by decide +kernel] at this
theorem nawake_c9 (w : World) : Calls Try.prog 14 #[.string ⟨#[47, 97]⟩] w fun e w' => e = .returned (.bool false) ∧ Below w.heap.size w w' := by
  have := path_any ⟨#[47, 97]⟩ w (by decide)
  rwa [show Nm.path ⟨#[47, 97]⟩ = false by decide +kernel] at this
theorem nawake_c10 (w : World) : Calls Try.prog 14 #[.string ⟨#[]⟩] w fun e w' => e = .returned (.bool false) ∧ Below w.heap.size w w' := by
  have := path_any ⟨#[]⟩ w (by decide)
  rwa [show Nm.path ⟨#[]⟩ = false by decide +kernel] at this
theorem nawake_c11 (w : World) : Calls Try.prog 14 #[.string ⟨#[255]⟩] w fun e w' => e = .returned (.bool false) ∧ Below w.heap.size w w' := by
  have := path_any ⟨#[255]⟩ w (by decide)
  rwa [show Nm.path ⟨#[255]⟩ = false by decide +kernel] at this
theorem nawake_c12 (w : World) : Calls Try.prog 16 #[.string ⟨#[97, 47, 42, 46, 116, 63, 116]⟩] w fun e w' => e = .returned (.bool true) ∧ Below w.heap.size w w' := by
  have := pattern_any ⟨#[97, 47, 42, 46, 116, 63, 116]⟩ w (by decide)
  rwa [show Nm.path ⟨#[97, 47, 42, 46, 116, 63, 116]⟩ = true by decide +kernel] at this
theorem nawake_c13 (w : World) : Calls Try.prog 16 #[.string ⟨#[47, 97]⟩] w fun e w' => e = .returned (.bool false) ∧ Below w.heap.size w w' := by
  have := pattern_any ⟨#[47, 97]⟩ w (by decide)
  rwa [show Nm.path ⟨#[47, 97]⟩ = false by decide +kernel] at this
theorem nawake_c14 (w : World) : Calls Try.prog 17 #[.string ⟨#[116, 97, 114, 103, 101, 116, 115]⟩] w fun e w' => e = .returned (.bool true) ∧ w = w' := by
  have := top_any ⟨#[116, 97, 114, 103, 101, 116, 115]⟩ w
  rwa [show Nm.top ⟨#[116, 97, 114, 103, 101, 116, 115]⟩ = true by decide +kernel] at this
theorem nawake_c15 (w : World) : Calls Try.prog 17 #[.string ⟨#[97]⟩] w fun e w' => e = .returned (.bool false) ∧ w = w' := by
  have := top_any ⟨#[97]⟩ w
  rwa [show Nm.top ⟨#[97]⟩ = false by decide +kernel] at this

set_option maxHeartbeats 1000000 in
theorem nawake_any (w : World) :
    Calls Try.prog 11 #[] w fun e w' => e = .returned (.bool true) ∧ Below w.heap.size w w' := by
  have hB : Hid (Below w.heap.size w w) := Below.refl _ _
  go_enter Try.func11, Try.ntmps11
  go_wp2_with fail
  refine (nawake_c1 _).mono ?_
  rintro e _ ⟨rfl, rfl⟩
  go_wp2_with fail
  refine (nawake_c2 _).mono ?_
  rintro e _ ⟨rfl, rfl⟩
  go_wp2_with fail
  refine (nawake_c3 _).mono ?_
  rintro e _ ⟨rfl, rfl⟩
  go_wp2_with fail
  refine (nawake_c4 _).mono ?_
  rintro e _ ⟨rfl, rfl⟩
  go_wp2_with fail
  refine (nawake_c5 _).mono ?_
  rintro e _ ⟨rfl, rfl⟩
  go_wp2_with fail
  refine (nawake_c6 _).mono ?_
  rintro e _ ⟨rfl, rfl⟩
  go_wp2_with fail
  refine (nawake_c7 _).mono ?_
  rintro e w1 ⟨rfl, hb1⟩
  replace hB := Lib.hid (keep_trans hB.out hb1)
  clear hb1
  go_wp2_with fail
  refine (nawake_c8 _).mono ?_
  rintro e w1 ⟨rfl, hb1⟩
  replace hB := Lib.hid (keep_trans hB.out hb1)
  clear hb1
  go_wp2_with fail
  refine (nawake_c9 _).mono ?_
  rintro e w1 ⟨rfl, hb1⟩
  replace hB := Lib.hid (keep_trans hB.out hb1)
  clear hb1
  go_wp2_with fail
  refine (nawake_c10 _).mono ?_
  rintro e w1 ⟨rfl, hb1⟩
  replace hB := Lib.hid (keep_trans hB.out hb1)
  clear hb1
  go_wp2_with fail
  refine (nawake_c11 _).mono ?_
  rintro e w1 ⟨rfl, hb1⟩
  replace hB := Lib.hid (keep_trans hB.out hb1)
  clear hb1
  go_wp2_with fail
  refine (nawake_c12 _).mono ?_
  rintro e w1 ⟨rfl, hb1⟩
  replace hB := Lib.hid (keep_trans hB.out hb1)
  clear hb1
  go_wp2_with fail
  refine (nawake_c13 _).mono ?_
  rintro e w1 ⟨rfl, hb1⟩
  replace hB := Lib.hid (keep_trans hB.out hb1)
  clear hb1
  go_wp2_with fail
  refine (nawake_c14 _).mono ?_
  rintro e _ ⟨rfl, rfl⟩
  go_wp2_with fail
  refine (nawake_c15 _).mono ?_
  rintro e _ ⟨rfl, rfl⟩
  go_wp2_with fail
  refine (lfile_any ⟨#[116, 97, 114, 103, 101, 116, 115]⟩ ⟨#[116, 97, 114, 103, 101, 116, 115, 46, 106, 115, 111, 110]⟩ _ (by decide) (by decide) (by decide +kernel) (by decide +kernel)).mono ?_
  rintro e _ ⟨rfl, rfl⟩
  go_wp2_with fail
  refine (lfile_any ⟨#[97, 46, 106, 115, 111, 110]⟩ ⟨#[97, 46, 106, 115, 111, 110, 46, 106, 115, 111, 110]⟩ _ (by decide) (by decide) (by decide +kernel) (by decide +kernel)).mono ?_
  rintro e _ ⟨rfl, rfl⟩
  go_wp2_with fail
  refine (none_any ⟨#[46, 106, 115, 111, 110]⟩ _ (by decide) (by decide +kernel)).mono ?_
  rintro e _ ⟨rfl, rfl⟩
  go_wp2_with fail
  refine (none_any ⟨#[97, 46, 74, 83, 79, 78]⟩ _ (by decide) (by decide +kernel)).mono ?_
  rintro e _ ⟨rfl, rfl⟩
  go_wp2_with fail
  refine (none_any ⟨#[106, 115, 111, 110]⟩ _ (by decide) (by decide +kernel)).mono ?_
  rintro e _ ⟨rfl, rfl⟩
  go_wp2_with fail
  go_ret
  exact ⟨rfl, hB.out⟩
end Go.Proofs.Ytdfbcobicjklhaa
