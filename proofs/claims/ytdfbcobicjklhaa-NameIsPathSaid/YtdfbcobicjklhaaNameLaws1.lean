/-
  The statements NameTells, NameFiles and NameIsPath, walked: they return true.
-/
import Derived.Test.YtdfbcobicjklhaaNameAwake
namespace Go.Proofs.Ytdfbcobicjklhaa
set_option linter.unusedSimpArgs false
set_option linter.unusedVariables false
open Go Go.RowKit

set_option maxHeartbeats 1000000 in
theorem nameTells_walk (s : ByteArray) (w : World) (hs : s.size ≤ maxLen) :
    Calls Try.prog 3 #[.string s] w fun e w' => e = .returned (.bool true) ∧ Below w.heap.size w w' := by
  have hB : Hid (Below w.heap.size w w) := Below.refl _ _
  by_cases h : 3000 < s.size
  · go_enter Try.func3, Try.ntmps3
    go_wp2_with fail
    refine (nawake_any _).mono ?_
    rintro e w1 ⟨rfl, hb1⟩
    replace hB := Lib.hid (keep_trans hB.out hb1)
    clear hb1
    go_wp2_with fail
    go_ret
    exact ⟨rfl, hB.out⟩
  · have hm : s.size ≤ 1000000 := by omega
    go_enter Try.func3, Try.ntmps3
    go_wp2_with fail
    refine (role_any s _ hs).mono ?_
    rintro e _ ⟨rfl, rfl⟩
    go_wp2_with fail
    refine (rrole_any s _ hs).mono ?_
    rintro e _ ⟨rfl, rfl⟩
    go_wp2_with fail
    refine (path_any s _ hs).mono ?_
    rintro e w1 ⟨rfl, hb1⟩
    replace hB := Lib.hid (keep_trans hB.out hb1)
    clear hb1
    go_wp2_with fail
    refine (rpath_any s _ hm).mono ?_
    rintro e w1 ⟨rfl, hb1⟩
    replace hB := Lib.hid (keep_trans hB.out hb1)
    clear hb1
    go_wp2_with fail
    refine (pattern_any s _ hs).mono ?_
    rintro e w1 ⟨rfl, hb1⟩
    replace hB := Lib.hid (keep_trans hB.out hb1)
    clear hb1
    go_wp2_with fail
    refine (rpath_any s _ hm).mono ?_
    rintro e w1 ⟨rfl, hb1⟩
    replace hB := Lib.hid (keep_trans hB.out hb1)
    clear hb1
    go_wp2_with fail
    refine (top_any s _).mono ?_
    rintro e _ ⟨rfl, rfl⟩
    go_wp2_with fail
    refine (rtop_any s _).mono ?_
    rintro e _ ⟨rfl, rfl⟩
    go_wp2_with fail
    refine (nawake_any _).mono ?_
    rintro e w1 ⟨rfl, hb1⟩
    replace hB := Lib.hid (keep_trans hB.out hb1)
    clear hb1
    go_wp2_with fail
    go_ret
    exact ⟨rfl, hB.out⟩

set_option maxHeartbeats 1000000 in
theorem nameFiles_walk (s : ByteArray) (w : World) (hs : s.size ≤ maxLen) :
    Calls Try.prog 4 #[.string s] w fun e w' => e = .returned (.bool true) ∧ Below w.heap.size w w' := by
  have hB : Hid (Below w.heap.size w w) := Below.refl _ _
  by_cases h : 3000 < s.size
  · go_enter Try.func4, Try.ntmps4
    go_wp2_with fail
    refine (nawake_any _).mono ?_
    rintro e w1 ⟨rfl, hb1⟩
    replace hB := Lib.hid (keep_trans hB.out hb1)
    clear hb1
    go_wp2_with fail
    go_ret
    exact ⟨rfl, hB.out⟩
  · have hm : s.size ≤ 1000000 := by omega
    go_enter Try.func4, Try.ntmps4
    go_wp2_with fail
    refine (file_any s _ hm).mono ?_
    rintro e _ ⟨rfl, rfl⟩
    go_wp2_with fail
    refine (rfile_any s _ hm).mono ?_
    rintro e _ ⟨rfl, rfl⟩
    go_wp2_with fail
    refine (roleOf_any s _ hm).mono ?_
    rintro e _ ⟨rfl, rfl⟩
    go_wp2_with fail
    refine (rroleOf_any s _ hm).mono ?_
    rintro e _ ⟨rfl, rfl⟩
    go_wp2_with fail
    refine (nawake_any _).mono ?_
    rintro e w1 ⟨rfl, hb1⟩
    replace hB := Lib.hid (keep_trans hB.out hb1)
    clear hb1
    go_wp2_with fail
    go_ret
    exact ⟨rfl, hB.out⟩

set_option maxHeartbeats 1000000 in
theorem nameIsPath_walk (s : ByteArray) (w : World) (hs : s.size ≤ maxLen) :
    Calls Try.prog 10 #[.string s] w fun e w' => e = .returned (.bool true) ∧ Below w.heap.size w w' := by
  have hB : Hid (Below w.heap.size w w) := Below.refl _ _
  by_cases h : 3000 < s.size
  · go_enter Try.func10, Try.ntmps10
    go_wp2_with fail
    refine (nawake_any _).mono ?_
    rintro e w1 ⟨rfl, hb1⟩
    replace hB := Lib.hid (keep_trans hB.out hb1)
    clear hb1
    go_wp2_with fail
    go_ret
    exact ⟨rfl, hB.out⟩
  cases h1 : Nm.role s with
  | false =>
    have h2 : Nm.top s = false := by
      cases h : Nm.top s with
      | false => rfl
      | true => rw [Nm.top_role s h] at h1; cases h1
    have r1 := Lib.hid h1
    go_enter Try.func10, Try.ntmps10
    go_wp2_with fail
    refine (nawake_any _).mono ?_
    rintro e w1 ⟨rfl, hb1⟩
    replace hB := Lib.hid (keep_trans hB.out hb1)
    clear hb1
    go_wp2_with fail
    refine (role_any s _ hs).mono ?_
    rintro e _ ⟨rfl, rfl⟩
    rw [h1]
    go_wp2_with fail
    refine (path_any s _ hs).mono ?_
    rintro e w1 ⟨rfl, hb1⟩
    replace hB := Lib.hid (keep_trans hB.out hb1)
    clear hb1
    go_wp2_with fail
    refine (pattern_any s _ hs).mono ?_
    rintro e w1 ⟨rfl, hb1⟩
    replace hB := Lib.hid (keep_trans hB.out hb1)
    clear hb1
    go_wp2_with fail
    refine (top_any s _).mono ?_
    rintro e _ ⟨rfl, rfl⟩
    rw [h2]
    go_wp2_with fail
    go_ret
    exact ⟨rfl, hB.out⟩
  | true =>
    cases h2 : Nm.top s with
    | false =>
      have r1 := Lib.hid h1
      go_enter Try.func10, Try.ntmps10
      go_wp2_with fail
      refine (nawake_any _).mono ?_
      rintro e w1 ⟨rfl, hb1⟩
      replace hB := Lib.hid (keep_trans hB.out hb1)
      clear hb1
      go_wp2_with fail
      refine (role_any s _ hs).mono ?_
      rintro e _ ⟨rfl, rfl⟩
      rw [h1]
      go_wp2_with fail
      refine (path_any s _ hs).mono ?_
      rintro e w1 ⟨rfl, hb1⟩
      rw [Nm.role_path s h1]
      replace hB := Lib.hid (keep_trans hB.out hb1)
      clear hb1
      go_wp2_with fail
      refine (path_any s _ hs).mono ?_
      rintro e w1 ⟨rfl, hb1⟩
      replace hB := Lib.hid (keep_trans hB.out hb1)
      clear hb1
      go_wp2_with fail
      refine (pattern_any s _ hs).mono ?_
      rintro e w1 ⟨rfl, hb1⟩
      replace hB := Lib.hid (keep_trans hB.out hb1)
      clear hb1
      go_wp2_with fail
      refine (top_any s _).mono ?_
      rintro e _ ⟨rfl, rfl⟩
      rw [h2]
      go_wp2_with fail
      go_ret
      exact ⟨rfl, hB.out⟩
    | true =>
      have r1 := Lib.hid h1
      go_enter Try.func10, Try.ntmps10
      go_wp2_with fail
      refine (nawake_any _).mono ?_
      rintro e w1 ⟨rfl, hb1⟩
      replace hB := Lib.hid (keep_trans hB.out hb1)
      clear hb1
      go_wp2_with fail
      refine (role_any s _ hs).mono ?_
      rintro e _ ⟨rfl, rfl⟩
      rw [h1]
      go_wp2_with fail
      refine (path_any s _ hs).mono ?_
      rintro e w1 ⟨rfl, hb1⟩
      rw [Nm.role_path s h1]
      replace hB := Lib.hid (keep_trans hB.out hb1)
      clear hb1
      go_wp2_with fail
      refine (path_any s _ hs).mono ?_
      rintro e w1 ⟨rfl, hb1⟩
      replace hB := Lib.hid (keep_trans hB.out hb1)
      clear hb1
      go_wp2_with fail
      refine (pattern_any s _ hs).mono ?_
      rintro e w1 ⟨rfl, hb1⟩
      replace hB := Lib.hid (keep_trans hB.out hb1)
      clear hb1
      go_wp2_with fail
      refine (top_any s _).mono ?_
      rintro e _ ⟨rfl, rfl⟩
      rw [h2]
      go_wp2_with fail
      refine (role_any s _ hs).mono ?_
      rintro e _ ⟨rfl, rfl⟩
      rw [h1]
      go_wp2_with fail
      go_ret
      exact ⟨rfl, hB.out⟩
end Go.Proofs.Ytdfbcobicjklhaa
