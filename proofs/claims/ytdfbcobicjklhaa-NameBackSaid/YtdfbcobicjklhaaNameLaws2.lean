/-
  The statement NameBack, walked: it returns true.
-/
import Derived.Test.YtdfbcobicjklhaaNameAwake
namespace Go.Proofs.Ytdfbcobicjklhaa
set_option linter.unusedSimpArgs false
set_option linter.unusedVariables false
open Go Go.RowKit

theorem fileS_yes (s : ByteArray) (h : Nm.role s = true) : Nm.fileS s = s ++ Nm.sufB ∧ Nm.fileE s = 0 := ⟨by unfold Nm.fileS; rw [h]; rfl, by unfold Nm.fileE; rw [h]; rfl⟩
theorem fileS_no (s : ByteArray) (h : Nm.role s = false) : Nm.fileS s = ByteArray.empty ∧ Nm.fileE s = 3 := ⟨by unfold Nm.fileS; rw [h]; rfl, by unfold Nm.fileE; rw [h]; rfl⟩
theorem roleS_yes (s : ByteArray) (h : Nm.isFile s = true) : Nm.roleS s = Nm.cut s ∧ Nm.roleE s = 0 := ⟨by unfold Nm.roleS; rw [h]; rfl, by unfold Nm.roleE; rw [h]; rfl⟩
theorem roleS_no (s : ByteArray) (h : Nm.isFile s = false) : Nm.roleS s = ByteArray.empty ∧ Nm.roleE s = 3 := ⟨by unfold Nm.roleS; rw [h]; rfl, by unfold Nm.roleE; rw [h]; rfl⟩

set_option maxHeartbeats 1000000 in
theorem nameBack_walk (s t : ByteArray) (w : World) (hs : s.size ≤ maxLen) (ht : t.size ≤ maxLen) :
    Calls Try.prog 6 #[.string s, .string t] w fun e w' => e = .returned (.bool true) ∧ Below w.heap.size w w' := by
  have hB : Hid (Below w.heap.size w w) := Below.refl _ _
  by_cases h : 3000 < s.size
  · go_enter Try.func6, Try.ntmps6
    go_wp2_with fail
    refine (nawake_any _).mono ?_
    rintro e w1 ⟨rfl, hb1⟩
    replace hB := Lib.hid (keep_trans hB.out hb1)
    clear hb1
    go_wp2_with fail
    go_ret
    exact ⟨rfl, hB.out⟩
  by_cases h' : 3000 < t.size
  · go_enter Try.func6, Try.ntmps6
    go_wp2_with fail
    refine (nawake_any _).mono ?_
    rintro e w1 ⟨rfl, hb1⟩
    replace hB := Lib.hid (keep_trans hB.out hb1)
    clear hb1
    go_wp2_with fail
    go_ret
    exact ⟨rfl, hB.out⟩
  have hsm : s.size ≤ 1000000 := by omega
  have htm : t.size ≤ 1000000 := by omega
  cases hr : Nm.role s with
  | false =>
    have hS := Lib.hid (fileS_no s hr)
    have hR := Lib.hid hr
    clear hr
    cases f : Nm.isFile s with
    | false =>
      have hF := Lib.hid (roleS_no s f)
      clear f
      go_enter Try.func6, Try.ntmps6
      go_wp2_with fail
      refine (nawake_any _).mono ?_
      rintro e w1 ⟨rfl, hb1⟩
      replace hB := Lib.hid (keep_trans hB.out hb1)
      clear hb1
      go_wp2_with fail
      refine (file_any s _ hsm).mono ?_
      rintro e _ ⟨rfl, rfl⟩
      rw [hS.out.1, hS.out.2]
      go_wp2_with fail
      refine (file_any t _ htm).mono ?_
      rintro e _ ⟨rfl, rfl⟩
      go_wp2_with fail
      refine (role_any s _ hs).mono ?_
      rintro e _ ⟨rfl, rfl⟩
      rw [hR.out]
      go_wp2_with fail
      refine (roleOf_any s _ hsm).mono ?_
      rintro e _ ⟨rfl, rfl⟩
      rw [hF.out.1, hF.out.2]
      go_wp2_with fail
      go_ret
      exact ⟨rfl, hB.out⟩
    | true =>
      obtain ⟨q1, q2⟩ := Nm.isFile_back s f
      have q3 := fileS_yes _ q1
      rw [q2] at q3
      have q4 := roleS_yes s f
      have hcm : (Nm.cut s).size ≤ 1000000 := by unfold Nm.cut; rw [ByteArray.size_extract]; omega
      generalize Nm.cut s = c at *
      have hF := Lib.hid q4
      have hC := Lib.hid q3
      clear q1 q2 q3 q4 f
      go_enter Try.func6, Try.ntmps6
      go_wp2_with fail
      refine (nawake_any _).mono ?_
      rintro e w1 ⟨rfl, hb1⟩
      replace hB := Lib.hid (keep_trans hB.out hb1)
      clear hb1
      go_wp2_with fail
      refine (file_any s _ hsm).mono ?_
      rintro e _ ⟨rfl, rfl⟩
      rw [hS.out.1, hS.out.2]
      go_wp2_with fail
      refine (file_any t _ htm).mono ?_
      rintro e _ ⟨rfl, rfl⟩
      go_wp2_with fail
      refine (role_any s _ hs).mono ?_
      rintro e _ ⟨rfl, rfl⟩
      rw [hR.out]
      go_wp2_with fail
      refine (roleOf_any s _ hsm).mono ?_
      rintro e _ ⟨rfl, rfl⟩
      rw [hF.out.1, hF.out.2]
      go_wp2_with fail
      refine (file_any c _ hcm).mono ?_
      rintro e _ ⟨rfl, rfl⟩
      rw [hC.out.1, hC.out.2]
      go_wp2_with fail
      go_ret
      exact ⟨rfl, hB.out⟩
  | true =>
    have q0 := hr
    have q1 := fileS_yes s hr
    obtain ⟨_, q2, q3⟩ := Nm.isFile_app s hr
    have ham : (s ++ Nm.sufB).size ≤ 1000000 := by rw [ByteArray.size_append]; show _ + 5 ≤ _; omega
    by_cases hst : s = t
    · subst hst
      generalize s ++ Nm.sufB = a at *
      have hS := Lib.hid q1
      have hA := Lib.hid (And.intro q2 q3)
      have hR := Lib.hid q0
      clear q0 q1 q2 q3 hr
      cases f : Nm.isFile s with
      | false =>
        have hF := Lib.hid (roleS_no s f)
        clear f
        go_enter Try.func6, Try.ntmps6
        go_wp2_with fail
        refine (nawake_any _).mono ?_
        rintro e w1 ⟨rfl, hb1⟩
        replace hB := Lib.hid (keep_trans hB.out hb1)
        clear hb1
        go_wp2_with fail
        refine (file_any s _ hsm).mono ?_
        rintro e _ ⟨rfl, rfl⟩
        rw [hS.out.1, hS.out.2]
        go_wp2_with fail
        refine (file_any s _ hsm).mono ?_
        rintro e _ ⟨rfl, rfl⟩
        rw [hS.out.1, hS.out.2]
        go_wp2_with fail
        refine (role_any s _ hs).mono ?_
        rintro e _ ⟨rfl, rfl⟩
        rw [hR.out]
        go_wp2_with fail
        refine (roleOf_any a _ ham).mono ?_
        rintro e _ ⟨rfl, rfl⟩
        rw [hA.out.1, hA.out.2]
        go_wp2_with fail
        refine (roleOf_any s _ hsm).mono ?_
        rintro e _ ⟨rfl, rfl⟩
        rw [hF.out.1, hF.out.2]
        go_wp2_with fail
        go_ret
        exact ⟨rfl, hB.out⟩
      | true =>
        obtain ⟨q1, q2⟩ := Nm.isFile_back s f
        have q3 := fileS_yes _ q1
        rw [q2] at q3
        have q4 := roleS_yes s f
        have hcm : (Nm.cut s).size ≤ 1000000 := by unfold Nm.cut; rw [ByteArray.size_extract]; omega
        generalize Nm.cut s = c at *
        have hF := Lib.hid q4
        have hC := Lib.hid q3
        clear q1 q2 q3 q4 f
        go_enter Try.func6, Try.ntmps6
        go_wp2_with fail
        refine (nawake_any _).mono ?_
        rintro e w1 ⟨rfl, hb1⟩
        replace hB := Lib.hid (keep_trans hB.out hb1)
        clear hb1
        go_wp2_with fail
        refine (file_any s _ hsm).mono ?_
        rintro e _ ⟨rfl, rfl⟩
        rw [hS.out.1, hS.out.2]
        go_wp2_with fail
        refine (file_any s _ hsm).mono ?_
        rintro e _ ⟨rfl, rfl⟩
        rw [hS.out.1, hS.out.2]
        go_wp2_with fail
        refine (role_any s _ hs).mono ?_
        rintro e _ ⟨rfl, rfl⟩
        rw [hR.out]
        go_wp2_with fail
        refine (roleOf_any a _ ham).mono ?_
        rintro e _ ⟨rfl, rfl⟩
        rw [hA.out.1, hA.out.2]
        go_wp2_with fail
        refine (roleOf_any s _ hsm).mono ?_
        rintro e _ ⟨rfl, rfl⟩
        rw [hF.out.1, hF.out.2]
        go_wp2_with fail
        refine (file_any c _ hcm).mono ?_
        rintro e _ ⟨rfl, rfl⟩
        rw [hC.out.1, hC.out.2]
        go_wp2_with fail
        go_ret
        exact ⟨rfl, hB.out⟩
    · cases hr2 : Nm.role t with
      | false =>
        have hT := Lib.hid (fileS_no t hr2)
        generalize s ++ Nm.sufB = a at *
        have hS := Lib.hid q1
        have hA := Lib.hid (And.intro q2 q3)
        have hR := Lib.hid q0
        clear q0 q1 q2 q3 hr
        clear hr2 hst
        cases f : Nm.isFile s with
        | false =>
          have hF := Lib.hid (roleS_no s f)
          clear f
          go_enter Try.func6, Try.ntmps6
          go_wp2_with fail
          refine (nawake_any _).mono ?_
          rintro e w1 ⟨rfl, hb1⟩
          replace hB := Lib.hid (keep_trans hB.out hb1)
          clear hb1
          go_wp2_with fail
          refine (file_any s _ hsm).mono ?_
          rintro e _ ⟨rfl, rfl⟩
          rw [hS.out.1, hS.out.2]
          go_wp2_with fail
          refine (file_any t _ htm).mono ?_
          rintro e _ ⟨rfl, rfl⟩
          rw [hT.out.1, hT.out.2]
          go_wp2_with fail
          refine (role_any s _ hs).mono ?_
          rintro e _ ⟨rfl, rfl⟩
          rw [hR.out]
          go_wp2_with fail
          refine (roleOf_any a _ ham).mono ?_
          rintro e _ ⟨rfl, rfl⟩
          rw [hA.out.1, hA.out.2]
          go_wp2_with fail
          refine (roleOf_any s _ hsm).mono ?_
          rintro e _ ⟨rfl, rfl⟩
          rw [hF.out.1, hF.out.2]
          go_wp2_with fail
          go_ret
          exact ⟨rfl, hB.out⟩
        | true =>
          obtain ⟨q1, q2⟩ := Nm.isFile_back s f
          have q3 := fileS_yes _ q1
          rw [q2] at q3
          have q4 := roleS_yes s f
          have hcm : (Nm.cut s).size ≤ 1000000 := by unfold Nm.cut; rw [ByteArray.size_extract]; omega
          generalize Nm.cut s = c at *
          have hF := Lib.hid q4
          have hC := Lib.hid q3
          clear q1 q2 q3 q4 f
          go_enter Try.func6, Try.ntmps6
          go_wp2_with fail
          refine (nawake_any _).mono ?_
          rintro e w1 ⟨rfl, hb1⟩
          replace hB := Lib.hid (keep_trans hB.out hb1)
          clear hb1
          go_wp2_with fail
          refine (file_any s _ hsm).mono ?_
          rintro e _ ⟨rfl, rfl⟩
          rw [hS.out.1, hS.out.2]
          go_wp2_with fail
          refine (file_any t _ htm).mono ?_
          rintro e _ ⟨rfl, rfl⟩
          rw [hT.out.1, hT.out.2]
          go_wp2_with fail
          refine (role_any s _ hs).mono ?_
          rintro e _ ⟨rfl, rfl⟩
          rw [hR.out]
          go_wp2_with fail
          refine (roleOf_any a _ ham).mono ?_
          rintro e _ ⟨rfl, rfl⟩
          rw [hA.out.1, hA.out.2]
          go_wp2_with fail
          refine (roleOf_any s _ hsm).mono ?_
          rintro e _ ⟨rfl, rfl⟩
          rw [hF.out.1, hF.out.2]
          go_wp2_with fail
          refine (file_any c _ hcm).mono ?_
          rintro e _ ⟨rfl, rfl⟩
          rw [hC.out.1, hC.out.2]
          go_wp2_with fail
          go_ret
          exact ⟨rfl, hB.out⟩
      | true =>
        have hn1 : ((s ++ Nm.sufB).toList == (t ++ Nm.sufB).toList) = false := beq_eq_false_iff_ne.2 fun e => hst ((Nm.app_suf_inj s t).1 (Nm.toList_inj.1 (beq_iff_eq.2 e)))
        have hn2 : (s.toList == t.toList) = false := beq_eq_false_iff_ne.2 fun e => hst (Nm.toList_inj.1 (beq_iff_eq.2 e))
        have q5 := fileS_yes t hr2
        generalize s ++ Nm.sufB = a at *
        have hS := Lib.hid q1
        have hA := Lib.hid (And.intro q2 q3)
        have hR := Lib.hid q0
        clear q0 q1 q2 q3 hr
        generalize t ++ Nm.sufB = b at *
        have hT := Lib.hid q5
        clear q5 hr2 hst
        cases f : Nm.isFile s with
        | false =>
          have hF := Lib.hid (roleS_no s f)
          clear f
          go_enter Try.func6, Try.ntmps6
          go_wp2_with fail
          refine (nawake_any _).mono ?_
          rintro e w1 ⟨rfl, hb1⟩
          replace hB := Lib.hid (keep_trans hB.out hb1)
          clear hb1
          go_wp2_with fail
          refine (file_any s _ hsm).mono ?_
          rintro e _ ⟨rfl, rfl⟩
          rw [hS.out.1, hS.out.2]
          go_wp2_with fail
          refine (file_any t _ htm).mono ?_
          rintro e _ ⟨rfl, rfl⟩
          rw [hT.out.1, hT.out.2]
          go_wp2_with fail
          refine (role_any s _ hs).mono ?_
          rintro e _ ⟨rfl, rfl⟩
          rw [hR.out]
          go_wp2_with fail
          refine (roleOf_any a _ ham).mono ?_
          rintro e _ ⟨rfl, rfl⟩
          rw [hA.out.1, hA.out.2]
          go_wp2_with fail
          refine (roleOf_any s _ hsm).mono ?_
          rintro e _ ⟨rfl, rfl⟩
          rw [hF.out.1, hF.out.2]
          go_wp2_with fail
          go_ret
          exact ⟨rfl, hB.out⟩
        | true =>
          obtain ⟨q1, q2⟩ := Nm.isFile_back s f
          have q3 := fileS_yes _ q1
          rw [q2] at q3
          have q4 := roleS_yes s f
          have hcm : (Nm.cut s).size ≤ 1000000 := by unfold Nm.cut; rw [ByteArray.size_extract]; omega
          generalize Nm.cut s = c at *
          have hF := Lib.hid q4
          have hC := Lib.hid q3
          clear q1 q2 q3 q4 f
          go_enter Try.func6, Try.ntmps6
          go_wp2_with fail
          refine (nawake_any _).mono ?_
          rintro e w1 ⟨rfl, hb1⟩
          replace hB := Lib.hid (keep_trans hB.out hb1)
          clear hb1
          go_wp2_with fail
          refine (file_any s _ hsm).mono ?_
          rintro e _ ⟨rfl, rfl⟩
          rw [hS.out.1, hS.out.2]
          go_wp2_with fail
          refine (file_any t _ htm).mono ?_
          rintro e _ ⟨rfl, rfl⟩
          rw [hT.out.1, hT.out.2]
          go_wp2_with fail
          refine (role_any s _ hs).mono ?_
          rintro e _ ⟨rfl, rfl⟩
          rw [hR.out]
          go_wp2_with fail
          refine (roleOf_any a _ ham).mono ?_
          rintro e _ ⟨rfl, rfl⟩
          rw [hA.out.1, hA.out.2]
          go_wp2_with fail
          refine (roleOf_any s _ hsm).mono ?_
          rintro e _ ⟨rfl, rfl⟩
          rw [hF.out.1, hF.out.2]
          go_wp2_with fail
          refine (file_any c _ hcm).mono ?_
          rintro e _ ⟨rfl, rfl⟩
          rw [hC.out.1, hC.out.2]
          go_wp2_with fail
          go_ret
          exact ⟨rfl, hB.out⟩
end Go.Proofs.Ytdfbcobicjklhaa
