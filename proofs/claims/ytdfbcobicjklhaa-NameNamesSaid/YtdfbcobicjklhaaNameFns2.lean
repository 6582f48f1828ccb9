/-
  The walks of package name, and of the reference beside it, second part: Role of the reference, Path, Pattern, Top, File, RoleOf.
-/
import Derived.Test.YtdfbcobicjklhaaNameFns
import Derived.Test.YtdfbcobicjklhaaUtfFns
import Derived.Test.YtdfbcobicjklhaaUtfNext
namespace Go.Proofs.Ytdfbcobicjklhaa
set_option linter.unusedSimpArgs false
set_option linter.unusedVariables false
open Go Go.RowKit

set_option maxHeartbeats 400000 in
theorem rrole_any (s : ByteArray) (w : World) (hs : s.size ≤ maxLen) :
    Calls Try.prog 13 #[.string s] w fun e w' => e = .returned (.bool (Nm.role s)) ∧ w = w' := by
  unfold maxLen at hs
  by_cases h0 : s.size = 0
  · have e : Nm.role s = false := by unfold Nm.role; rw [h0]; rfl
    rw [e]
    have n1 : decide ((s.size : Int) < 1) = true := decide_eq_true (by omega)
    clear e
    go_enter Try.func13, Try.ntmps13
    go_wp2
    all_goals
      go_ret
      exact ⟨rfl, rfl⟩
  have hp : 0 < s.size := by omega
  have n0 : decide ((s.size : Int) < 1) = false := decide_eq_false (by omega)
  by_cases h1 : s.size ≤ 64
  · have n1 : decide (64 < (s.size : Int)) = false := decide_eq_false (by omega)
    by_cases h2 : s[0].toNat = 46
    · have e : Nm.role s = false := by unfold Nm.role; rw [Uf.b_at s 0 hp, h2]; simp
      rw [e]
      clear e
      go_enter Try.func13, Try.ntmps13
      go_wp2
      all_goals
        go_ret
        exact ⟨rfl, rfl⟩
    · have hr : Hid (Nm.role s = Nm.partTo s s.size) := by
        show _ = _
        unfold Nm.role
        rw [Uf.b_at s 0 hp, decide_eq_true h1, decide_eq_true (show 1 ≤ s.size by omega), beq_eq_false_iff_ne.2 h2]; rfl
      have n2 : ((s[0].toNat : Int) == 46) = false := by rw [beq_eq_false_iff_ne]; omega
      go_enter Try.func13, Try.ntmps13
      go_wp2
      go_loop [3] (fun c => ∃ k : Nat, k ≤ s.size ∧ c = .int .i64 k ∧ Hid (Nm.partTo s k = true)) (fun c => s.size - (intOf c).toNat)
      case atStart => exact ⟨0, Nat.zero_le _, rfl, rfl⟩
      case round =>
        obtain ⟨k, hk, rfl, ht⟩ := hrel
        by_cases hlt : k < s.size
        · have hc := s[k].toNat_lt
          cases hd : Nm.part (Uf.b s k) with
          | false =>
            have hn := Lib.hid (hr.out.trans (Nm.partTo_no s s.size k hlt hd))
            rw [Uf.b_at s k hlt] at hd
            have hd' := Lib.hid hd
            clear hd
            go_wp2_with (go_at_call 28; refine (rpart_any _ _ hc).mono ?_; rintro e w' ⟨rfl, rfl⟩; rw [hd'.out])
            go_ret
            exact ⟨ret_b hn.out.symm, rfl⟩
          | true =>
            have hn : Hid (Nm.partTo s (k + 1) = true) := by show _ = _; rw [Nm.partTo, ht.out, hd]; rfl
            rw [Uf.b_at s k hlt] at hd
            have hd' := Lib.hid hd
            clear hd
            go_wp2_with (go_at_call 28; refine (rpart_any _ _ hc).mono ?_; rintro e w' ⟨rfl, rfl⟩; rw [hd'.out])
            go_round
            case rel => exact ⟨k + 1, by omega, by go_num, hn⟩
            case measure => simp [intOf]; omega
        · go_wp2
          go_ret
          have : k = s.size := by omega
          subst this
          exact ⟨ret_b (hr.out.trans ht.out).symm, rfl⟩
  · have e : Nm.role s = false := by unfold Nm.role; rw [decide_eq_false h1]; simp
    have n1 : decide (64 < (s.size : Int)) = true := decide_eq_true (by omega)
    rw [e]
    clear e
    go_enter Try.func13, Try.ntmps13
    go_wp2
    all_goals
      go_ret
      exact ⟨rfl, rfl⟩

set_option maxHeartbeats 400000 in
theorem path_any (s : ByteArray) (w : World) (hs : s.size ≤ maxLen) :
    Calls Try.prog 14 #[.string s] w fun e w' => e = .returned (.bool (Nm.path s)) ∧ Below w.heap.size w w' := by
  have hs' := hs
  unfold maxLen at hs
  by_cases h0 : s.size = 0
  · have e : Nm.path s = false := by unfold Nm.path; rw [h0]; rfl
    rw [e]
    obtain ⟨e1, e2⟩ := empty_of_size h0
    clear e
    go_enter Try.func14, Try.ntmps14
    go_wp2
    all_goals
      go_ret
      exact ⟨rfl, Below.refl _ _⟩
  have hp : 0 < s.size := by omega
  obtain ⟨e1, e2⟩ := full_of_size h0
  by_cases h1 : s.size ≤ 256
  · by_cases h2 : s[0].toNat = 47
    · have e : Nm.path s = false := by unfold Nm.path; rw [Uf.b_at s 0 hp, h2]; simp
      rw [e]
      clear e
      go_enter Try.func14, Try.ntmps14
      go_wp2
      all_goals
        go_ret
        exact ⟨rfl, Below.refl _ _⟩
    · have hr : Hid (Nm.path s = Uf.valid s) := by
        show _ = _
        unfold Nm.path
        rw [Uf.b_at s 0 hp, decide_eq_true h1, decide_eq_true (show 1 ≤ s.size by omega), beq_eq_false_iff_ne.2 h2]; rfl
      have n2 : ((s[0].toNat : Int) != 47) = true := by rw [bne_iff_ne]; omega
      have n1 : decide ((s.size : Int) ≤ 256) = true := decide_eq_true (by omega)
      go_enter Try.func14, Try.ntmps14
      go_wp2_with (go_at_call 24; refine (valid_any _ _ hs').mono ?_; rintro e w1 ⟨rfl, hb⟩)
      all_goals
        go_ret
        exact ⟨ret_b hr.out.symm, hb⟩
  · have e : Nm.path s = false := by unfold Nm.path; rw [decide_eq_false h1]; simp
    rw [e]
    clear e
    go_enter Try.func14, Try.ntmps14
    go_wp2
    all_goals
      go_ret
      exact ⟨rfl, Below.refl _ _⟩
theorem pattern_any (s : ByteArray) (w : World) (hs : s.size ≤ maxLen) :
    Calls Try.prog 16 #[.string s] w fun e w' => e = .returned (.bool (Nm.path s)) ∧ Below w.heap.size w w' := by
  go_enter Try.func16, Try.ntmps16
  go_wp2_with fail
  refine (path_any s _ hs).mono ?_
  rintro e w1 ⟨rfl, hb1⟩
  go_wp2_with fail
  go_ret
  exact ⟨rfl, hb1⟩
set_option maxHeartbeats 400000 in
theorem rpath_any (s : ByteArray) (w : World) (hs : s.size ≤ 1000000) :
    Calls Try.prog 15 #[.string s] w fun e w' => e = .returned (.bool (Nm.path s)) ∧ Below w.heap.size w w' := by
  have hs' := hs
  by_cases h0 : s.size = 0
  · have e : Nm.path s = false := by unfold Nm.path; rw [h0]; rfl
    rw [e]
    have n1 : decide ((s.size : Int) < 1) = true := decide_eq_true (by omega)
    clear e
    go_enter Try.func15, Try.ntmps15
    go_wp2
    all_goals
      go_ret
      exact ⟨rfl, Below.refl _ _⟩
  have hp : 0 < s.size := by omega
  have n0 : decide ((s.size : Int) < 1) = false := decide_eq_false (by omega)
  by_cases h1 : s.size ≤ 256
  · have n1 : decide (256 < (s.size : Int)) = false := decide_eq_false (by omega)
    by_cases h2 : s[0].toNat = 47
    · have e : Nm.path s = false := by unfold Nm.path; rw [Uf.b_at s 0 hp, h2]; simp
      rw [e]
      clear e
      go_enter Try.func15, Try.ntmps15
      go_wp2
      all_goals
        go_ret
        exact ⟨rfl, Below.refl _ _⟩
    · have hr : Hid (Nm.path s = Uf.valid s) := by
        show _ = _
        unfold Nm.path
        rw [Uf.b_at s 0 hp, decide_eq_true h1, decide_eq_true (show 1 ≤ s.size by omega), beq_eq_false_iff_ne.2 h2]; rfl
      have n2 : ((s[0].toNat : Int) == 47) = false := by rw [beq_eq_false_iff_ne]; omega
      go_enter Try.func15, Try.ntmps15
      go_wp2_with (go_at_call 29; refine (rlen_any _ _ hs').mono ?_; rintro e w1 ⟨rfl, hb⟩)
      all_goals
        go_ret
        exact ⟨ret_b hr.out.symm, hb⟩
  · have e : Nm.path s = false := by unfold Nm.path; rw [decide_eq_false h1]; simp
    have n1 : decide (256 < (s.size : Int)) = true := decide_eq_true (by omega)
    rw [e]
    clear e
    go_enter Try.func15, Try.ntmps15
    go_wp2
    all_goals
      go_ret
      exact ⟨rfl, Below.refl _ _⟩

theorem top_any (s : ByteArray) (w : World) :
    Calls Try.prog 17 #[.string s] w fun e w' => e = .returned (.bool (Nm.top s)) ∧ w = w' := by
  go_enter Try.func17, Try.ntmps17
  go_wp2
  all_goals
    go_ret
    refine ⟨ret_b ?_, rfl⟩
    simp_all [Nm.top, Nm.rootB, Nm.snapB, Nm.targB]
theorem rtop_any (s : ByteArray) (w : World) :
    Calls Try.prog 18 #[.string s] w fun e w' => e = .returned (.bool (Nm.top s)) ∧ w = w' := by
  go_enter Try.func18, Try.ntmps18
  go_wp2
  all_goals
    go_ret
    refine ⟨ret_b ?_, rfl⟩
    simp_all [Nm.top, Nm.rootB, Nm.snapB, Nm.targB]

theorem file_any (s : ByteArray) (w : World) (hs : s.size ≤ 1000000) :
    Calls Try.prog 19 #[.string s] w fun e w' => e = .returned (.tuple #[.string (Nm.fileS s), .int .i64 (Nm.fileE s)]) ∧ w = w' := by
  have hm : s.size ≤ maxLen := by unfold maxLen; omega
  cases hr : Nm.role s with
  | false =>
    have e1 : Hid (Nm.fileS s = ByteArray.empty) := by show _ = _; unfold Nm.fileS; rw [hr]; rfl
    have e2 : Hid (Nm.fileE s = 3) := by show _ = _; unfold Nm.fileE; rw [hr]; rfl
    go_enter Try.func19, Try.ntmps19
    go_wp2_with (go_at_call 12; refine (role_any _ _ hm).mono ?_; rintro e w' ⟨rfl, rfl⟩; rw [hr])
    go_ret2
    exact ⟨ret_si e1.out.symm e2.out.symm, rfl⟩
  | true =>
    have e1 : Hid (Nm.fileS s = s ++ Nm.sufB) := by show _ = _; unfold Nm.fileS; rw [hr]; rfl
    have e2 : Hid (Nm.fileE s = 0) := by show _ = _; unfold Nm.fileE; rw [hr]; rfl
    go_enter Try.func19, Try.ntmps19
    go_wp2_with (go_at_call 12; refine (role_any _ _ hm).mono ?_; rintro e w' ⟨rfl, rfl⟩; rw [hr])
    go_ret2
    exact ⟨ret_si e1.out.symm e2.out.symm, rfl⟩
theorem rfile_any (s : ByteArray) (w : World) (hs : s.size ≤ 1000000) :
    Calls Try.prog 20 #[.string s] w fun e w' => e = .returned (.tuple #[.string (Nm.fileS s), .int .i64 (Nm.fileE s)]) ∧ w = w' := by
  have hm : s.size ≤ maxLen := by unfold maxLen; omega
  cases hr : Nm.role s with
  | false =>
    have e1 : Hid (Nm.fileS s = ByteArray.empty) := by show _ = _; unfold Nm.fileS; rw [hr]; rfl
    have e2 : Hid (Nm.fileE s = 3) := by show _ = _; unfold Nm.fileE; rw [hr]; rfl
    go_enter Try.func20, Try.ntmps20
    go_wp2_with (go_at_call 13; refine (rrole_any _ _ hm).mono ?_; rintro e w' ⟨rfl, rfl⟩; rw [hr])
    go_ret2
    exact ⟨ret_si e1.out.symm e2.out.symm, rfl⟩
  | true =>
    have e1 : Hid (Nm.fileS s = s ++ Nm.sufB) := by show _ = _; unfold Nm.fileS; rw [hr]; rfl
    have e2 : Hid (Nm.fileE s = 0) := by show _ = _; unfold Nm.fileE; rw [hr]; rfl
    go_enter Try.func20, Try.ntmps20
    go_wp2_with (go_at_call 13; refine (rrole_any _ _ hm).mono ?_; rintro e w' ⟨rfl, rfl⟩; rw [hr])
    go_ret2
    exact ⟨ret_si e1.out.symm e2.out.symm, rfl⟩

set_option maxHeartbeats 400000 in
theorem hasSuffix_any (s : ByteArray) (w : World) (hs : s.size ≤ 1000000) :
    Calls Try.prog 36 #[.string s, .string ⟨#[46, 106, 115, 111, 110]⟩] w fun e w' => e = .returned (.bool (Nm.hasSuf s)) ∧ w = w' := by
  by_cases h : 5 ≤ s.size
  · have e : Hid (Nm.hasSuf s = ((s.extract (s.size - 5) s.size).toList == [46, 106, 115, 111, 110])) := by
      show _ = _
      unfold Nm.hasSuf
      rw [decide_eq_true h, Bool.true_and, show Nm.sufB.toList = [46, 106, 115, 111, 110] by rw [ByteArray.toList_eq]; rfl]
    go_enter Try.func36, Try.ntmps36
    go_wp2
    go_ret
    exact ⟨ret_b e.out.symm, rfl⟩
  · have e : Hid (Nm.hasSuf s = false) := by show _ = _; unfold Nm.hasSuf; rw [decide_eq_false h]; rfl
    go_enter Try.func36, Try.ntmps36
    go_wp2
    go_ret
    exact ⟨ret_b e.out.symm, rfl⟩
set_option maxHeartbeats 400000 in
theorem cutSuffix0_any (s : ByteArray) (w : World) (hs : s.size ≤ 1000000) :
    Calls Try.prog 33 #[.string s, .string ⟨#[46, 106, 115, 111, 110]⟩] w fun e w' => e = .returned (.tuple #[.string (if Nm.hasSuf s then Nm.cut s else s), .bool (Nm.hasSuf s)]) ∧ w = w' := by
  cases hr : Nm.hasSuf s with
  | false =>
    have hr' := Lib.hid hr
    clear hr
    go_enter Try.func33, Try.ntmps33
    go_wp2_with (go_at_call 36; refine (hasSuffix_any _ _ hs).mono ?_; rintro e w' ⟨rfl, rfl⟩; rw [hr'.out])
    go_ret2
    exact ⟨rfl, rfl⟩
  | true =>
    have h5 : 5 ≤ s.size := by unfold Nm.hasSuf at hr; rw [Bool.and_eq_true, decide_eq_true_eq] at hr; exact hr.1
    have hr' := Lib.hid hr
    clear hr
    go_enter Try.func33, Try.ntmps33
    go_wp2_with (go_at_call 36; refine (hasSuffix_any _ _ hs).mono ?_; rintro e w' ⟨rfl, rfl⟩; rw [hr'.out])
    go_ret2
    exact ⟨rfl, rfl⟩
theorem cutSuffix_any (s : ByteArray) (w : World) (hs : s.size ≤ 1000000) :
    Calls Try.prog 30 #[.string s, .string ⟨#[46, 106, 115, 111, 110]⟩] w fun e w' => e = .returned (.tuple #[.string (if Nm.hasSuf s then Nm.cut s else s), .bool (Nm.hasSuf s)]) ∧ w = w' := by
  generalize hv : (if Nm.hasSuf s then Nm.cut s else s) = V
  have hv' := Lib.hid hv
  clear hv
  go_enter Try.func30, Try.ntmps30
  go_wp2_with (go_at_call 33; refine (cutSuffix0_any _ _ hs).mono ?_; rintro e w' ⟨rfl, rfl⟩; rw [hv'.out])
  go_ret2
  exact ⟨rfl, rfl⟩
set_option maxHeartbeats 400000 in
theorem roleOf_any (s : ByteArray) (w : World) (hs : s.size ≤ 1000000) :
    Calls Try.prog 21 #[.string s] w fun e w' => e = .returned (.tuple #[.string (Nm.roleS s), .int .i64 (Nm.roleE s)]) ∧ w = w' := by
  have hc : (Nm.cut s).size ≤ maxLen := by unfold Nm.cut maxLen; rw [ByteArray.size_extract]; omega
  cases h1 : Nm.hasSuf s with
  | false =>
    have e0 : Nm.isFile s = false := by unfold Nm.isFile; rw [h1]; rfl
    have e1 : Hid (Nm.roleS s = ByteArray.empty) := by show _ = _; unfold Nm.roleS; rw [e0]; rfl
    have e2 : Hid (Nm.roleE s = 3) := by show _ = _; unfold Nm.roleE; rw [e0]; rfl
    have e3 : Hid ((if Nm.hasSuf s then Nm.cut s else s) = s) := by show _ = _; rw [h1]; rfl
    have e4 := Lib.hid h1
    clear e0 h1
    go_enter Try.func21, Try.ntmps21
    go_wp2_with (go_at_call 30; refine (cutSuffix_any _ _ hs).mono ?_; rintro e w' ⟨rfl, rfl⟩; rw [e3.out, e4.out])
    go_ret2
    exact ⟨ret_si e1.out.symm e2.out.symm, rfl⟩
  | true =>
    have e3 : Hid ((if Nm.hasSuf s then Nm.cut s else s) = Nm.cut s) := by show _ = _; rw [h1]; rfl
    have e4 := Lib.hid h1
    cases h2 : Nm.role (Nm.cut s) with
    | false =>
      have e0 : Nm.isFile s = false := by unfold Nm.isFile; rw [h1, h2]; rfl
      have e1 : Hid (Nm.roleS s = ByteArray.empty) := by show _ = _; unfold Nm.roleS; rw [e0]; rfl
      have e2 : Hid (Nm.roleE s = 3) := by show _ = _; unfold Nm.roleE; rw [e0]; rfl
      have e5 := Lib.hid h2
      clear e0 h1 h2
      go_enter Try.func21, Try.ntmps21
      go_wp2_with (first | (go_at_call 30; refine (cutSuffix_any _ _ hs).mono ?_; rintro e w' ⟨rfl, rfl⟩; rw [e3.out, e4.out]) | (go_at_call 12; refine (role_any _ _ hc).mono ?_; rintro e w' ⟨rfl, rfl⟩; rw [e5.out]))
      go_ret2
      exact ⟨ret_si e1.out.symm e2.out.symm, rfl⟩
    | true =>
      have e0 : Nm.isFile s = true := by unfold Nm.isFile; rw [h1, h2]; rfl
      have e1 : Hid (Nm.roleS s = Nm.cut s) := by show _ = _; unfold Nm.roleS; rw [e0]; rfl
      have e2 : Hid (Nm.roleE s = 0) := by show _ = _; unfold Nm.roleE; rw [e0]; rfl
      have e5 := Lib.hid h2
      clear e0 h1 h2
      go_enter Try.func21, Try.ntmps21
      go_wp2_with (first | (go_at_call 30; refine (cutSuffix_any _ _ hs).mono ?_; rintro e w' ⟨rfl, rfl⟩; rw [e3.out, e4.out]) | (go_at_call 12; refine (role_any _ _ hc).mono ?_; rintro e w' ⟨rfl, rfl⟩; rw [e5.out]))
      go_ret2
      exact ⟨ret_si e1.out.symm e2.out.symm, rfl⟩
set_option maxHeartbeats 400000 in
theorem rroleOf_any (s : ByteArray) (w : World) (hs : s.size ≤ 1000000) :
    Calls Try.prog 22 #[.string s] w fun e w' => e = .returned (.tuple #[.string (Nm.roleS s), .int .i64 (Nm.roleE s)]) ∧ w = w' := by
  have hc : (Nm.cut s).size ≤ maxLen := by unfold Nm.cut maxLen; rw [ByteArray.size_extract]; omega
  by_cases h0 : s.size < 6
  · have e0 : Nm.isFile s = false := by
      cases h : Nm.isFile s with
      | false => rfl
      | true =>
        unfold Nm.isFile at h
        rw [Bool.and_eq_true] at h
        have := h.2
        unfold Nm.role at this
        rw [Bool.and_eq_true, Bool.and_eq_true, Bool.and_eq_true, decide_eq_true_eq] at this
        unfold Nm.cut at this
        rw [ByteArray.size_extract] at this
        omega
    have e1 : Hid (Nm.roleS s = ByteArray.empty) := by show _ = _; unfold Nm.roleS; rw [e0]; rfl
    have e2 : Hid (Nm.roleE s = 3) := by show _ = _; unfold Nm.roleE; rw [e0]; rfl
    have n1 : decide ((s.size : Int) - 5 < 1) = true := decide_eq_true (by omega)
    clear e0
    go_enter Try.func22, Try.ntmps22
    go_wp2
    go_ret2
    exact ⟨ret_si e1.out.symm e2.out.symm, rfl⟩
  have n1 : decide ((s.size : Int) - 5 < 1) = false := decide_eq_false (by omega)
  have h5 : 5 ≤ s.size := by omega
  have hx : Hid (s.extract 0 (s.size - 5) = Nm.cut s) := rfl
  cases h1 : Nm.hasSuf s with
  | false =>
    have e0 : Nm.isFile s = false := by unfold Nm.isFile; rw [h1]; rfl
    have e1 : Hid (Nm.roleS s = ByteArray.empty) := by show _ = _; unfold Nm.roleS; rw [e0]; rfl
    have e2 : Hid (Nm.roleE s = 3) := by show _ = _; unfold Nm.roleE; rw [e0]; rfl
    have e4 : ¬ (s.extract (s.size - 5) s.size).toList = [46, 106, 115, 111, 110] := by
      intro h
      unfold Nm.hasSuf at h1
      rw [decide_eq_true h5, Bool.true_and, show Nm.sufB.toList = [46, 106, 115, 111, 110] by rw [ByteArray.toList_eq]; rfl, h] at h1
      cases h1
    clear e0 h1
    go_enter Try.func22, Try.ntmps22
    go_wp2
    all_goals
      go_ret2
      exact ⟨ret_si e1.out.symm e2.out.symm, rfl⟩
  | true =>
    have e4 : (s.extract (s.size - 5) s.size).toList = [46, 106, 115, 111, 110] := by
      unfold Nm.hasSuf at h1
      rw [decide_eq_true h5, Bool.true_and, show Nm.sufB.toList = [46, 106, 115, 111, 110] by rw [ByteArray.toList_eq]; rfl, beq_iff_eq] at h1
      exact h1
    cases h2 : Nm.role (Nm.cut s) with
    | false =>
      have e0 : Nm.isFile s = false := by unfold Nm.isFile; rw [h1, h2]; rfl
      have e1 : Hid (Nm.roleS s = ByteArray.empty) := by show _ = _; unfold Nm.roleS; rw [e0]; rfl
      have e2 : Hid (Nm.roleE s = 3) := by show _ = _; unfold Nm.roleE; rw [e0]; rfl
      have e5 := Lib.hid h2
      clear e0 h1 h2
      go_enter Try.func22, Try.ntmps22
      go_wp2_with (go_at_call 13; refine (rrole_any (Nm.cut s) _ hc).mono ?_; rintro e w' ⟨rfl, rfl⟩; rw [e5.out])
      go_ret2
      exact ⟨ret_si e1.out.symm e2.out.symm, rfl⟩
    | true =>
      have e0 : Nm.isFile s = true := by unfold Nm.isFile; rw [h1, h2]; rfl
      have e1 : Hid (Nm.roleS s = Nm.cut s) := by show _ = _; unfold Nm.roleS; rw [e0]; rfl
      have e2 : Hid (Nm.roleE s = 0) := by show _ = _; unfold Nm.roleE; rw [e0]; rfl
      have e5 := Lib.hid h2
      clear e0 h1 h2
      go_enter Try.func22, Try.ntmps22
      go_wp2_with (go_at_call 13; refine (rrole_any (Nm.cut s) _ hc).mono ?_; rintro e w' ⟨rfl, rfl⟩; rw [e5.out])
      go_ret2
      exact ⟨ret_si e1.out.symm e2.out.symm, rfl⟩
end Go.Proofs.Ytdfbcobicjklhaa
