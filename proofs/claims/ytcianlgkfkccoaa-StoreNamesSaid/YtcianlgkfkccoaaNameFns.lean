/-
  The walks of package name, and of the reference beside it: a byte, Role.
-/
import Derived.Test.YtcianlgkfkccoaaBase
import Derived.Test.YtcianlgkfkccoaaName
namespace Go.Proofs.Ytcianlgkfkccoaa
set_option linter.unusedSimpArgs false
set_option linter.unusedVariables false
open Go Go.RowKit

set_option maxRecDepth 20000 in
set_option maxHeartbeats 400000 in
theorem allowed_any (c : Nat) (w : World) (hc : c < 256) :
    Calls Try.prog 33 #[.int .u8 c] w fun e w' => e = .returned (.bool (Nm.part c)) ∧ w = w' := by
  go_enter Try.func33, Try.ntmps33
  go_wp2
  all_goals
    go_ret
    refine ⟨ret_b ?_, rfl⟩
    unfold Nm.part
    rw [Bool.eq_iff_iff]
    simp only [Bool.or_eq_true, Bool.and_eq_true, decide_eq_true_eq, beq_iff_eq, eq_self, true_iff, iff_true, reduceCtorEq]
    omega
set_option maxRecDepth 20000 in
set_option maxHeartbeats 400000 in
theorem rpart_any (c : Nat) (w : World) (hc : c < 256) :
    Calls Try.prog 34 #[.int .u8 c] w fun e w' => e = .returned (.bool (Nm.part c)) ∧ w = w' := by
  go_enter Try.func34, Try.ntmps34
  go_wp2
  all_goals
    go_ret
    refine ⟨ret_b ?_, rfl⟩
    unfold Nm.part
    rw [Bool.eq_iff_iff]
    simp only [Bool.or_eq_true, Bool.and_eq_true, decide_eq_true_eq, beq_iff_eq, eq_self, true_iff, iff_true, reduceCtorEq]
    omega
set_option maxRecDepth 20000 in
set_option maxHeartbeats 400000 in
theorem role_any (s : ByteArray) (w : World) (hs : s.size ≤ maxLen) :
    Calls Try.prog 26 #[.string s] w fun e w' => e = .returned (.bool (Nm.role s)) ∧ w = w' := by
  unfold maxLen at hs
  by_cases h0 : s.size = 0
  · have e : Nm.role s = false := by unfold Nm.role; rw [h0]; rfl
    rw [e]
    obtain ⟨e1, e2⟩ := empty_of_size h0
    clear e
    go_enter Try.func26, Try.ntmps26
    go_wp2
    all_goals
      go_ret
      exact ⟨rfl, rfl⟩
  obtain ⟨e1, e2⟩ := full_of_size h0
  have hp : 0 < s.size := by omega
  by_cases h1 : s.size ≤ 64
  · by_cases h2 : s[0].toNat = 46
    · have e : Nm.role s = false := by unfold Nm.role; rw [Uf.b_at s 0 hp, h2]; simp
      rw [e]
      clear e
      go_enter Try.func26, Try.ntmps26
      go_wp2
      all_goals
        go_ret
        exact ⟨rfl, rfl⟩
    · have hr : Hid (Nm.role s = Nm.partTo s s.size) := by
        show _ = _
        unfold Nm.role
        rw [Uf.b_at s 0 hp, decide_eq_true h1, decide_eq_true (show 1 ≤ s.size by omega), beq_eq_false_iff_ne.2 h2]; rfl
      have n1 : decide (64 < (s.size : Int)) = false := decide_eq_false (by omega)
      have n2 : ((s[0].toNat : Int) == 46) = false := by rw [beq_eq_false_iff_ne]; omega
      go_enter Try.func26, Try.ntmps26
      go_wp2
      go_loop [18] (fun c => ∃ k : Nat, k ≤ s.size ∧ c = .int .i64 k ∧ Hid (Nm.partTo s k = true)) (fun c => s.size - (intOf c).toNat)
      case atStart => exact ⟨0, Nat.zero_le _, rfl, rfl⟩
      case round =>
        obtain ⟨k, hk, rfl, ht⟩ := hrel
        by_cases hlt : k < s.size
        · have hc := s[k].toNat_lt
          cases hd : Nm.part (Uf.b s k) with
          | false =>
            have hn := Lib.hid (hr.out.trans (Nm.partTo_no s s.size k hlt hd))
            rw [Uf.b_at s k hlt] at hd
            have hd' := Lib.hid hd
            clear hd
            go_wp2_with (go_at_call 33; refine (allowed_any _ _ hc).mono ?_; rintro e w' ⟨rfl, rfl⟩; rw [hd'.out])
            go_ret
            exact ⟨ret_b hn.out.symm, rfl⟩
          | true =>
            have hn : Hid (Nm.partTo s (k + 1) = true) := by show _ = _; rw [Nm.partTo, ht.out, hd]; rfl
            rw [Uf.b_at s k hlt] at hd
            have hd' := Lib.hid hd
            clear hd
            go_wp2_with (go_at_call 33; refine (allowed_any _ _ hc).mono ?_; rintro e w' ⟨rfl, rfl⟩; rw [hd'.out])
            go_round
            case rel => exact ⟨k + 1, by omega, by go_num, hn⟩
            case measure => simp [intOf]; omega
        · go_wp2
          go_ret
          have : k = s.size := by omega
          subst this
          exact ⟨ret_b (hr.out.trans ht.out).symm, rfl⟩
  · have e : Nm.role s = false := by unfold Nm.role; rw [decide_eq_false h1]; simp
    rw [e]
    clear e
    go_enter Try.func26, Try.ntmps26
    go_wp2
    all_goals
      go_ret
      exact ⟨rfl, rfl⟩
end Go.Proofs.Ytcianlgkfkccoaa
