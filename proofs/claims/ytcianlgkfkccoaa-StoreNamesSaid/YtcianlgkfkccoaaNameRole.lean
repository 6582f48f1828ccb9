/-
  The walk of the reference's Role of a name.
-/
import Derived.Test.YtcianlgkfkccoaaNameFns
namespace Go.Proofs.Ytcianlgkfkccoaa
set_option linter.unusedSimpArgs false
set_option linter.unusedVariables false
open Go Go.RowKit

set_option maxRecDepth 20000 in
set_option maxHeartbeats 400000 in
theorem rrole_any (s : ByteArray) (w : World) (hs : s.size ≤ maxLen) :
    Calls Try.prog 28 #[.string s] w fun e w' => e = .returned (.bool (Nm.role s)) ∧ w = w' := by
  unfold maxLen at hs
  by_cases h0 : s.size = 0
  · have e : Nm.role s = false := by unfold Nm.role; rw [h0]; rfl
    rw [e]
    have n1 : decide ((s.size : Int) < 1) = true := decide_eq_true (by omega)
    clear e
    go_enter Try.func28, Try.ntmps28
    go_wp2
    all_goals
      go_ret
      exact ⟨rfl, rfl⟩
  have hp : 0 < s.size := by omega
  have n0 : decide ((s.size : Int) < 1) = false := decide_eq_false (by omega)
  by_cases h1 : s.size ≤ 64
  · have n1 : decide (64 < (s.size : Int)) = false := decide_eq_false (by omega)
    by_cases h2 : s[0].toNat = 46
    · have e : Nm.role s = false := by unfold Nm.role; rw [Uf.b_at s 0 hp, h2]; simp
      rw [e]
      clear e
      go_enter Try.func28, Try.ntmps28
      go_wp2
      all_goals
        go_ret
        exact ⟨rfl, rfl⟩
    · have hr : Hid (Nm.role s = Nm.partTo s s.size) := by
        show _ = _
        unfold Nm.role
        rw [Uf.b_at s 0 hp, decide_eq_true h1, decide_eq_true (show 1 ≤ s.size by omega), beq_eq_false_iff_ne.2 h2]; rfl
      have n2 : ((s[0].toNat : Int) == 46) = false := by rw [beq_eq_false_iff_ne]; omega
      go_enter Try.func28, Try.ntmps28
      go_wp2
      go_loop [3] (fun c => ∃ k : Nat, k ≤ s.size ∧ c = .int .i64 k ∧ Hid (Nm.partTo s k = true)) (fun c => s.size - (intOf c).toNat)
      case atStart => exact ⟨0, Nat.zero_le _, rfl, rfl⟩
      case round =>
        obtain ⟨k, hk, rfl, ht⟩ := hrel
        by_cases hlt : k < s.size
        · have hc := s[k].toNat_lt
          cases hd : Nm.part (Uf.b s k) with
          | false =>
            have hn := Lib.hid (hr.out.trans (Nm.partTo_no s s.size k hlt hd))
            rw [Uf.b_at s k hlt] at hd
            have hd' := Lib.hid hd
            clear hd
            go_wp2_with (go_at_call 34; refine (rpart_any _ _ hc).mono ?_; rintro e w' ⟨rfl, rfl⟩; rw [hd'.out])
            go_ret
            exact ⟨ret_b hn.out.symm, rfl⟩
          | true =>
            have hn : Hid (Nm.partTo s (k + 1) = true) := by show _ = _; rw [Nm.partTo, ht.out, hd]; rfl
            rw [Uf.b_at s k hlt] at hd
            have hd' := Lib.hid hd
            clear hd
            go_wp2_with (go_at_call 34; refine (rpart_any _ _ hc).mono ?_; rintro e w' ⟨rfl, rfl⟩; rw [hd'.out])
            go_round
            case rel => exact ⟨k + 1, by omega, by go_num, hn⟩
            case measure => simp [intOf]; omega
        · go_wp2
          go_ret
          have : k = s.size := by omega
          subst this
          exact ⟨ret_b (hr.out.trans ht.out).symm, rfl⟩
  · have e : Nm.role s = false := by unfold Nm.role; rw [decide_eq_false h1]; simp
    have n1 : decide (64 < (s.size : Int)) = true := decide_eq_true (by omega)
    rw [e]
    clear e
    go_enter Try.func28, Try.ntmps28
    go_wp2
    all_goals
      go_ret
      exact ⟨rfl, rfl⟩

end Go.Proofs.Ytcianlgkfkccoaa
