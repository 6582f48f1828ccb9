/-
  The statement NameJoined, walked: it returns true.
-/
import Derived.Test.YtdfbcobicjklhaaNameAwake
namespace Go.Proofs.Ytdfbcobicjklhaa
set_option linter.unusedSimpArgs false
set_option linter.unusedVariables false
open Go Go.RowKit

set_option maxHeartbeats 2000000 in
theorem nameJoined_walk (s t : ByteArray) (w : World) (hs : s.size ≤ maxLen) (ht : t.size ≤ maxLen) :
    Calls Try.prog 8 #[.string s, .string t] w fun e w' => e = .returned (.bool true) ∧ Below w.heap.size w w' := by
  have hB : Hid (Below w.heap.size w w) := Below.refl _ _
  by_cases h : 3000 < s.size
  · go_enter Try.func8, Try.ntmps8
    go_wp2_with fail
    refine (nawake_any _).mono ?_
    rintro e w1 ⟨rfl, hb1⟩
    replace hB := Lib.hid (keep_trans hB.out hb1)
    clear hb1
    go_wp2_with fail
    go_ret
    exact ⟨rfl, hB.out⟩
  by_cases h' : 3000 < t.size
  · go_enter Try.func8, Try.ntmps8
    go_wp2_with fail
    refine (nawake_any _).mono ?_
    rintro e w1 ⟨rfl, hb1⟩
    replace hB := Lib.hid (keep_trans hB.out hb1)
    clear hb1
    go_wp2_with fail
    go_ret
    exact ⟨rfl, hB.out⟩
  cases hr : Nm.role s with
  | false =>
    have e1 := Lib.hid hr
    clear hr
    go_enter Try.func8, Try.ntmps8
    go_wp2_with fail
    refine (nawake_any _).mono ?_
    rintro e w1 ⟨rfl, hb1⟩
    replace hB := Lib.hid (keep_trans hB.out hb1)
    clear hb1
    go_wp2_with fail
    refine (role_any s _ hs).mono ?_
    rintro e _ ⟨rfl, rfl⟩
    rw [e1.out]
    go_wp2_with fail
    go_ret
    exact ⟨rfl, hB.out⟩
  | true =>
    have e1 := Lib.hid hr
    have e2 := Nm.role_app s t hr
    have hst : (s ++ t).size ≤ maxLen := by rw [ByteArray.size_append]; unfold maxLen; omega
    have hsb : s.size ≤ 3000 := by omega
    have htb : t.size ≤ 3000 := by omega
    clear hr h h'
    go_enter Try.func8, Try.ntmps8
    go_wp2_with fail
    refine (nawake_any _).mono ?_
    rintro e w1 ⟨rfl, hb1⟩
    replace hB := Lib.hid (keep_trans hB.out hb1)
    clear hb1
    go_wp2_with fail
    refine (role_any s _ hs).mono ?_
    rintro e _ ⟨rfl, rfl⟩
    rw [e1.out]
    go_wp2_with fail
    go_loop [5, 6] (fun b i => ∃ k : Nat, k ≤ t.size ∧ i = .int .i64 k ∧ b = .bool (Nm.partTo t k)) (fun _ i => t.size - (intOf i).toNat)
    case atStart => exact ⟨0, Nat.zero_le _, rfl, rfl⟩
    case round =>
      obtain ⟨k, hk, rfl, rfl⟩ := hrel
      by_cases hlt : k < t.size
      · cases hb : Nm.partTo t k with
        | false =>
          have hn : Hid (Nm.partTo t (k + 1) = false) := by show _ = _; rw [Nm.partTo, hb]; rfl
          clear hb
          go_wp2_with fail
          go_round
          case rel => exact ⟨k + 1, by omega, by go_num, by rw [hn.out]⟩
          case measure => simp [intOf]; omega
        | true =>
          have hx : (t.extract k (k + 1)).size = 1 := by rw [ByteArray.size_extract]; omega
          have hy : ((⟨#[97]⟩ : ByteArray) ++ t.extract k (k + 1)).size ≤ maxLen := by rw [ByteArray.size_append, hx]; show 1 + 1 ≤ _; unfold maxLen; omega
          have e5 : Hid (Nm.role ((⟨#[97]⟩ : ByteArray) ++ t.extract k (k + 1)) = Nm.partTo t (k + 1)) := by
            show _ = _
            rw [Nm.partTo, hb, Bool.true_and, show (⟨#[97]⟩ : ByteArray) = Nm.aB from rfl, Nm.role_a _ hx, Uf.b_extract t k (k + 1) 0 (by omega) (by omega), Nat.add_zero]
          clear hb
          go_wp2_with fail
          refine (role_any _ _ hy).mono ?_
          rintro e _ ⟨rfl, rfl⟩
          rw [e5.out]
          go_wp2_with fail
          go_round
          case rel => exact ⟨k + 1, by omega, by go_num, rfl⟩
          case measure => simp [intOf]; omega
      · obtain rfl : k = t.size := by omega
        cases hb : Nm.partTo t t.size with
        | false =>
          rw [hb, Bool.false_and] at e2
          have e2 := Lib.hid e2
          go_wp2_with fail
          refine (role_any _ _ hst).mono ?_
          rintro e _ ⟨rfl, rfl⟩
          rw [e2.out]
          go_wp2_with fail
          go_ret
          exact ⟨rfl, hB.out⟩
        | true =>
          rw [hb, Bool.true_and] at e2
          by_cases hz : s.size + t.size ≤ 64
          · rw [decide_eq_true hz] at e2
            have e2 := Lib.hid e2
            have n1 : decide ((s.size : Int) + (t.size : Int) ≤ 64) = true := decide_eq_true (by omega)
            go_wp2_with fail
            refine (role_any _ _ hst).mono ?_
            rintro e _ ⟨rfl, rfl⟩
            rw [e2.out]
            go_wp2_with fail
            go_ret
            exact ⟨rfl, hB.out⟩
          · rw [decide_eq_false hz] at e2
            have e2 := Lib.hid e2
            have n1 : decide ((s.size : Int) + (t.size : Int) ≤ 64) = false := decide_eq_false (by omega)
            go_wp2_with fail
            refine (role_any _ _ hst).mono ?_
            rintro e _ ⟨rfl, rfl⟩
            rw [e2.out]
            go_wp2_with fail
            go_ret
            exact ⟨rfl, hB.out⟩
end Go.Proofs.Ytdfbcobicjklhaa
