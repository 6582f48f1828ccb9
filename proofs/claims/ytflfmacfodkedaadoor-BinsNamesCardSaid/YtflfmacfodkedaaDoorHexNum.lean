/-
  The walk of package hex: Number.
-/
import Derived.Test.YtflfmacfodkedaaDoorHexFns
namespace Go.Proofs.YtflfmacfodkedaaDoor
set_option linter.unusedSimpArgs false
set_option linter.unusedVariables false
open Go.RowKit

theorem or_digit (n : Nat) (d : Int) (hn : n < 1152921504606846976) (h0 : 0 ≤ d) (h1 : d ≤ 15) : bits .or .u64 ((n : Int) * 16) d = (n : Int) * 16 + d := by
  rw [u64_or _ _ (by omega) (by omega) h0 (by omega), nat_join 4 _ _ (by omega) (by omega)]
  omega

set_option maxRecDepth 20000 in
set_option maxHeartbeats 400000 in
theorem number_any (s : ByteArray) (w : World) (hs : s.size ≤ maxLen) :
    Calls Tryd.prog 32 #[.string s] w fun e w' => e = .returned (.tuple #[.int .u64 (Hx.num s), .int .i64 (Hx.numE s)]) ∧ w = w' := by
  have hs' := hs
  unfold maxLen at hs
  cases hh : Hx.isHex s with
  | false =>
    have hn : Hid (Hx.num s = 0 ∧ Hx.numE s = 3) := ⟨by simp [Hx.num, hh], by simp [Hx.numE, hh]⟩
    go_enter Tryd.func32, Tryd.ntmps32
    go_wp2_with (go_at_call 35; refine (is_any _ _ hs').mono ?_; rintro e w' ⟨rfl, rfl⟩)
    go_ret2
    exact ⟨ret_ii hn.out.1.symm hn.out.2.symm, rfl⟩
  | true =>
    by_cases h0 : s.size = 0
    · have hn : Hid (Hx.num s = 0 ∧ Hx.numE s = 4) := ⟨by simp [Hx.num, h0], by unfold Hx.numE; rw [hh, if_pos rfl, if_pos h0]⟩
      obtain ⟨he, he'⟩ := empty_of_size h0
      have H0 := Lib.hid h0
      clear h0
      go_enter Tryd.func32, Tryd.ntmps32
      go_wp2_with (go_at_call 35; refine (is_any _ _ hs').mono ?_; rintro e w' ⟨rfl, rfl⟩)
      go_ret2
      exact ⟨ret_ii hn.out.1.symm hn.out.2.symm, rfl⟩
    · obtain ⟨_, he⟩ := full_of_size h0
      by_cases h16 : 16 < s.size
      · have hn : Hid (Hx.num s = 0 ∧ Hx.numE s = 5) := ⟨by simp [Hx.num, show ¬ s.size ≤ 16 by omega], by unfold Hx.numE; rw [hh, if_pos rfl, if_neg h0, if_neg (by omega)]⟩
        have H0 := Lib.hid h0
        clear h0
        go_enter Tryd.func32, Tryd.ntmps32
        go_wp2_with (go_at_call 35; refine (is_any _ _ hs').mono ?_; rintro e w' ⟨rfl, rfl⟩)
        go_ret2
        exact ⟨ret_ii hn.out.1.symm hn.out.2.symm, rfl⟩
      · have hn : Hid (Hx.num s = (Hx.numTo s s.size : Nat) ∧ Hx.numE s = 0) := ⟨by simp [Hx.num, hh, h0, show s.size ≤ 16 by omega], by unfold Hx.numE; rw [hh, if_pos rfl, if_neg h0, if_pos (by omega)]⟩
        have H0 := Lib.hid h0
        clear h0
        go_enter Tryd.func32, Tryd.ntmps32
        go_wp2_with (go_at_call 35; refine (is_any _ _ hs').mono ?_; rintro e w' ⟨rfl, rfl⟩)
        go_loop [4, 18] (fun n c => ∃ k : Nat, k ≤ s.size ∧ c = .int .i64 k ∧ n = .int .u64 (Hx.numTo s k : Nat)) (fun _ c => s.size - (intOf c).toNat)
        case atStart => exact ⟨0, Nat.zero_le _, rfl, rfl⟩
        case round =>
          obtain ⟨k, hk, rfl, rfl⟩ := hrel
          by_cases hlt : k < s.size
          · have hr := Hx.dgV_range s k
            have h60 : Hx.numTo s k < 1152921504606846976 := Nat.lt_of_lt_of_le (Hx.numTo_lt s k) (Nat.pow_le_pow_right (by omega) (by omega : k ≤ 15))
            go_wp2_with (go_at_call 30; refine (digit_any _ _ _ hs').mono ?_; rintro e w' ⟨rfl, rfl⟩)
            go_round
            case rel =>
              refine ⟨k + 1, by omega, by go_num, ?_⟩
              rw [or_digit _ _ h60 hr.1 hr.2]
              simp only [Hx.numTo, Value.int.injEq, true_and]
              omega
            case measure => simp [intOf]; omega
          · go_wp2
            go_ret2
            have : k = s.size := by omega
            subst this
            exact ⟨ret_ii hn.out.1.symm hn.out.2.symm, rfl⟩
end Go.Proofs.YtflfmacfodkedaaDoor
