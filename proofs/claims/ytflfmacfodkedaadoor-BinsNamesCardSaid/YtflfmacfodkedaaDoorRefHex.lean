/-
  The walks of package legateref01: Value, Is, Digit, Number.
-/
import Derived.Test.YtflfmacfodkedaaDoorHexNum
namespace Go.Proofs.YtflfmacfodkedaaDoor
set_option linter.unusedSimpArgs false
set_option linter.unusedVariables false
open Go.RowKit

set_option maxRecDepth 20000 in
set_option maxHeartbeats 400000 in
theorem rvalue_any (c : UInt8) (w : World) :
    Calls Tryd.prog 52 #[.int .u8 (c.toNat : Int)] w fun e w' => e = .returned (.int .i64 (Hx.val c)) ∧ w = w' := by
  have hb := c.toNat_lt
  go_enter Tryd.func52, Tryd.ntmps52
  go_wp2
  · go_ret
    exact ⟨ret_i (by rw [Hx.val_dec c (by assumption) (by assumption)]), rfl⟩
  · go_ret
    exact ⟨ret_i (by rw [Hx.val_hex c (by assumption) (by assumption)]; omega), rfl⟩
  all_goals
    go_ret
    exact ⟨ret_i (by rw [Hx.val_none c (by omega) (by omega)]), rfl⟩

set_option maxRecDepth 20000 in
set_option maxHeartbeats 400000 in
theorem ris_any (s : ByteArray) (w : World) (hs : s.size ≤ maxLen) :
    Calls Tryd.prog 36 #[.string s] w fun e w' => e = .returned (.bool (Hx.isHex s)) ∧ w = w' := by
  unfold maxLen at hs
  go_enter Tryd.func36, Tryd.ntmps36
  go_wp2
  go_loop [3] (fun c => ∃ k : Nat, k ≤ s.size ∧ c = .int .i64 k ∧ Hid (Hx.isTo s k = true)) (fun c => s.size - (intOf c).toNat)
  case atStart => exact ⟨0, Nat.zero_le _, rfl, rfl⟩
  case round =>
    obtain ⟨k, hk, rfl, ht⟩ := hrel
    by_cases hlt : k < s.size
    · by_cases hv : 0 ≤ Hx.val s[k]
      · have hn := Lib.hid (Hx.dg_yes s k hlt hv).1
        go_wp2_with (go_at_call 52; refine (rvalue_any _ _).mono ?_; rintro e w' ⟨rfl, rfl⟩)
        go_round
        case rel => exact ⟨k + 1, by omega, by go_num, by show _ = true; simp only [Hx.isTo, ht.out, hn.out, Bool.and_self]⟩
        case measure => simp [intOf]; omega
      · have hr := Hx.val_range s[k]
        have hn := Lib.hid (Hx.isHex_no s k hlt (Hx.dg_no s k hlt (by omega)).1)
        go_wp2_with (go_at_call 52; refine (rvalue_any _ _).mono ?_; rintro e w' ⟨rfl, rfl⟩)
        go_ret
        exact ⟨ret_b hn.out.symm, rfl⟩
    · go_wp2
      go_ret
      have : k = s.size := by omega
      subst this
      exact ⟨ret_b ht.out.symm, rfl⟩

end Go.Proofs.YtflfmacfodkedaaDoor
