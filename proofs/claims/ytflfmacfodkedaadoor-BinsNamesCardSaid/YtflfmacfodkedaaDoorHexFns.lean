/-
  The walks of package hex: Digit, Is, Number.
-/
import Derived.Test.YtflfmacfodkedaaDoorBase
import Derived.Test.YtflfmacfodkedaaDoorHexPlain
namespace Go.Proofs.YtflfmacfodkedaaDoor
set_option linter.unusedSimpArgs false
set_option linter.unusedVariables false
open Go.RowKit

set_option maxRecDepth 20000 in
set_option maxHeartbeats 400000 in
theorem digit_any (s : ByteArray) (i : Int) (w : World) (hs : s.size ≤ maxLen) :
    Calls Tryd.prog 30 #[.string s, .int .i64 i] w fun e w' => e = .returned (.tuple #[.int .i64 (Hx.dgV s i), .bool (Hx.dgB s i)]) ∧ w = w' := by
  unfold maxLen at hs
  by_cases h0 : i < 0
  · obtain ⟨e1, e2⟩ := Hx.dg_out s i (.inl h0)
    rw [e1, e2]; clear e1 e2
    go_enter Tryd.func30, Tryd.ntmps30
    go_wp2
    go_ret2
    exact ⟨rfl, rfl⟩
  · by_cases h1 : (s.size : Int) ≤ i
    · obtain ⟨e1, e2⟩ := Hx.dg_out s i (.inr h1)
      rw [e1, e2]; clear e1 e2
      go_enter Tryd.func30, Tryd.ntmps30
      go_wp2
      go_ret2
      exact ⟨rfl, rfl⟩
    · obtain ⟨k, rfl⟩ := Int.eq_ofNat_of_zero_le (Int.not_lt.1 h0)
      have hk : k < s.size := by omega
      have hb := s[k].toNat_lt
      clear h0 h1
      go_enter Tryd.func30, Tryd.ntmps30
      go_wp2
      · go_ret2
        have e := Hx.val_dec s[k] (by assumption) (by assumption)
        obtain ⟨e1, e2⟩ := Hx.dg_yes s k hk (by omega)
        exact ⟨ret_ib (by rw [e2, e]) (by rw [e1]), rfl⟩
      · go_ret2
        have e := Hx.val_hex s[k] (by assumption) (by assumption)
        obtain ⟨e1, e2⟩ := Hx.dg_yes s k hk (by omega)
        exact ⟨ret_ib (by rw [e2, e]; omega) (by rw [e1]), rfl⟩
      all_goals
        go_ret2
        have e := Hx.val_none s[k] (by omega) (by omega)
        obtain ⟨e1, e2⟩ := Hx.dg_no s k hk e
        exact ⟨ret_ib (by rw [e2]) (by rw [e1]), rfl⟩

set_option maxRecDepth 20000 in
set_option maxHeartbeats 400000 in
theorem is_any (s : ByteArray) (w : World) (hs : s.size ≤ maxLen) :
    Calls Tryd.prog 35 #[.string s] w fun e w' => e = .returned (.bool (Hx.isHex s)) ∧ w = w' := by
  have hs' := hs
  unfold maxLen at hs
  go_enter Tryd.func35, Tryd.ntmps35
  go_wp2
  go_loop [8] (fun c => ∃ k : Nat, k ≤ s.size ∧ c = .int .i64 k ∧ Hid (Hx.isTo s k = true)) (fun c => s.size - (intOf c).toNat)
  case atStart => exact ⟨0, Nat.zero_le _, rfl, rfl⟩
  case round =>
    obtain ⟨k, hk, rfl, ht⟩ := hrel
    by_cases hlt : k < s.size
    · cases hd : Hx.dgB s k with
      | false =>
        have hn := Lib.hid (Hx.isHex_no s k hlt hd)
        go_wp2_with (go_at_call 30; refine (digit_any _ _ _ hs').mono ?_; rintro e w' ⟨rfl, rfl⟩)
        go_ret
        exact ⟨ret_b hn.out.symm, rfl⟩
      | true =>
        have hn := Lib.hid hd
        go_wp2_with (go_at_call 30; refine (digit_any _ _ _ hs').mono ?_; rintro e w' ⟨rfl, rfl⟩)
        go_round
        case rel => exact ⟨k + 1, by omega, by go_num, by show _ = true; simp only [Hx.isTo, ht.out, hn.out, Bool.and_self]⟩
        case measure => simp [intOf]; omega
    · go_wp2
      go_ret
      have : k = s.size := by omega
      subst this
      exact ⟨ret_b ht.out.symm, rfl⟩
end Go.Proofs.YtflfmacfodkedaaDoor
