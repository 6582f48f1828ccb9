/-
  The walks of package legateref01: Value, Is, Digit, Number.
-/
import Derived.Test.YticilkbhcejmoaaDoorHexNum
namespace Go.Proofs.YticilkbhcejmoaaDoor
open Go.RowKit

set_option maxHeartbeats 400000 in
theorem rvalue_any (c : UInt8) (w : World) :
    Calls Tryd.prog 21 #[.int .u8 (c.toNat : Int)] w fun e w' => e = .returned (.int .i64 (Hx.val c)) ∧ w = w' := by
  have hb := c.toNat_lt
  go_enter Tryd.func21, Tryd.ntmps21
  go_wp2
  · go_ret
    exact ⟨ret_i (by rw [Hx.val_dec c (by assumption) (by assumption)]), rfl⟩
  · go_ret
    exact ⟨ret_i (by rw [Hx.val_hex c (by assumption) (by assumption)]; omega), rfl⟩
  all_goals
    go_ret
    exact ⟨ret_i (by rw [Hx.val_none c (by omega) (by omega)]), rfl⟩

set_option maxHeartbeats 400000 in
theorem ris_any (s : ByteArray) (w : World) (hs : s.size ≤ maxLen) :
    Calls Tryd.prog 18 #[.string s] w fun e w' => e = .returned (.bool (Hx.isHex s)) ∧ w = w' := by
  unfold maxLen at hs
  go_enter Tryd.func18, Tryd.ntmps18
  go_wp2
  go_loop [3] (fun c => ∃ k : Nat, k ≤ s.size ∧ c = .int .i64 k ∧ Hid (Hx.isTo s k = true)) (fun c => s.size - (intOf c).toNat)
  case atStart => exact ⟨0, Nat.zero_le _, rfl, rfl⟩
  case round =>
    obtain ⟨k, hk, rfl, ht⟩ := hrel
    by_cases hlt : k < s.size
    · by_cases hv : 0 ≤ Hx.val s[k]
      · have hn := Lib.hid (Hx.dg_yes s k hlt hv).1
        go_wp2_with (go_at_call 21; refine (rvalue_any _ _).mono ?_; rintro e w' ⟨rfl, rfl⟩)
        go_round
        case rel => exact ⟨k + 1, by omega, by go_num, by show _ = true; simp only [Hx.isTo, ht.out, hn.out, Bool.and_self]⟩
        case measure => simp [intOf]; omega
      · have hr := Hx.val_range s[k]
        have hn := Lib.hid (Hx.isHex_no s k hlt (Hx.dg_no s k hlt (by omega)).1)
        go_wp2_with (go_at_call 21; refine (rvalue_any _ _).mono ?_; rintro e w' ⟨rfl, rfl⟩)
        go_ret
        exact ⟨ret_b hn.out.symm, rfl⟩
    · go_wp2
      go_ret
      have : k = s.size := by omega
      subst this
      exact ⟨ret_b ht.out.symm, rfl⟩

set_option maxHeartbeats 400000 in
theorem rdigit_any (s : ByteArray) (i : Int) (w : World) (hs : s.size ≤ maxLen) :
    Calls Tryd.prog 16 #[.string s, .int .i64 i] w fun e w' => e = .returned (.tuple #[.int .i64 (Hx.dgV s i), .bool (Hx.dgB s i)]) ∧ w = w' := by
  unfold maxLen at hs
  by_cases h0 : i < 0
  · obtain ⟨e1, e2⟩ := Hx.dg_out s i (.inl h0)
    rw [e1, e2]; clear e1 e2
    go_enter Tryd.func16, Tryd.ntmps16
    go_wp2
    go_ret2
    exact ⟨rfl, rfl⟩
  · by_cases h1 : (s.size : Int) ≤ i
    · obtain ⟨e1, e2⟩ := Hx.dg_out s i (.inr h1)
      rw [e1, e2]; clear e1 e2
      go_enter Tryd.func16, Tryd.ntmps16
      go_wp2
      go_ret2
      exact ⟨rfl, rfl⟩
    · obtain ⟨k, rfl⟩ := Int.eq_ofNat_of_zero_le (Int.not_lt.1 h0)
      have hk : k < s.size := by omega
      have hr := Hx.val_range s[k]
      clear h0 h1
      by_cases hv : 0 ≤ Hx.val s[k]
      · obtain ⟨e1, e2⟩ := Hx.dg_yes s k hk hv
        rw [e1, e2]; clear e1 e2
        go_enter Tryd.func16, Tryd.ntmps16
        go_wp2_with (go_at_call 21; refine (rvalue_any _ _).mono ?_; rintro e w' ⟨rfl, rfl⟩)
        go_ret2
        exact ⟨rfl, rfl⟩
      · obtain ⟨e1, e2⟩ := Hx.dg_no s k hk (by omega)
        rw [e1, e2]; clear e1 e2
        go_enter Tryd.func16, Tryd.ntmps16
        go_wp2_with (go_at_call 21; refine (rvalue_any _ _).mono ?_; rintro e w' ⟨rfl, rfl⟩)
        go_ret2
        exact ⟨rfl, rfl⟩

set_option maxHeartbeats 400000 in
theorem rnumber_any (s : ByteArray) (w : World) (hs : s.size ≤ maxLen) :
    Calls Tryd.prog 20 #[.string s] w fun e w' => e = .returned (.tuple #[.int .u64 (Hx.num s), .int .i64 (Hx.numE s)]) ∧ w = w' := by
  have hs' := hs
  unfold maxLen at hs
  cases hh : Hx.isHex s with
  | false =>
    have hn : Hid (Hx.num s = 0 ∧ Hx.numE s = 3) := ⟨by simp [Hx.num, hh], by simp [Hx.numE, hh]⟩
    go_enter Tryd.func20, Tryd.ntmps20
    go_wp2_with (go_at_call 18; refine (ris_any _ _ hs').mono ?_; rintro e w' ⟨rfl, rfl⟩)
    go_ret2
    exact ⟨ret_ii hn.out.1.symm hn.out.2.symm, rfl⟩
  | true =>
    by_cases h0 : s.size = 0
    · have hn : Hid (Hx.num s = 0 ∧ Hx.numE s = 4) := ⟨by simp [Hx.num, h0], by unfold Hx.numE; rw [hh, if_pos rfl, if_pos h0]⟩
      obtain ⟨he, he'⟩ := empty_of_size h0
      have H0 := Lib.hid h0
      clear h0
      go_enter Tryd.func20, Tryd.ntmps20
      go_wp2_with (go_at_call 18; refine (ris_any _ _ hs').mono ?_; rintro e w' ⟨rfl, rfl⟩)
      go_ret2
      exact ⟨ret_ii hn.out.1.symm hn.out.2.symm, rfl⟩
    · obtain ⟨_, he⟩ := full_of_size h0
      by_cases h16 : 16 < s.size
      · have hn : Hid (Hx.num s = 0 ∧ Hx.numE s = 5) := ⟨by simp [Hx.num, show ¬ s.size ≤ 16 by omega], by unfold Hx.numE; rw [hh, if_pos rfl, if_neg h0, if_neg (by omega)]⟩
        have H0 := Lib.hid h0
        clear h0
        go_enter Tryd.func20, Tryd.ntmps20
        go_wp2_with (go_at_call 18; refine (ris_any _ _ hs').mono ?_; rintro e w' ⟨rfl, rfl⟩)
        go_ret2
        exact ⟨ret_ii hn.out.1.symm hn.out.2.symm, rfl⟩
      · have hn : Hid (Hx.num s = (Hx.numTo s s.size : Nat) ∧ Hx.numE s = 0) := ⟨by simp [Hx.num, hh, h0, show s.size ≤ 16 by omega], by unfold Hx.numE; rw [hh, if_pos rfl, if_neg h0, if_pos (by omega)]⟩
        have H0 := Lib.hid h0
        have hd : ∀ j, j < s.size → 0 ≤ Hx.val (Hx.byteAt s j) ∧ Hx.dgV s j = Hx.val (Hx.byteAt s j) := fun j hj => by
          have e := Hx.isTo_at s s.size j hj hh
          have : 0 ≤ Hx.val s[j] := by rw [Hx.dg_in s j hj] at e; exact of_decide_eq_true e
          rw [Hx.byteAt_lt s j hj]
          exact ⟨this, (Hx.dg_yes s j hj this).2⟩
        have hd := Lib.hid hd
        clear h0
        go_enter Tryd.func20, Tryd.ntmps20
        go_wp2_with (go_at_call 18; refine (ris_any _ _ hs').mono ?_; rintro e w' ⟨rfl, rfl⟩)
        go_loop [4, 5] (fun n c => ∃ k : Nat, k ≤ s.size ∧ c = .int .i64 k ∧ n = .int .u64 (Hx.numTo s k : Nat)) (fun _ c => s.size - (intOf c).toNat)
        case atStart => exact ⟨0, Nat.zero_le _, rfl, rfl⟩
        case round =>
          obtain ⟨k, hk, rfl, rfl⟩ := hrel
          by_cases hlt : k < s.size
          · have hr := Hx.val_range s[k]
            have hdk := hd.out k hlt
            rw [Hx.byteAt_lt s k hlt] at hdk
            obtain ⟨hv0, hv1⟩ := hdk
            have hv2 : Hx.val s[k] ≤ 15 := hr.2
            have hv1 := Lib.hid hv1
            clear hr
            have h60 : Hx.numTo s k < 1152921504606846976 := Nat.lt_of_lt_of_le (Hx.numTo_lt s k) (Nat.pow_le_pow_right (by omega) (by omega : k ≤ 15))
            go_wp2_with (go_at_call 21; refine (rvalue_any _ _).mono ?_; rintro e w' ⟨rfl, rfl⟩)
            go_round
            case rel =>
              refine ⟨k + 1, by omega, by go_num, ?_⟩
              simp only [Hx.numTo, Value.int.injEq, true_and, hv1.out]
              omega
            case measure => simp [intOf]; omega
          · go_wp2
            go_ret2
            have : k = s.size := by omega
            subst this
            exact ⟨ret_ii hn.out.1.symm hn.out.2.symm, rfl⟩
end Go.Proofs.YticilkbhcejmoaaDoor
