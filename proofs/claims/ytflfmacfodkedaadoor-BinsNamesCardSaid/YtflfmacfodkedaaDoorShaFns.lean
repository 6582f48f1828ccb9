/-
  The walks of package sha and of its document: the small ones.
-/
import Derived.Test.YtflfmacfodkedaaDoorBase
import Derived.Test.YtflfmacfodkedaaDoorSha
import Derived.Test.YtflfmacfodkedaaDoorMem
import Derived.IntWalk
import Derived.Laws.BitsAllLaws
import Derived.Lib.QuietBelow
import Derived.Lib.SmallJoins
namespace Go.Proofs.YtflfmacfodkedaaDoor
set_option linter.unusedSimpArgs false
set_option linter.unusedVariables false
open Go Go.RowKit

theorem rot1_int (y : Nat) (h : y < 4294967296) : (y : Int) / 2 + (y : Int) % 2 * 2147483648 = ((Sh.rot1 y : Nat) : Int) := by
  unfold Sh.rot1
  omega
theorem half_int (y : Nat) : (y : Int) / 2 = ((y / 2 : Nat) : Int) := by omega
theorem neg_and (n : Nat) (h1 : 1 ≤ n) (hn : n ≤ 31) : bits .and .u64 (IntKind.u64.wrap (-(n : Int))) 31 = ((32 - n : Nat) : Int) := by
  have e : IntKind.u64.wrap (-(n : Int)) = ((18446744073709551616 - n : Nat) : Int) := by
    simp only [IntKind.wrap, IntKind.bits, IntKind.signed]
    simp
    omega
  rw [e, show (31 : Int) = ((31 : Nat) : Int) from rfl, u64_and_nat _ _ (by omega) (by omega), nat_mask5]
  congr 1
  omega
theorem or_int (x n : Nat) (hx : x < 4294967296) (h1 : 1 ≤ n) (hn : n ≤ 31) : bits .or .u32 (IntKind.u32.wrap ((x : Int) * 2 ^ (32 - n))) ((x : Int) / 2 ^ n) = ((Sh.rotr x n : Nat) : Int) := by
  have e : IntKind.u32.wrap ((x : Int) * 2 ^ (32 - n)) = ((x * 2 ^ (32 - n) % 4294967296 : Nat) : Int) := by
    rw [IntKind.wrap_u32']; simp
  have e2 : (x : Int) / 2 ^ n = ((x / 2 ^ n : Nat) : Int) := by simp
  rw [e, e2, u32_or_nat _ _ (Nat.mod_lt _ (by decide)) (Nat.lt_of_le_of_lt (Nat.div_le_self _ _) hx)]
  congr 1
  exact Sh.rotr_or x n hx h1 hn
set_option maxHeartbeats 400000 in
theorem turned_any (x n : Nat) (w : World) (hx : x < 4294967296) (hn : n ≤ 31) : Calls Tryd.prog 63 #[.int .u32 (x : Int), .int .i64 (n : Int)] w fun e w' => e = .returned (.int .u32 (Sh.rotr x n : Nat)) ∧ w = w' := by
  have E := Lib.hid (Sh.turn_eq x n hn)
  go_enter Tryd.func63, Tryd.ntmps63
  go_wp2
  go_loop [0, 5] (fun x' i => ∃ k : Nat, k ≤ n ∧ i = .int .i64 k ∧ x' = .int .u32 (Sh.turn x k : Nat)) (fun _ i => n - (intOf i).toNat)
  case atStart => exact ⟨0, by omega, rfl, rfl⟩
  case round =>
    obtain ⟨k, hk, rfl, rfl⟩ := hrel
    by_cases h : k < n
    · have ht := Sh.turn_lt hx k
      have e : Hid (Sh.turn x (k + 1) = Sh.rot1 (Sh.turn x k)) := rfl
      unfold Sh.M at ht
      generalize Sh.turn x k = y at *
      go_wp2
      go_round
      case rel => exact ⟨k + 1, by omega, by simp, by rw [e.out, rot1_int y ht]⟩
      case measure => simp [intOf]; omega
    · obtain rfl : k = n := by omega
      go_wp2
      go_ret
      exact ⟨ret_i (by rw [E.out]), rfl⟩
set_option maxHeartbeats 400000 in
theorem low_any (x n : Nat) (w : World) (hx : x < 4294967296) (hn : n ≤ 31) : Calls Tryd.prog 70 #[.int .u32 (x : Int), .int .i64 (n : Int)] w fun e w' => e = .returned (.int .u32 (x / 2 ^ n : Nat)) ∧ w = w' := by
  have E := Lib.hid (Sh.half_eq x n)
  obtain ⟨z, hz⟩ : ∃ z, z = x / 2 ^ n := ⟨_, rfl⟩
  rw [← hz] at E ⊢
  clear hz
  go_enter Tryd.func70, Tryd.ntmps70
  go_wp2
  go_loop [0, 5] (fun x' i => ∃ k : Nat, k ≤ n ∧ i = .int .i64 k ∧ x' = .int .u32 (Sh.half x k : Nat)) (fun _ i => n - (intOf i).toNat)
  case atStart => exact ⟨0, by omega, rfl, rfl⟩
  case round =>
    obtain ⟨k, hk, rfl, rfl⟩ := hrel
    by_cases h : k < n
    · have ht : Sh.half x k < 4294967296 := by rw [Sh.half_eq]; exact Nat.lt_of_le_of_lt (Nat.div_le_self _ _) hx
      have e : Hid (Sh.half x (k + 1) = Sh.half x k / 2) := rfl
      generalize Sh.half x k = y at *
      go_wp2
      go_round
      case rel => exact ⟨k + 1, by omega, by simp, by rw [e.out, half_int y]⟩
      case measure => simp [intOf]; omega
    · obtain rfl : k = n := by omega
      go_wp2
      go_ret
      exact ⟨ret_i (by rw [E.out]), rfl⟩
set_option maxHeartbeats 400000 in
theorem rot_any (x n : Nat) (w : World) (hx : x < 4294967296) (h1 : 1 ≤ n) (hn : n ≤ 31) : Calls Tryd.prog 64 #[.int .u32 (x : Int), .int .i64 (-(n : Int))] w fun e w' => e = .returned (.int .u32 (Sh.rotr x n : Nat)) ∧ w = w' := by
  obtain ⟨m, hm⟩ : ∃ m, m = 32 - n := ⟨_, rfl⟩
  have b := neg_and n h1 hn
  have O := Lib.hid (or_int x n hx h1 hn)
  rw [← hm] at b O
  have b2 : IntKind.u64.wrap (32 - (m : Int)) = (n : Int) := by
    simp only [IntKind.wrap, IntKind.bits, IntKind.signed]
    simp
    omega
  have hm1 : m ≤ 31 := by omega
  have hm2 : (32 : Int) - m = n := by omega
  go_enter Tryd.func64, Tryd.ntmps64
  go_wp2
  go_ret
  refine ⟨ret_i ?_, rfl⟩
  have O' := O.out
  rw [IntKind.wrap_u32'] at O'
  subst hm
  rw [show 32 - (32 - n) = n by omega]
  exact O'
theorem rot_at (i : Int) (x n : Nat) (w : World) (hx : x < 4294967296) (h1 : 1 ≤ n) (hn : n ≤ 31) (hi : i = -(n : Int)) : Calls Tryd.prog 64 #[.int .u32 (x : Int), .int .i64 i] w fun e w' => e = .returned (.int .u32 (Sh.rotr x n : Nat)) ∧ w = w' := by
  subst hi
  exact rot_any x n w hx h1 hn
theorem turned_at (i : Int) (x n : Nat) (w : World) (hx : x < 4294967296) (hn : n ≤ 31) (hi : i = (n : Int)) : Calls Tryd.prog 63 #[.int .u32 (x : Int), .int .i64 i] w fun e w' => e = .returned (.int .u32 (Sh.rotr x n : Nat)) ∧ w = w' := by
  subst hi
  exact turned_any x n w hx hn
theorem low_at (i : Int) (x n : Nat) (w : World) (hx : x < 4294967296) (hn : n ≤ 31) (hi : i = (n : Int)) : Calls Tryd.prog 70 #[.int .u32 (x : Int), .int .i64 i] w fun e w' => e = .returned (.int .u32 (x / 2 ^ n : Nat)) ∧ w = w' := by
  subst hi
  exact low_any x n w hx hn
end Go.Proofs.YtflfmacfodkedaaDoor
