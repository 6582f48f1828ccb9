/-
  The walk of the statements' helper long: are texts more than a statement goes over?
-/
import Derived.Test.YtibjbpinbbmkjaaDoorShaAwake
import Derived.Test.YtibjbpinbbmkjaaDoorArgs
namespace Go.Proofs.YtibjbpinbbmkjaaDoor
set_option linter.unusedSimpArgs false
set_option linter.unusedVariables false
open Go Go.RowKit

/-- What long counts. -/
def longTo (ls : List ByteArray) : Nat → Nat
  | 0 => 0
  | k + 1 => longTo ls k + 64 + min 3000 (ls.getD k ByteArray.empty).size
theorem longTo_mono (ls : List ByteArray) (i : Nat) : ∀ d, longTo ls i ≤ longTo ls (i + d)
  | 0 => Nat.le_refl _
  | d + 1 => Nat.le_trans (longTo_mono ls i d) (by show _ ≤ longTo ls (i + d) + 64 + _; omega)
theorem longTo_64 (ls : List ByteArray) : ∀ k, 64 * k ≤ longTo ls k
  | 0 => Nat.le_refl _
  | k + 1 => by have := longTo_64 ls k; unfold longTo; omega
def longB (ls : List ByteArray) : Bool := decide (3000 ≤ longTo ls ls.length)
/-- The sum of the first sizes. -/
def sizeTo (ls : List ByteArray) : Nat → Nat
  | 0 => 0
  | k + 1 => sizeTo ls k + (ls.getD k ByteArray.empty).size
theorem short_sizes {ls : List ByteArray} (h : longB ls = false) : ∀ k, k ≤ ls.length → sizeTo ls k ≤ longTo ls k ∧ sizeTo ls k < 3000 := by
  have h0 : longTo ls ls.length < 3000 := by unfold longB at h; simp at h; omega
  have hk : ∀ k, k ≤ ls.length → longTo ls k < 3000 := fun k hk => by
    have := longTo_mono ls k (ls.length - k)
    rw [show k + (ls.length - k) = ls.length by omega] at this
    omega
  intro k
  induction k with
  | zero => intro _; exact ⟨Nat.le_refl _, by simp [sizeTo]⟩
  | succ k ih =>
    intro hle
    have := ih (by omega)
    have h2 := hk (k + 1) hle
    unfold longTo at h2
    unfold sizeTo longTo
    constructor <;> omega
theorem short_len {ls : List ByteArray} (h : longB ls = false) : ls.length < 47 := by
  have h0 : longTo ls ls.length < 3000 := by unfold longB at h; simp at h; omega
  have := longTo_64 ls ls.length
  omega
theorem Strs.drawn {w : World} {A : Option Addr} {ls : List ByteArray} (h : Strs w A ls) (n : Nat) : Strs (w.drewN n) A ls := h
/-- A block of strings, as an argument. -/
theorem strs_of_block {w : World} {g : Nat} (ls : List ByteArray) (t : TypeId) (h : Bk w g t (ls.map Value.string).toArray) : Strs w (some ⟨g, 0, none⟩) ls := by
  intro i hi
  refine ⟨_, rfl, h.lt, ?_⟩
  have e : (⟨g, 0, none⟩ : Addr).add i = ⟨g, i, none⟩ := by
    unfold Addr.add
    split
    · rename_i h; rw [h]
    · simp
  rw [e, h.cell]
  simp [hi]
set_option maxRecDepth 100000 in
set_option maxHeartbeats 1000000 in
theorem long_any (ls : List ByteArray) (A : Option Addr) (cap : Nat) (w : World) (hc : Strs w A ls) (hz : ∀ i, i < ls.length → (ls.getD i ByteArray.empty).size ≤ maxLen) (hl : ls.length ≤ maxLen) :
    Calls Tryd.prog 14 #[.slice A ls.length cap] w fun e w' => e = .returned (.bool (longB ls)) ∧ w = w' := by
  have HC := Lib.hid hc
  have HZ := Lib.hid hz
  clear hc hz
  unfold maxLen at hl
  go_enter Tryd.func14, Tryd.ntmps14
  go_wp2_with fail
  go_loop [3, 4] (fun n i => ∃ k : Nat, k ≤ ls.length ∧ i = .int .i64 k ∧ n = .int .i64 (longTo ls k : Nat) ∧ longTo ls k ≤ 6064) (fun _ i => ls.length - (intOf i).toNat)
  case atStart => exact ⟨0, Nat.zero_le _, rfl, rfl, by simp [longTo]⟩
  case round =>
    obtain ⟨k, hk, rfl, rfl, hn⟩ := hrel
    by_cases hlt : k < ls.length
    · have hnx : Hid (longTo ls (k + 1) = longTo ls k + 64 + min 3000 (ls.getD k ByteArray.empty).size) := rfl
      have hmo := Lib.hid (longTo_mono ls k (ls.length - k))
      obtain ⟨a, rfl, hab, hcell⟩ := HC.out k hlt
      have hz := HZ.out k hlt
      unfold maxLen at hz
      generalize ls.getD k ByteArray.empty = p at *
      by_cases h3 : longTo ls k < 3000
      · obtain ⟨x, hx⟩ : ∃ x, x = longTo ls k := ⟨_, rfl⟩
        rw [← hx] at h3 hn ⊢
        have HX := Lib.hid hx
        clear hx
        by_cases hp : p.size < 3000
        · go_wp2_with fail
          go_round
          case rel => exact ⟨k + 1, by omega, by go_num, by rw [hnx.out, ← HX.out, Nat.min_eq_right (by omega)]; simp; omega, by rw [hnx.out, ← HX.out, Nat.min_eq_right (by omega)]; omega⟩
          case measure => simp [intOf]; omega
        · go_wp2_with fail
          go_round
          case rel => exact ⟨k + 1, by omega, by go_num, by rw [hnx.out, ← HX.out, Nat.min_eq_left (by omega)]; simp; omega, by rw [hnx.out, ← HX.out, Nat.min_eq_left (by omega)]; omega⟩
          case measure => simp [intOf]; omega
      · have hb : Hid (longB ls = true) := by
          show _ = _
          unfold longB
          have := hmo.out
          rw [show k + (ls.length - k) = ls.length by omega] at this
          simp; omega
        generalize longTo ls k = x at *
        go_wp2_with fail
        go_ret
        exact ⟨ret_b (by rw [hb.out]), rfl⟩
    · obtain rfl : k = ls.length := by omega
      have hb : Hid (longB ls = decide (3000 ≤ longTo ls ls.length)) := rfl
      generalize longTo ls ls.length = x at *
      go_wp2_with fail
      go_ret
      exact ⟨ret_b (by rw [hb.out, decide_eq_decide]; omega), rfl⟩
end Go.Proofs.YtibjbpinbbmkjaaDoor
