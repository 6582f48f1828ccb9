/-
  The statements GlobMatches and GlobFirst, walked: they return true.
-/
import Derived.Test.YtcglfpgniifedaaGlobAwake
namespace Go.Proofs.Ytcglfpgniifedaa
set_option linter.unusedSimpArgs false
set_option linter.unusedVariables false
open Go Go.RowKit

set_option maxHeartbeats 1000000 in
theorem globMatches_walk (p s : ByteArray) (w : World) (hp : p.size ≤ maxLen) (hs : s.size ≤ maxLen) :
    Calls Try.prog 3 #[.string p, .string s] w fun e w' => e = .returned (.bool true) ∧ Below w.heap.size w w' := by
  have hB : Hid (Below w.heap.size w w) := Below.refl _ _
  by_cases h : 1000 < p.size
  · go_enter Try.func3, Try.ntmps3
    go_wp2_with fail
    refine (gawake_any _).mono ?_
    rintro e w1 ⟨rfl, hb1⟩
    replace hB := Lib.hid (keep_trans hB.out hb1)
    clear hb1
    go_wp2_with fail
    go_ret
    exact ⟨rfl, hB.out⟩
  by_cases h' : 1000 < s.size
  · go_enter Try.func3, Try.ntmps3
    go_wp2_with fail
    refine (gawake_any _).mono ?_
    rintro e w1 ⟨rfl, hb1⟩
    replace hB := Lib.hid (keep_trans hB.out hb1)
    clear hb1
    go_wp2_with fail
    go_ret
    exact ⟨rfl, hB.out⟩
  go_enter Try.func3, Try.ntmps3
  go_wp2_with fail
  refine (gmatch_any p s _ hp hs).mono ?_
  rintro e w1 ⟨rfl, hb1⟩
  replace hB := Lib.hid (keep_trans hB.out hb1)
  clear hb1
  go_wp2_with fail
  refine (rmatch_any p s _ (by omega) (by omega)).mono ?_
  rintro e w1 ⟨rfl, hb1⟩
  replace hB := Lib.hid (keep_trans hB.out hb1)
  clear hb1
  go_wp2_with fail
  refine (gawake_any _).mono ?_
  rintro e w1 ⟨rfl, hb1⟩
  replace hB := Lib.hid (keep_trans hB.out hb1)
  clear hb1
  go_wp2_with fail
  go_ret
  exact ⟨rfl, hB.out⟩

set_option maxHeartbeats 1000000 in
theorem globFirst_walk (ls : List ByteArray) (A : Option Addr) (cap : Nat) (s : ByteArray) (w : World) (hc : Strs w A ls) (hz : ∀ i, i < ls.length → (ls.getD i ByteArray.empty).size ≤ maxLen) (hl : ls.length ≤ maxLen) (hs : s.size ≤ maxLen) :
    Calls Try.prog 4 #[.slice A ls.length cap, .string s] w fun e w' => e = .returned (.bool true) ∧ Below w.heap.size w w' := by
  have hB : Hid (Below w.heap.size w w) := Below.refl _ _
  have HC := Lib.hid hc
  have HZ := Lib.hid hz
  clear hc hz
  by_cases h : 40 < ls.length
  · go_enter Try.func4, Try.ntmps4
    go_wp2_with fail
    refine (gawake_any _).mono ?_
    rintro e w1 ⟨rfl, hb1⟩
    replace hB := Lib.hid (keep_trans hB.out hb1)
    clear hb1
    go_wp2_with fail
    go_ret
    exact ⟨rfl, hB.out⟩
  by_cases h' : 1000 < s.size
  · go_enter Try.func4, Try.ntmps4
    go_wp2_with fail
    refine (gawake_any _).mono ?_
    rintro e w1 ⟨rfl, hb1⟩
    replace hB := Lib.hid (keep_trans hB.out hb1)
    clear hb1
    go_wp2_with fail
    go_ret
    exact ⟨rfl, hB.out⟩
  go_enter Try.func4, Try.ntmps4
  go_wp2_with fail
  go_loop [5] (fun i => ∃ k : Nat, k ≤ ls.length ∧ i = .int .i64 k ∧ Hid (∀ j, j < k → (ls.getD j ByteArray.empty).size ≤ 1000)) (fun i => ls.length - (intOf i).toNat)
  case atStart => exact ⟨0, Nat.zero_le _, rfl, fun j hj => absurd hj (by omega)⟩
  case round =>
    obtain ⟨k, hk, rfl, hno⟩ := hrel
    by_cases hlt : k < ls.length
    · obtain ⟨a, rfl, hab, hc⟩ := HC.out k hlt
      obtain ⟨p, hp⟩ : ∃ p, p = ls.getD k ByteArray.empty := ⟨_, rfl⟩
      have h1 : w.cell? (a.add k) = some (.string p) := by rw [hp, ← hc]
      have hpz : p.size ≤ maxLen := by rw [hp]; exact HZ.out k hlt
      unfold maxLen at hpz
      have hn : Hid (p.size ≤ 1000 → ∀ j, j < k + 1 → (ls.getD j ByteArray.empty).size ≤ 1000) := fun h j hj => by
        by_cases e : j = k
        · rw [e, ← hp]; exact h
        · exact hno.out j (by omega)
      clear hp hc
      by_cases h2 : 1000 < p.size
      · go_wp2_with fail
        refine (gawake_any _).mono ?_
        rintro e w1 ⟨rfl, hb1⟩
        go_wp2_with fail
        go_ret
        exact ⟨rfl, hb1⟩
      · go_wp2_with fail
        go_round
        case rel => exact ⟨k + 1, by omega, by go_num, hn.out (by omega)⟩
        case measure => simp [intOf]; omega
    · have hk' : k = ls.length := by omega
      subst hk'
      have hz2 : Hid (∀ i, i < ls.length → (ls.getD i ByteArray.empty).size ≤ 1000000) := fun i hi => by have := hno.out i hi; omega
      clear hno
      have hs2 : s.size ≤ 1000000 := by omega
      have hl2 : ls.length ≤ 1000000 := by omega
      go_wp2_with fail
      refine (first_any ls A cap s _ (HC.out.below hB.out) hz2.out hs2 hl2).mono ?_
      rintro e w1 ⟨rfl, hb1⟩
      replace hB := Lib.hid (keep_trans hB.out hb1)
      clear hb1
      go_wp2_with fail
      refine (rfirst_any ls A cap s _ (HC.out.below hB.out) hz2.out hs2 hl2).mono ?_
      rintro e w1 ⟨rfl, hb1⟩
      replace hB := Lib.hid (keep_trans hB.out hb1)
      clear hb1
      go_wp2_with fail
      refine (any_any ls A cap s _ (HC.out.below hB.out) hz2.out hs2 hl2).mono ?_
      rintro e w1 ⟨rfl, hb1⟩
      replace hB := Lib.hid (keep_trans hB.out hb1)
      clear hb1
      go_wp2_with fail
      refine (gawake_any _).mono ?_
      rintro e w1 ⟨rfl, hb1⟩
      replace hB := Lib.hid (keep_trans hB.out hb1)
      clear hb1
      go_wp2_with fail
      go_ret
      exact ⟨rfl, hB.out⟩
end Go.Proofs.Ytcglfpgniifedaa
