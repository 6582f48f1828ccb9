/-
  The walks of package when, second part: digits, pad, Read, Show.
-/
import Derived.Test.YtmpbejiknejogaaDoorWhenFns
namespace Go.Proofs.YtmpbejiknejogaaDoor
set_option linter.unusedSimpArgs false
set_option linter.unusedVariables false
open Go Go.RowKit

/-- The number of the first k bytes, if all are digits. -/
def Wh.dTo (s : ByteArray) : Nat → Int
  | 0 => 0
  | k + 1 => 10 * Wh.dTo s k + ((Uf.b s k : Int) - 48)
def Wh.dig (s : ByteArray) (k : Nat) : Prop := 48 ≤ Uf.b s k ∧ Uf.b s k ≤ 57
theorem Wh.dTo_bd (s : ByteArray) : ∀ k, (∀ j, j < k → Wh.dig s j) → 0 ≤ Wh.dTo s k ∧ Wh.dTo s k + 1 ≤ 10 ^ k
  | 0, _ => by simp [Wh.dTo]
  | k + 1, h => by
    have ih := Wh.dTo_bd s k fun j hj => h j (by omega)
    have hk := h k (by omega)
    unfold Wh.dig at hk
    rw [Wh.dTo, Int.pow_succ]
    omega
/-- The number of all bytes, or -1. -/
noncomputable def Wh.dV (s : ByteArray) : Int := by
  classical exact if ∀ j, j < s.size → Wh.dig s j then Wh.dTo s s.size else -1
theorem Wh.dV_yes {s : ByteArray} (h : ∀ j, j < s.size → Wh.dig s j) : Wh.dV s = Wh.dTo s s.size := by unfold Wh.dV; rw [if_pos h]
theorem Wh.dV_no {s : ByteArray} {k : Nat} (hk : k < s.size) (h : ¬ Wh.dig s k) : Wh.dV s = -1 := by unfold Wh.dV; rw [if_neg (fun x => h (x k hk))]
set_option maxHeartbeats 800000 in
theorem digits_any (s : ByteArray) (w : World) (hs : s.size ≤ 4) : Calls Tryd.prog 25 #[.string s] w fun e w' => e = .returned (.int .i64 (Wh.dV s)) ∧ w = w' := by
  go_enter Tryd.func25, Tryd.ntmps25
  go_wp2
  go_loop [3, 7] (fun n i => ∃ k : Nat, k ≤ s.size ∧ i = .int .i64 k ∧ n = .int .i64 (Wh.dTo s k) ∧ Hid (∀ j, j < k → Wh.dig s j)) (fun _ i => s.size - (intOf i).toNat)
  case atStart => exact ⟨0, Nat.zero_le _, rfl, rfl, fun j hj => absurd hj (by omega)⟩
  case round =>
    obtain ⟨k, hk, rfl, rfl, hd⟩ := hrel
    have hb := Wh.dTo_bd s k hd.out
    have hb4 : (10 : Int) ^ k ≤ 10 ^ 4 := by
      have : (10 : Nat) ^ k ≤ 10 ^ 4 := Nat.pow_le_pow_right (by omega) (by omega)
      exact_mod_cast this
    have hb5 : 0 ≤ Wh.dTo s k ∧ Wh.dTo s k ≤ 10000 := by
      have : (10 : Int) ^ 4 = 10000 := by decide
      omega
    clear hb hb4
    by_cases hlt : k < s.size
    · have hbyte := s[k].toNat_lt
      have hbk := Uf.b_at s k hlt
      by_cases h1 : s[k].toNat < 48
      · have hno := Lib.hid (Wh.dV_no hlt (by unfold Wh.dig; omega))
        clear hbk
        go_wp2_with fail
        go_ret
        exact ⟨ret_i hno.out.symm, rfl⟩
      · by_cases h2 : 57 < s[k].toNat
        · have hno := Lib.hid (Wh.dV_no hlt (by unfold Wh.dig; omega))
          clear hbk
          go_wp2_with fail
          go_ret
          exact ⟨ret_i hno.out.symm, rfl⟩
        · have hn : Hid (∀ j, j < k + 1 → Wh.dig s j) := fun j hj => by
            by_cases e : j = k
            · subst e; unfold Wh.dig; omega
            · exact hd.out j (by omega)
          have hdt : Hid (Wh.dTo s (k + 1) = 10 * Wh.dTo s k + ((s[k].toNat : Int) - 48)) := by
            show _ = _
            rw [Wh.dTo, hbk]
          clear hbk hd
          go_wp2_with fail
          go_round
          case rel => exact ⟨k + 1, by omega, by go_num, by rw [hdt.out], hn⟩
          case measure => simp [intOf]; omega
    · have hk' : k = s.size := by omega
      subst hk'
      have hy := Lib.hid (Wh.dV_yes hd.out)
      go_wp2_with fail
      go_ret
      exact ⟨ret_i hy.out.symm, rfl⟩
theorem Wh.dV2 (s : ByteArray) (i : Nat) (h : i + 2 ≤ s.size) : Wh.dV (s.extract i (i + 2)) = Wh.f2 s i := by
  have hz : (s.extract i (i + 2)).size = 2 := by rw [ByteArray.size_extract]; omega
  have b0 : Uf.b (s.extract i (i + 2)) 0 = Uf.b s i := Uf.b_extract s i (i + 2) 0 h (by omega)
  have b1 : Uf.b (s.extract i (i + 2)) 1 = Uf.b s (i + 1) := Uf.b_extract s i (i + 2) 1 h (by omega)
  unfold Wh.f2
  split
  · rename_i hc
    rw [Wh.dV_yes (fun j hj => by
      rw [hz] at hj
      unfold Wh.dig
      have : j = 0 ∨ j = 1 := by omega
      rcases this with rfl | rfl
      · rw [b0]; omega
      · rw [b1]; omega), hz]
    simp only [Wh.dTo]
    rw [b0, b1]
    omega
  · rename_i hc
    by_cases h0 : 48 ≤ Uf.b s i ∧ Uf.b s i ≤ 57
    · exact Wh.dV_no (k := 1) (by omega) (by unfold Wh.dig; rw [b1]; omega)
    · exact Wh.dV_no (k := 0) (by omega) (by unfold Wh.dig; rw [b0]; omega)
theorem Wh.dV4 (s : ByteArray) (h : 4 ≤ s.size) : Wh.dV (s.extract 0 4) = Wh.f4 s := by
  have hz : (s.extract 0 4).size = 4 := by rw [ByteArray.size_extract]; omega
  have b0 : Uf.b (s.extract 0 4) 0 = Uf.b s 0 := Uf.b_extract s 0 4 0 h (by omega)
  have b1 : Uf.b (s.extract 0 4) 1 = Uf.b s (0 + 1) := Uf.b_extract s 0 4 1 h (by omega)
  have b2 : Uf.b (s.extract 0 4) 2 = Uf.b s 2 := Uf.b_extract s 0 4 2 h (by omega)
  have b3 : Uf.b (s.extract 0 4) 3 = Uf.b s (2 + 1) := Uf.b_extract s 0 4 3 h (by omega)
  unfold Wh.f4
  by_cases c0 : 48 ≤ Uf.b s 0 ∧ Uf.b s 0 ≤ 57
  · by_cases c1 : 48 ≤ Uf.b s (0 + 1) ∧ Uf.b s (0 + 1) ≤ 57
    · have e0 : Wh.f2 s 0 = 10 * ((Uf.b s 0 : Int) - 48) + ((Uf.b s (0 + 1) : Int) - 48) := by unfold Wh.f2; rw [if_pos (by omega)]
      by_cases c2 : 48 ≤ Uf.b s 2 ∧ Uf.b s 2 ≤ 57
      · by_cases c3 : 48 ≤ Uf.b s (2 + 1) ∧ Uf.b s (2 + 1) ≤ 57
        · have e2 : Wh.f2 s 2 = 10 * ((Uf.b s 2 : Int) - 48) + ((Uf.b s (2 + 1) : Int) - 48) := by unfold Wh.f2; rw [if_pos (by omega)]
          rw [if_pos (by omega), Wh.dV_yes (fun j hj => by
            rw [hz] at hj
            unfold Wh.dig
            have : j = 0 ∨ j = 1 ∨ j = 2 ∨ j = 3 := by omega
            rcases this with rfl | rfl | rfl | rfl
            · rw [b0]; omega
            · rw [b1]; omega
            · rw [b2]; omega
            · rw [b3]; omega), hz]
          simp only [Wh.dTo]
          rw [b0, b1, b2, b3]
          omega
        · have e2 : Wh.f2 s 2 = -1 := by unfold Wh.f2; rw [if_neg (by omega)]
          rw [if_neg (by omega)]
          exact Wh.dV_no (k := 3) (by omega) (by unfold Wh.dig; rw [b3]; omega)
      · have e2 : Wh.f2 s 2 = -1 := by unfold Wh.f2; rw [if_neg (by omega)]
        rw [if_neg (by omega)]
        exact Wh.dV_no (k := 2) (by omega) (by unfold Wh.dig; rw [b2]; omega)
    · have e0 : Wh.f2 s 0 = -1 := by unfold Wh.f2; rw [if_neg (by omega)]
      rw [if_neg (by omega)]
      exact Wh.dV_no (k := 1) (by omega) (by unfold Wh.dig; rw [b1]; omega)
  · have e0 : Wh.f2 s 0 = -1 := by unfold Wh.f2; rw [if_neg (by omega)]
    rw [if_neg (by omega)]
    exact Wh.dV_no (k := 0) (by omega) (by unfold Wh.dig; rw [b0]; omega)
theorem dig2 (s : ByteArray) (i : Nat) (h : i + 2 ≤ s.size) (W : World) : Calls Tryd.prog 25 #[.string (s.extract i (i + 2))] W fun e w' => e = .returned (.int .i64 (Wh.f2 s i)) ∧ w' = W := by
  have := flipw (digits_any (s.extract i (i + 2)) W (by rw [ByteArray.size_extract]; omega))
  rwa [Wh.dV2 s i h] at this
theorem dig4 (s : ByteArray) (h : 4 ≤ s.size) (W : World) : Calls Tryd.prog 25 #[.string (s.extract 0 4)] W fun e w' => e = .returned (.int .i64 (Wh.f4 s)) ∧ w' = W := by
  have := flipw (digits_any (s.extract 0 4) W (by rw [ByteArray.size_extract]; omega))
  rwa [Wh.dV4 s h] at this

/-! ### pad -/
set_option maxHeartbeats 400000 in
theorem repeat_one (s : ByteArray) (w : World) : Calls Tryd.prog 34 #[.string s, .int .i64 1] w fun e w' => e = .returned (.string s) ∧ w = w' := by
  go_enter Tryd.func34, Tryd.ntmps34
  go_wp2
  go_ret
  exact ⟨rfl, rfl⟩
set_option maxHeartbeats 400000 in
theorem pad2 (k : Nat) (w : World) (hk : k < 100) : Calls Tryd.prog 28 #[.int .i64 k, .int .i64 2] w fun e w' => e = .returned (.string (Wh.d2 k)) ∧ w = w' := by
  by_cases h : k < 10
  · obtain ⟨e1, e2⟩ := Wh.dec1 k h
    have E := Lib.hid e1
    have hz : (⟨(Lib.decDigits k).toArray⟩ : ByteArray).size ≤ 1 := by omega
    have hz0 : 1 ≤ (⟨(Lib.decDigits k).toArray⟩ : ByteArray).size := by omega
    have C := Lib.hid (fun W => Tryd.strconv_Itoa_small k (by omega) W)
    clear e1 e2
    have hw : IntKind.i64.wrap (2 - ((⟨(Lib.decDigits k).toArray⟩ : ByteArray).size : Int)) = 1 := by rw [show (2 : Int) - ((⟨(Lib.decDigits k).toArray⟩ : ByteArray).size : Int) = 1 by omega]; exact IntWalk.i64_in _ (by omega)
    have hs1 : (2 : Int) - ((⟨(Lib.decDigits k).toArray⟩ : ByteArray).size : Int) = 1 := by omega
    generalize (⟨(Lib.decDigits k).toArray⟩ : ByteArray) = t at *
    go_enter Tryd.func28, Tryd.ntmps28
    go_wp2_with fail
    refine (C.out _).mono ?_
    rintro e w1 ⟨rfl, rfl⟩
    go_wp2_with fail
    refine (repeat_one _ _).mono ?_
    rintro e _ ⟨rfl, rfl⟩
    go_wp2_with fail
    go_ret
    exact ⟨ret_str E.out, rfl⟩
  · have E := Lib.hid (Wh.dec2 k (by omega) hk)
    have C := Lib.hid (fun W => Tryd.strconv_Itoa_small k hk W)
    have hz : 2 ≤ (⟨(Lib.decDigits k).toArray⟩ : ByteArray).size := by rw [E.out]; exact Nat.le_refl _
    generalize (⟨(Lib.decDigits k).toArray⟩ : ByteArray) = t at *
    go_enter Tryd.func28, Tryd.ntmps28
    go_wp2_with fail
    refine (C.out _).mono ?_
    rintro e w1 ⟨rfl, rfl⟩
    go_wp2_with fail
    go_ret
    exact ⟨ret_str E.out, rfl⟩
theorem padI (k : Int) (w : World) (h0 : 0 ≤ k) (h1 : k < 100) : Calls Tryd.prog 28 #[.int .i64 k, .int .i64 2] w fun e w' => e = .returned (.string (Wh.d2 k)) ∧ w = w' := by
  obtain ⟨n, rfl⟩ : ∃ n : Nat, k = n := ⟨k.toNat, by omega⟩
  exact pad2 n w (by omega)
set_option maxHeartbeats 400000 in
theorem pad4 (y : Int) (w : World) (h0 : 1970 ≤ y) (h1 : y ≤ 9999) (hT : Tb w) : Calls Tryd.prog 28 #[.int .i64 y, .int .i64 4] w fun e w' => e = .returned (.string (Wh.d2 (y / 100) ++ Wh.d2 (y % 100))) ∧ Below w.heap.size w w' := by
  have E := Lib.hid (Wh.dec4 y h0 h1)
  have C := Lib.hid (Tryd.strconv_Itoa y (by omega) (by omega) w hT.pow)
  have hz : 4 ≤ (⟨(Lib.itoa y).toArray⟩ : ByteArray).size := by rw [E.out, ByteArray.size_append]; exact Nat.le_refl _
  generalize (⟨(Lib.itoa y).toArray⟩ : ByteArray) = t at *
  go_enter Tryd.func28, Tryd.ntmps28
  go_wp2_with fail
  refine C.out.mono ?_
  rintro e w1 ⟨rfl, k, os, rfl⟩
  have hb : Hid (Below w.heap.size w (Go.Sort.grow (w.drewN k) os)) := ⟨rfl, rfl, rfl, by simp [Go.Sort.grow, World.drewN], fun i hi => by
    simp [Go.Sort.grow, World.drewN, Array.getElem?_append, hi]⟩
  go_wp2_with fail
  go_ret
  exact ⟨ret_str E.out, hb.out⟩

end Go.Proofs.YtmpbejiknejogaaDoor
