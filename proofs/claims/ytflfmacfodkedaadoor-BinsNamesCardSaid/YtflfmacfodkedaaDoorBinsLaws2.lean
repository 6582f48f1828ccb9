/-
  The statement BinsAll, walked: it returns true.
-/
import Derived.Test.YtflfmacfodkedaaDoorBinsLaws1
namespace Go.Proofs.YtflfmacfodkedaaDoor
set_option linter.unusedSimpArgs false
set_option linter.unusedVariables false
open Go Go.RowKit

theorem prefL_yes {k n : Nat} (h1 : 1 ≤ k) (h2 : k ≤ 32) (hn : n < 2 ^ k) : Bn.prefL k n = Bn.prefs k n ∧ Bn.prefE k n = 0 := by
  have hm : Bn.may k = true := (Bn.may_iff k).2 (by omega)
  have hb : Bn.hasB k n = true := by unfold Bn.hasB; rw [hm]; simpa using hn
  exact ⟨by unfold Bn.prefL; rw [hb]; rfl, by unfold Bn.prefE; rw [hb]; rfl⟩
theorem prefs_getD (k n j : Nat) (h : j < 2 ^ Bn.spare k) : (Bn.prefs k n).getD j ByteArray.empty = Bn.prefAt k n j := by
  rw [List.getD_eq_getElem?_getD, Bn.prefs_at k n j h]
  rfl
theorem prefAt_num {k n j : Nat} (h1 : 1 ≤ k) (h2 : k ≤ 32) (hn : n < 2 ^ k) (hj : j < 2 ^ Bn.spare k) : Hx.num (Bn.prefAt k n j) = ((n * 2 ^ Bn.spare k + j : Nat) : Int) ∧ Hx.numE (Bn.prefAt k n j) = 0 :=
  Bn.text_num _ _ (Bn.num_lt h1 h2 hn hj) (Bn.wid_le h1 h2).1 (by have := (Bn.wid_le h1 h2).2.1; omega)
attribute [local irreducible] Sh.sha shaS Bn.prd Bn.dig Bn.goesS Bn.roleS Bn.roleE Bn.wrong Bn.prefL Bn.binN Bn.isP Bn.bin Bn.be4 Bn.prefs Bn.prefAt
set_option maxRecDepth 20000 in
set_option maxHeartbeats 2000000 in
theorem binsAllN_walk (b : Int) (n : Nat) (w : World) (hn : n < 4294967296) (hT : Tb w) (hD : Digs w) :
    Calls Tryd.prog 9 #[.int .i64 b, .int .u32 n] w fun e w' => e = .returned (.bool true) ∧ Below w.heap.size w w' := by
  cases hm : Bn.may b with
  | false =>
    have hB : Hid (Below w.heap.size w w) := Below.refl _ _
    have hnn := Bn.may_not hm
    clear hm
    rcases hnn with h1 | ⟨h1, h2⟩
    all_goals
      go_enter Tryd.func9, Tryd.ntmps9
      go_wp2_with fail
      refine (bawake_any _ (hT.below hB.out hT.lt) (hD.below hB.out hD.lt)).mono ?_
      rintro e w1 ⟨rfl, hb⟩
      replace hB := Lib.hid (hB.out.trans (hb.mono hB.out.size))
      clear hb
      go_wp2_with fail
      go_ret
      exact ⟨rfl, hB.out⟩
  | true =>
    have hB : Hid (Below w.heap.size w w) := Below.refl _ _
    obtain ⟨k, rfl, hk1, hk2⟩ := Bn.may_nat hm
    clear hm
    obtain ⟨W1, W8, s3, hW⟩ := Bn.wid_le hk1 hk2
    have hqz : 0 < 2 ^ k := Nat.two_pow_pos _
    have hmz : 0 < 2 ^ Bn.spare k := Nat.two_pow_pos _
    have hm8 : 2 ^ Bn.spare k ≤ 2 ^ 3 := Nat.pow_le_pow_right (by omega) s3
    have hq32 : 2 ^ k ≤ 2 ^ 32 := Nat.pow_le_pow_right (by omega) hk2
    have HQM : 2 ^ Bn.spare k * 2 ^ k = 2 ^ (4 * Bn.wid k) := by rw [← Nat.pow_add, show Bn.spare k + k = 4 * Bn.wid k by omega]
    have hr32 : 2 ^ (4 * Bn.wid k) ≤ 2 ^ 32 := Nat.pow_le_pow_right (by omega) (by omega)
    have hpk : ((2 ^ k : Nat) : Int) = (2 : Int) ^ k := by rw [Int.natCast_pow]; rfl
    have hpr : ((2 ^ (4 * Bn.wid k) : Nat) : Int) = (2 : Int) ^ (4 * Bn.wid k) := by rw [Int.natCast_pow]; rfl
    have hq2 : Hid (k < 32 → 2 ^ k ≤ 2 ^ 31) := fun h => Nat.pow_le_pow_right (by omega) (by omega)
    obtain ⟨N, hN, hN1, hN2⟩ : ∃ N, N < 2 ^ k ∧ Hid (k < 32 → N = n % 2 ^ k) ∧ Hid (¬ k < 32 → N = n) := by
      by_cases hk32 : k < 32
      · exact ⟨n % 2 ^ k, Nat.mod_lt _ hqz, fun _ => rfl, fun h => absurd hk32 h⟩
      · exact ⟨n, by rw [show k = 32 by omega]; exact hn, fun h => absurd h hk32, fun _ => rfl⟩
    have hP := Lib.hid (prefL_yes hk1 hk2 hN)
    have hP0 := Lib.hid (prefL_yes hk1 hk2 hqz)
    have hlen := Lib.hid (Bn.prefs_len k N)
    have hlen0 := Lib.hid (Bn.prefs_len k 0)
    have HG := Lib.hid (prefs_getD k N)
    have HNUM := Lib.hid (fun j hj => prefAt_num (j := j) hk1 hk2 hN hj)
    have HSZ : Hid (∀ j, (Bn.prefAt k N j).size = Bn.wid k) := fun j => by unfold Bn.prefAt; exact Bn.text_size _ _
    have HB32 := Lib.hid (fun j hj => Bn.num_lt32 (i := j) hk1 hk2 hN hj)
    have HMUL : Hid ((N : Int) * ((2 ^ Bn.spare k : Nat) : Int) = ((N * 2 ^ Bn.spare k : Nat) : Int)) := (Int.natCast_mul _ _).symm
    generalize 2 ^ Bn.spare k = m at *
    generalize 2 ^ k = q at *
    have h4 : (4 : Int) * (Bn.wid k : Int) = ((4 * Bn.wid k : Nat) : Int) := by omega
    generalize 4 * Bn.wid k = d4 at *
    generalize 2 ^ d4 = r at *
    have hpk2 := hpk.symm
    have hpr2 := hpr.symm
    clear hpk hpr
    generalize Bn.wid k = W at *
    have hm8b : m ≤ 8 := hm8
    have hq32b : q ≤ 4294967296 := hq32
    have hr32b : r ≤ 4294967296 := hr32
    have HMQ : Hid ((m : Int) * (q : Int) = (r : Int)) := by show _ = _; rw [← HQM]; exact (Int.natCast_mul _ _).symm
    have hd4 : d4 ≤ 32 := by omega
    clear hm8 hq32 hr32 HQM
    by_cases hk32 : k < 32
    · have hNN : (n : Int) % (q : Int) = (N : Int) := by rw [hN1.out hk32]; exact (Int.natCast_emod _ _).symm
      have hq31 : q ≤ 2147483648 := hq2.out hk32
      go_enter Tryd.func9, Tryd.ntmps9
      go_wp2_with fail
      refine (bawake_any _ (hT.below hB.out hT.lt) (hD.below hB.out hD.lt)).mono ?_
      rintro e w2 ⟨rfl, hb⟩
      replace hB := Lib.hid (hB.out.trans (hb.mono hB.out.size))
      clear hb
      go_wp2_with fail
      rw [hNN]
      go_wp2_with fail
      refine (bPrefixes_any k N _ (by omega)).mono ?_
      rintro e w3 ⟨v, rfl, hown, hb⟩
      rw [hP.out.2]
      rw [hP.out.1] at hown
      obtain ⟨g, cap, rfl, hg, hR⟩ := row_form hown rfl (by rw [hlen.out]; exact hmz)
      clear hown
      have hR := Lib.hid hR
      replace hB := Lib.hid (hB.out.trans (hb.mono hB.out.size))
      clear hb
      go_wp2_with fail
      refine (bPrefixes_any k 0 _ (by decide)).mono ?_
      rintro e w4 ⟨v, rfl, hown, hb⟩
      rw [hP0.out.2]
      rw [hP0.out.1] at hown
      obtain ⟨g0, cap0, rfl, hg0, hR0⟩ := row_form hown rfl (by rw [hlen0.out]; exact hmz)
      clear hown hR0
      replace hR := Lib.hid (hR.out.below hb hR.out.lt)
      replace hB := Lib.hid (hB.out.trans (hb.mono hB.out.size))
      clear hb
      rw [hlen0.out]
      rw [hlen.out]
      have c0 := hR.out.cell 0 (by rw [hlen.out]; exact hmz)
      rw [HG.out 0 hmz] at c0
      have z0 := HSZ.out 0
      go_wp2_with fail
      go_loopw [10] (fun i wr => ∃ j : Nat, j ≤ m ∧ i = .int .i64 j ∧ Hid (Below w.heap.size w wr ∧ Rw wr g (Bn.prefs k N))) (fun i _ => m - (intOf i).toNat)
      case atStart => exact ⟨0, by omega, rfl, Lib.hid ⟨hB.out, hR.out⟩⟩
      case round =>
        replace hB : Hid True := trivial
        replace hR : Hid True := trivial
        clear c0 z0
        obtain ⟨j, hj, rfl, hK⟩ := hrel
        by_cases hlt : j < m
        · have c0 := hK.out.2.cell j (by rw [hlen.out]; exact hlt)
          rw [HG.out j hlt] at c0
          have z0 := HSZ.out j
          have hn1 := HNUM.out j hlt
          have hb32 := HB32.out j hlt
          have hpz : (Bn.prefAt k N j).size ≤ maxLen := by rw [z0]; unfold maxLen; omega
          generalize Bn.prefAt k N j = x at *
          have hmu := HMUL.out
          generalize N * m = NM at *
          go_wp2_with fail
          refine (number_any x _ hpz).mono ?_
          rintro e _ ⟨rfl, rfl⟩
          rw [hn1.1, hn1.2]
          go_wp2_with fail
          go_roundw
          case rel => exact ⟨j + 1, by omega, by go_num, hK⟩
          case measure => simp [intOf]; omega
        · obtain rfl : j = m := by omega
          have hw1 : decide ((1 : Int) ≤ (W : Int)) = true := by simp; omega
          have hw8 : decide ((W : Int) ≤ 8) = true := by simp; omega
          have hmq := HMQ.out
          go_wp2_with fail
          go_quiet (fail)
          go_wp2_with fail
          go_ret
          exact ⟨rfl, below_drawn hK.out.1 nq⟩
    · obtain rfl := hN2.out hk32
      go_enter Tryd.func9, Tryd.ntmps9
      go_wp2_with fail
      refine (bawake_any _ (hT.below hB.out hT.lt) (hD.below hB.out hD.lt)).mono ?_
      rintro e w5 ⟨rfl, hb⟩
      replace hB := Lib.hid (hB.out.trans (hb.mono hB.out.size))
      clear hb
      go_wp2_with fail
      refine (bPrefixes_any k N _ (by omega)).mono ?_
      rintro e w6 ⟨v, rfl, hown, hb⟩
      rw [hP.out.2]
      rw [hP.out.1] at hown
      obtain ⟨g, cap, rfl, hg, hR⟩ := row_form hown rfl (by rw [hlen.out]; exact hmz)
      clear hown
      have hR := Lib.hid hR
      replace hB := Lib.hid (hB.out.trans (hb.mono hB.out.size))
      clear hb
      go_wp2_with fail
      refine (bPrefixes_any k 0 _ (by decide)).mono ?_
      rintro e w7 ⟨v, rfl, hown, hb⟩
      rw [hP0.out.2]
      rw [hP0.out.1] at hown
      obtain ⟨g0, cap0, rfl, hg0, hR0⟩ := row_form hown rfl (by rw [hlen0.out]; exact hmz)
      clear hown hR0
      replace hR := Lib.hid (hR.out.below hb hR.out.lt)
      replace hB := Lib.hid (hB.out.trans (hb.mono hB.out.size))
      clear hb
      rw [hlen0.out]
      rw [hlen.out]
      have c0 := hR.out.cell 0 (by rw [hlen.out]; exact hmz)
      rw [HG.out 0 hmz] at c0
      have z0 := HSZ.out 0
      go_wp2_with fail
      go_loopw [10] (fun i wr => ∃ j : Nat, j ≤ m ∧ i = .int .i64 j ∧ Hid (Below w.heap.size w wr ∧ Rw wr g (Bn.prefs k N))) (fun i _ => m - (intOf i).toNat)
      case atStart => exact ⟨0, by omega, rfl, Lib.hid ⟨hB.out, hR.out⟩⟩
      case round =>
        replace hB : Hid True := trivial
        replace hR : Hid True := trivial
        clear c0 z0
        obtain ⟨j, hj, rfl, hK⟩ := hrel
        by_cases hlt : j < m
        · have c0 := hK.out.2.cell j (by rw [hlen.out]; exact hlt)
          rw [HG.out j hlt] at c0
          have z0 := HSZ.out j
          have hn1 := HNUM.out j hlt
          have hb32 := HB32.out j hlt
          have hpz : (Bn.prefAt k N j).size ≤ maxLen := by rw [z0]; unfold maxLen; omega
          generalize Bn.prefAt k N j = x at *
          have hmu := HMUL.out
          generalize N * m = NM at *
          go_wp2_with fail
          refine (number_any x _ hpz).mono ?_
          rintro e _ ⟨rfl, rfl⟩
          rw [hn1.1, hn1.2]
          go_wp2_with fail
          go_roundw
          case rel => exact ⟨j + 1, by omega, by go_num, hK⟩
          case measure => simp [intOf]; omega
        · obtain rfl : j = m := by omega
          have hw1 : decide ((1 : Int) ≤ (W : Int)) = true := by simp; omega
          have hw8 : decide ((W : Int) ≤ 8) = true := by simp; omega
          have hmq := HMQ.out
          go_wp2_with fail
          go_quiet (fail)
          go_wp2_with fail
          go_ret
          exact ⟨rfl, below_drawn hK.out.1 nq⟩
theorem binsAll_walk (b n : Int) (w : World) (hn : (Lit.int .u32 n).wf = true) (hT : Tb w) (hD : Digs w) :
    Calls Tryd.prog 9 #[.int .i64 b, .int .u32 n] w fun e w' => e = .returned (.bool true) ∧ Below w.heap.size w w' := by
  have hb := bounds_u32 hn
  obtain ⟨m, rfl⟩ := Int.eq_ofNat_of_zero_le hb.1
  exact binsAllN_walk b m w (by omega) hT hD
end Go.Proofs.YtflfmacfodkedaaDoor
