/-
  The statements BinsHalves and BinsPaths, walked: they return true.
-/
import Derived.Test.YtflfmacfodkedaaDoorBinsAwake
namespace Go.Proofs.YtflfmacfodkedaaDoor
set_option linter.unusedSimpArgs false
set_option linter.unusedVariables false
open Go Go.RowKit

theorem first_digit (path : ByteArray) : Hx.dgB (Bn.dig path) 0 = true ∧ Hx.dgV (Bn.dig path) 0 = ((Bn.be4 (shaS path) / 268435456 : Nat) : Int) := by
  have hz : 0 < (Bn.dig path).size := by rw [Bn.dig_size]; omega
  have hb := Bn.dig_at path 0 (by omega)
  have h4 := Bn.be4_lt (shaS path)
  have e : Bn.be4 (shaS path) / 16 ^ (7 - 0) % 16 = Bn.be4 (shaS path) / 268435456 := by
    rw [show 16 ^ (7 - 0) = 268435456 from rfl]
    omega
  rw [e] at hb
  rw [Hx.byteAt_lt _ _ hz] at hb
  have hv := Hx.val_hexd (Bn.be4 (shaS path) / 268435456) (by omega)
  have := Hx.dg_yes (Bn.dig path) 0 hz (by rw [hb, hv]; omega)
  rw [hb, hv] at this
  exact this
theorem binN_yes (path : ByteArray) (k : Nat) (h1 : 1 ≤ k) (h2 : k ≤ 32) : Bn.binN path k = Bn.bin path k ∧ Bn.binE k = 0 := by
  have hm : Bn.may k = true := (Bn.may_iff k).2 (by omega)
  exact ⟨by unfold Bn.binN; rw [hm]; rfl, by unfold Bn.binE; rw [hm]; rfl⟩
theorem bin_one (path : ByteArray) : Bn.bin path 1 = Bn.be4 (shaS path) / 268435456 / 8 := by
  unfold Bn.bin
  rw [Nat.div_div_eq_div_mul]
theorem digB_eq (path : ByteArray) : Hx.enc (shaS path) = Bn.dig path := rfl
attribute [local irreducible] Sh.sha shaS Bn.prd Bn.dig Bn.goesS Bn.roleS Bn.roleE Bn.wrong Bn.prefL Bn.binN Bn.isP Bn.bin Bn.be4
set_option maxRecDepth 20000 in
set_option maxHeartbeats 2000000 in
theorem binsHalves_walk (path : ByteArray) (b : Int) (w : World) (hp0 : path.size ≤ maxLen) (hT : Tb w) (hD : Digs w) :
    Calls Tryd.prog 7 #[.string path, .int .i64 b] w fun e w' => e = .returned (.bool true) ∧ Below w.heap.size w w' := by
  by_cases h : 1000 < path.size
  · have hB : Hid (Below w.heap.size w w) := Below.refl _ _
    have hgt : decide ((1000 : Int) < path.size) = true := by simp; omega
    go_enter Tryd.func7, Tryd.ntmps7
    go_wp2_with fail
    refine (bawake_any _ (hT.below hB.out hT.lt) (hD.below hB.out hD.lt)).mono ?_
    rintro e w1 ⟨rfl, hb⟩
    replace hB := Lib.hid (hB.out.trans (hb.mono hB.out.size))
    clear hb
    go_wp2_with fail
    go_ret
    exact ⟨rfl, hB.out⟩
  have hB : Hid (Below w.heap.size w w) := Below.refl _ _
  have hgt : decide ((1000 : Int) < path.size) = false := by simp; omega
  have kz : path.size ≤ 1000 := by omega
  clear h hp0
  cases hm : Bn.may b with
  | false =>
    have hB : Hid (Below w.heap.size w w) := Below.refl _ _
    have E : Bn.binN path b = 0 ∧ Bn.binE b = 1 := ⟨by unfold Bn.binN; rw [hm]; rfl, by unfold Bn.binE; rw [hm]; rfl⟩
    have hnn := Bn.may_not hm
    clear hm
    rcases hnn with h1 | ⟨h1, h2⟩
    all_goals
      go_enter Tryd.func7, Tryd.ntmps7
      go_wp2_with fail
      refine (bawake_any _ (hT.below hB.out hT.lt) (hD.below hB.out hD.lt)).mono ?_
      rintro e w2 ⟨rfl, hb⟩
      replace hB := Lib.hid (hB.out.trans (hb.mono hB.out.size))
      clear hb
      go_wp2_with fail
      refine (bBin_any path b _ (hT.below hB.out hT.lt) (by omega)).mono ?_
      rintro e w3 ⟨rfl, hb⟩
      rw [E.1, E.2]
      replace hB := Lib.hid (hB.out.trans (hb.mono hB.out.size))
      clear hb
      go_wp2_with fail
      go_ret
      exact ⟨rfl, hB.out⟩
  | true =>
    have hB : Hid (Below w.heap.size w w) := Below.refl _ _
    obtain ⟨k, rfl, hk1, hk2⟩ := Bn.may_nat hm
    have E := binN_yes path k hk1 hk2
    obtain ⟨D1, D2⟩ := first_digit path
    have hdz := Bn.dig_size path
    have hd64 : (Bn.dig path).size ≤ maxLen := by rw [hdz]; unfold maxLen; omega
    have HB1 := Lib.hid (bin_one path)
    clear hm
    by_cases hk : k = 1
    · have hB : Hid (Below w.heap.size w w) := Below.refl _ _
      subst hk
      have hx : Bn.be4 (shaS path) / 268435456 < 16 := by have := Bn.be4_lt (shaS path); omega
      rw [HB1.out] at E
      clear HB1
      generalize Bn.be4 (shaS path) / 268435456 = x at *
      have heq : (((x / 8 : Nat) : Int) == (x : Int) / 8) = true := by rw [beq_iff_eq]; omega
      go_enter Tryd.func7, Tryd.ntmps7
      go_wp2_with fail
      refine (bawake_any _ (hT.below hB.out hT.lt) (hD.below hB.out hD.lt)).mono ?_
      rintro e w4 ⟨rfl, hb⟩
      replace hB := Lib.hid (hB.out.trans (hb.mono hB.out.size))
      clear hb
      go_wp2_with fail
      refine (bBin_any path (1 : Nat) _ (hT.below hB.out hT.lt) (by omega)).mono ?_
      rintro e w5 ⟨rfl, hb⟩
      rw [E.1, E.2]
      replace hB := Lib.hid (hB.out.trans (hb.mono hB.out.size))
      clear hb
      go_wp2_with fail
      refine (digest_any path _ (hT.below hB.out hT.lt) (hD.below hB.out hD.lt) (by omega)).mono ?_
      rintro e w6 ⟨rfl, hb⟩
      rw [digB_eq]
      replace hB := Lib.hid (hB.out.trans (hb.mono hB.out.size))
      clear hb
      go_wp2_with fail
      refine (digit_any _ 0 _ hd64).mono ?_
      rintro e _ ⟨rfl, rfl⟩
      rw [D1, D2]
      go_wp2_with fail
      go_ret
      exact ⟨rfl, hB.out⟩
    · have hB : Hid (Below w.heap.size w w) := Below.refl _ _
      have hk2b : 2 ≤ k := by omega
      have hk32 : decide ((k : Int) ≤ 32) = true := by simp; omega
      have E2 : Bn.binN path ((k : Int) - 1) = Bn.bin path (k - 1) ∧ Bn.binE ((k : Int) - 1) = 0 := by rw [show (k : Int) - 1 = ((k - 1 : Nat) : Int) by omega]; exact binN_yes path (k - 1) (by omega) (by omega)
      have hh := Bn.bin_half path k hk2b hk2
      have hlt := Bn.bin_lt path k hk2
      have hlt2 : Bn.bin path k < 4294967296 := Nat.lt_of_lt_of_le hlt (show 2 ^ k ≤ 2 ^ 32 from Nat.pow_le_pow_right (by omega) hk2)
      have heq : ((Bn.bin path k : Int) / 2 == (Bn.bin path (k - 1) : Int)) = true := by rw [beq_iff_eq]; omega
      have hk1b : ((k : Int) == 1) = false := by rw [beq_eq_false_iff_ne]; omega
      clear hlt hh HB1 hk
      generalize Bn.bin path k = x at *
      generalize Bn.bin path (k - 1) = y at *
      go_enter Tryd.func7, Tryd.ntmps7
      go_wp2_with fail
      refine (bawake_any _ (hT.below hB.out hT.lt) (hD.below hB.out hD.lt)).mono ?_
      rintro e w7 ⟨rfl, hb⟩
      replace hB := Lib.hid (hB.out.trans (hb.mono hB.out.size))
      clear hb
      go_wp2_with fail
      refine (bBin_any path k _ (hT.below hB.out hT.lt) (by omega)).mono ?_
      rintro e w8 ⟨rfl, hb⟩
      rw [E.1, E.2]
      replace hB := Lib.hid (hB.out.trans (hb.mono hB.out.size))
      clear hb
      go_wp2_with fail
      refine (digest_any path _ (hT.below hB.out hT.lt) (hD.below hB.out hD.lt) (by omega)).mono ?_
      rintro e w9 ⟨rfl, hb⟩
      rw [digB_eq]
      replace hB := Lib.hid (hB.out.trans (hb.mono hB.out.size))
      clear hb
      go_wp2_with fail
      refine (digit_any _ 0 _ hd64).mono ?_
      rintro e _ ⟨rfl, rfl⟩
      rw [D1, D2]
      go_wp2_with fail
      refine (bBin_any path _ _ (hT.below hB.out hT.lt) (by omega)).mono ?_
      rintro e w10 ⟨rfl, hb⟩
      rw [E2.1, E2.2]
      replace hB := Lib.hid (hB.out.trans (hb.mono hB.out.size))
      clear hb
      go_wp2_with fail
      go_ret
      exact ⟨rfl, hB.out⟩
set_option maxRecDepth 20000 in
set_option maxHeartbeats 2000000 in
theorem binsPaths_walk (ls : List ByteArray) (A : Option Addr) (cap : Nat) (path : ByteArray) (b : Int) (w : World) (hc : Strs w A ls) (hz : ∀ i, i < ls.length → (ls.getD i ByteArray.empty).size ≤ maxLen) (hl : ls.length ≤ maxLen) (hs : path.size ≤ maxLen) (hT : Tb w) (hD : Digs w) :
    Calls Tryd.prog 3 #[.slice A ls.length cap, .string path, .int .i64 b] w fun e w' => e = .returned (.bool true) ∧ Below w.heap.size w w' := by
  have hB : Hid (Below w.heap.size w w) := Below.refl _ _
  have hl2 : ls.length ≤ 9223372036854775807 := by unfold maxLen at hl; omega
  have HC := Lib.hid hc
  have HZ := Lib.hid hz
  clear hc hz
  by_cases h : 100 < ls.length
  · have hgt : decide ((100 : Int) < ls.length) = true := by simp; omega
    go_enter Tryd.func3, Tryd.ntmps3
    go_wp2_with fail
    refine (bawake_any _ (hT.below hB.out hT.lt) (hD.below hB.out hD.lt)).mono ?_
    rintro e w11 ⟨rfl, hb⟩
    replace hB := Lib.hid (hB.out.trans (hb.mono hB.out.size))
    clear hb
    go_wp2_with fail
    go_ret
    exact ⟨rfl, hB.out⟩
  have hgt : decide ((100 : Int) < ls.length) = false := by simp; omega
  by_cases h2 : 1000 < path.size
  · have hgt2 : decide ((1000 : Int) < path.size) = true := by simp; omega
    go_enter Tryd.func3, Tryd.ntmps3
    go_wp2_with fail
    refine (bawake_any _ (hT.below hB.out hT.lt) (hD.below hB.out hD.lt)).mono ?_
    rintro e w12 ⟨rfl, hb⟩
    replace hB := Lib.hid (hB.out.trans (hb.mono hB.out.size))
    clear hb
    go_wp2_with fail
    go_ret
    exact ⟨rfl, hB.out⟩
  have hgt2 : decide ((1000 : Int) < path.size) = false := by simp; omega
  have hl3 : ls.length ≤ 100 := by omega
  have hs2 : path.size ≤ 1000 := by omega
  clear h h2 hl hs
  go_enter Tryd.func3, Tryd.ntmps3
  go_wp2_with fail
  go_loopw [7] (fun i wr => ∃ k : Nat, k ≤ ls.length ∧ i = .int .i64 k ∧ Hid (Below w.heap.size w wr)) (fun i _ => ls.length - (intOf i).toNat)
  case atStart => exact ⟨0, by omega, rfl, hB⟩
  case round =>
    replace hB : Hid True := trivial
    obtain ⟨k, hk, rfl, hR⟩ := hrel
    by_cases hlt : k < ls.length
    · obtain ⟨a, rfl, hab, hc⟩ := HC.out k hlt
      have hpz := HZ.out k hlt
      generalize ls.getD k ByteArray.empty = p at *
      have h1 : wr.cell? (a.add k) = some (.string p) := (hR.out.cell (by rw [add_block]; exact hab)).trans hc
      clear hc
      have hpz2 : p.size ≤ 9223372036854775807 := by unfold maxLen at hpz; omega
      have T1 : Hid (∀ W, Calls Tryd.prog 12 #[.string p] W fun e w' => e = .returned (.bool (Bn.isP p)) ∧ w' = W) := fun W => (bIs_any p W hpz).mono fun e w' h => ⟨h.1, h.2.symm⟩
      have T2 : Hid (∀ W, Calls Tryd.prog 13 #[.string p] W fun e w' => e = .returned (.bool (Bn.isP p)) ∧ w' = W) := fun W => (rbIs_any p W hpz).mono fun e w' h => ⟨h.1, h.2.symm⟩
      generalize Bn.isP p = r at *
      have hrr : (r != r) = false := bne_self_eq_false r
      by_cases h3 : 1000 < p.size
      · have hg3 : decide ((1000 : Int) < p.size) = true := by simp; omega
        go_wp2_with fail
        go_quiet ((first | (go_at_call 12; exact Calls.quiet_of_same (T1.out _)) | (go_at_call 13; exact Calls.quiet_of_same (T2.out _))))
        obtain ⟨wq, hwq⟩ : ∃ wq : World, wq = wr.drewN nq := ⟨_, rfl⟩
        have h1q : wq.cell? (a.add k) = some (.string p) := by rw [hwq]; exact h1
        have hR2 : Hid (Below w.heap.size w wq) := by rw [hwq]; exact Lib.hid (below_drawn hR.out nq)
        rw [← hwq]
        clear hwq h1
        go_wp2_with fail
        go_ret
        exact ⟨rfl, hR2.out⟩
      · have hg3 : decide ((1000 : Int) < p.size) = false := by simp; omega
        go_wp2_with fail
        go_quiet ((first | (go_at_call 12; exact Calls.quiet_of_same (T1.out _)) | (go_at_call 13; exact Calls.quiet_of_same (T2.out _))))
        obtain ⟨wq, hwq⟩ : ∃ wq : World, wq = wr.drewN nq := ⟨_, rfl⟩
        have h1q : wq.cell? (a.add k) = some (.string p) := by rw [hwq]; exact h1
        have hR2 : Hid (Below w.heap.size w wq) := by rw [hwq]; exact Lib.hid (below_drawn hR.out nq)
        rw [← hwq]
        clear hwq h1
        go_wp2_with fail
        go_roundw
        case rel => exact ⟨k + 1, by omega, by go_num, hR2⟩
        case measure => simp [intOf]; omega
    · clear hB
      have hB := hR
      have hlm : ls.length ≤ maxLen := by unfold maxLen; omega
      have hrr : ∀ r : Bool, (r == r) = true := fun r => beq_self_eq_true r
      go_wp2_with fail
      refine (bBin_any path b _ (hT.below hB.out hT.lt) (by omega)).mono ?_
      rintro e w13 ⟨rfl, hb⟩
      replace hB := Lib.hid (hB.out.trans (hb.mono hB.out.size))
      clear hb
      go_wp2_with fail
      refine (rBin_any path b _ (by omega)).mono ?_
      rintro e w14 ⟨rfl, hb⟩
      replace hB := Lib.hid (hB.out.trans (hb.mono hB.out.size))
      clear hb
      go_wp2_with fail
      refine (bPrefixed_any ls A cap path _ (hT.below hB.out hT.lt) (hD.below hB.out hD.lt) (fun i hi => by obtain ⟨a, e1, e2, e3⟩ := HC.out i hi; exact ⟨a, e1, Nat.lt_of_lt_of_le e2 hB.out.size, (hB.out.cell (by rw [add_block]; exact e2)).trans e3⟩) HZ.out hlm (by omega)).mono ?_
      rintro e w15 ⟨rfl, hb⟩
      replace hB := Lib.hid (hB.out.trans (hb.mono hB.out.size))
      clear hb
      go_wp2_with fail
      refine (rPrefixed_any ls A cap path _ (fun i hi => by obtain ⟨a, e1, e2, e3⟩ := HC.out i hi; exact ⟨a, e1, Nat.lt_of_lt_of_le e2 hB.out.size, (hB.out.cell (by rw [add_block]; exact e2)).trans e3⟩) HZ.out hlm (by omega)).mono ?_
      rintro e w16 ⟨rfl, hb⟩
      replace hB := Lib.hid (hB.out.trans (hb.mono hB.out.size))
      clear hb
      have hr1 := hrr (Bn.prd ls path)
      have hr2 : ((Bn.binN path b : Int) == (Bn.binN path b : Int)) = true := beq_self_eq_true _
      generalize Bn.prd ls path = r at *
      generalize Bn.binN path b = r2 at *
      generalize Bn.binE b = r3 at *
      go_wp2_with fail
      refine (bawake_any _ (hT.below hB.out hT.lt) (hD.below hB.out hD.lt)).mono ?_
      rintro e w17 ⟨rfl, hb⟩
      replace hB := Lib.hid (hB.out.trans (hb.mono hB.out.size))
      clear hb
      go_wp2_with fail
      go_ret
      exact ⟨rfl, hB.out⟩
end Go.Proofs.YtflfmacfodkedaaDoor
