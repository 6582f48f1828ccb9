/-
  The walks of package bins, and of the document's words beside it: Is, Bin, Prefixed.
-/
import Derived.Test.YtflfmacfodkedaaDoorBinsFns
import Derived.Test.YtflfmacfodkedaaDoorRefHex
import Derived.Test.YtflfmacfodkedaaDoorArgs
namespace Go.Proofs.YtflfmacfodkedaaDoor
set_option linter.unusedSimpArgs false
set_option linter.unusedVariables false
open Go Go.RowKit
theorem shaS_eq (s : ByteArray) : strN (Sh.sha (byt s)) = shaS s := rfl
attribute [local irreducible] Sh.sha shaS

set_option maxRecDepth 20000 in
theorem bIs_any (p : ByteArray) (w : World) (hp : p.size ≤ maxLen) : Calls Tryd.prog 12 #[.string p] w fun e w' => e = .returned (.bool (Bn.isP p)) ∧ w = w' := by
  have hp2 : p.size ≤ 9223372036854775807 := by unfold maxLen at hp; omega
  by_cases h1 : 1 ≤ p.size
  · by_cases h2 : p.size ≤ 64
    · have E : Hid (Bn.isP p = Hx.isHex p) := by show _ = _; unfold Bn.isP; rw [decide_eq_true h1, decide_eq_true h2]; rfl
      go_enter Tryd.func12, Tryd.ntmps12
      go_wp2_with fail
      refine (is_any p _ hp).mono ?_
      rintro e _ ⟨rfl, rfl⟩
      go_wp2_with fail
      go_ret
      exact ⟨ret_b E.out.symm, rfl⟩
    · go_enter Tryd.func12, Tryd.ntmps12
      go_wp2_with fail
      go_ret
      exact ⟨ret_b (by unfold Bn.isP; rw [decide_eq_false h2]; simp), rfl⟩
  · go_enter Tryd.func12, Tryd.ntmps12
    go_wp2_with fail
    go_ret
    exact ⟨ret_b (by unfold Bn.isP; rw [decide_eq_false h1]; simp), rfl⟩
set_option maxRecDepth 20000 in
theorem rbIs_any (p : ByteArray) (w : World) (hp : p.size ≤ maxLen) : Calls Tryd.prog 13 #[.string p] w fun e w' => e = .returned (.bool (Bn.isP p)) ∧ w = w' := by
  have hp2 : p.size ≤ 9223372036854775807 := by unfold maxLen at hp; omega
  by_cases h1 : 1 ≤ p.size
  · by_cases h2 : p.size ≤ 64
    · have E : Hid (Bn.isP p = Hx.isHex p) := by show _ = _; unfold Bn.isP; rw [decide_eq_true h1, decide_eq_true h2]; rfl
      go_enter Tryd.func13, Tryd.ntmps13
      go_wp2_with fail
      refine (ris_any p _ hp).mono ?_
      rintro e _ ⟨rfl, rfl⟩
      go_wp2_with fail
      go_ret
      exact ⟨ret_b E.out.symm, rfl⟩
    · go_enter Tryd.func13, Tryd.ntmps13
      go_wp2_with fail
      go_ret
      exact ⟨ret_b (by unfold Bn.isP; rw [decide_eq_false h2]; simp), rfl⟩
  · go_enter Tryd.func13, Tryd.ntmps13
    go_wp2_with fail
    go_ret
    exact ⟨ret_b (by unfold Bn.isP; rw [decide_eq_false h1]; simp), rfl⟩

theorem bit_cast (y p : Nat) (hy : y < 256) : (IntKind.u64.wrap ((y : Int) / (p : Int))).tmod 2 = ((y / p % 2 : Nat) : Int) := by
  have h1 : (y : Int) / (p : Int) = ((y / p : Nat) : Int) := by rw [Int.natCast_ediv]
  have h2 : y / p ≤ y := Nat.div_le_self _ _
  rw [h1, IntKind.wrap_u64]
  generalize y / p = z at *
  rw [Int.tmod_eq_emod_of_nonneg (by omega)]
  omega
theorem div_pow_cast (x m : Nat) : (x : Int) / 2 ^ m = ((x / 2 ^ m : Nat) : Int) := by rw [Int.natCast_ediv, Int.natCast_pow]; rfl
/-- The number of the first i bytes. -/
def pb (b : List Nat) : Nat → Nat
  | 0 => 0
  | i + 1 => pb b i * 256 + b.getD i 0
theorem pb_four (s : ByteArray) : pb (byt s) 4 = Bn.be4 s := by unfold Bn.be4 Bn.b4; simp [pb]; omega
theorem pb_lt (s : ByteArray) (i : Nat) (h : i < 4) : pb (byt s) i < 16777216 := by
  have h0 := Bn.byt_lt4 s 0; have h1 := Bn.byt_lt4 s 1; have h2 := Bn.byt_lt4 s 2
  rcases (show i = 0 ∨ i = 1 ∨ i = 2 ∨ i = 3 by omega) with rfl | rfl | rfl | rfl <;> simp only [pb] <;> omega
theorem or_byte (x y : Nat) (hx : x < 16777216) (hy : y < 256) : bits .or .u32 ((x : Int) * 256) (y : Int) = ((x * 256 + y : Nat) : Int) := by
  rw [u32_or _ _ (by omega) (by omega) (by omega) (by omega), nat_join 8 _ _ (by omega) (by omega)]
  congr 1 <;> omega
theorem byt_getElem (s : ByteArray) (i : Nat) (h : i < s.size) : s[i].toNat = (byt s).getD i 0 := by
  rw [← Bn.byteAt_toNat s i h, Hx.byteAt_lt s i h]
set_option maxRecDepth 20000 in
set_option maxHeartbeats 1000000 in
theorem bBin_any (path : ByteArray) (b : Int) (w : World) (hT : Tb w) (hs : path.size ≤ 1099511627776) : Calls Tryd.prog 14 #[.string path, .int .i64 b] w fun e w' => e = .returned (.tuple #[.int .u32 (Bn.binN path b : Nat), .int .i64 (Bn.binE b)]) ∧ Below w.heap.size w w' := by
  cases hm : Bn.may b with
  | false =>
    have E : Hid (Bn.binN path b = 0 ∧ Bn.binE b = 1) := ⟨by unfold Bn.binN; rw [hm]; rfl, by unfold Bn.binE; rw [hm]; rfl⟩
    go_enter Tryd.func14, Tryd.ntmps14
    go_wp2_with fail
    refine (bmay_any b _).mono ?_
    rintro e _ ⟨rfl, rfl⟩
    rw [hm]
    go_wp2_with fail
    go_ret2
    exact ⟨by rw [E.out.1, E.out.2]; rfl, Below.refl _ _⟩
  | true =>
    obtain ⟨k, rfl, hk1, hk2⟩ := Bn.may_nat hm
    have E : Hid (Bn.binN path k = Bn.be4 (shaS path) / 2 ^ (32 - k) ∧ Bn.binE k = 0) := ⟨by unfold Bn.binN; rw [hm]; rfl, by unfold Bn.binE; rw [hm]; rfl⟩
    have hz := shaS_size path
    go_enter Tryd.func14, Tryd.ntmps14
    go_wp2_with fail
    refine (bmay_any k _).mono ?_
    rintro e _ ⟨rfl, rfl⟩
    rw [hm]
    go_wp2_with fail
    refine (shaSum_any path _ hT hs).mono ?_
    rintro e w1 ⟨rfl, hb⟩
    have hB := Lib.hid hb
    clear hb
    generalize shaS path = S at *
    go_wp2_with fail
    go_loop [7, 8] (fun v i => ∃ j : Nat, j ≤ 4 ∧ i = .int .i64 j ∧ v = .int .u32 (pb (byt S) j : Nat)) (fun _ i => 4 - (intOf i).toNat)
    case atStart => exact ⟨0, by omega, rfl, rfl⟩
    case round =>
      obtain ⟨j, hj, rfl, rfl⟩ := hrel
      by_cases hlt : j < 4
      · have hx := pb_lt S j hlt
        have hst := Lib.hid (show pb (byt S) (j + 1) = pb (byt S) j * 256 + (byt S).getD j 0 from rfl)
        have hy := getD_lt256 (byt_lt S) j
        have hix := fun W => index_at (P := Tryd.prog) 9 Tryd.underlying9 S (j : Int) j rfl (by omega) W
        rw [byt_getElem S j (by omega)] at hix
        have hor := or_byte (pb (byt S) j) ((byt S).getD j 0) hx hy
        generalize (byt S).getD j 0 = y at *
        generalize pb (byt S) j = x at *
        go_wp2_with fail
        go_round
        case rel => exact ⟨j + 1, by omega, by go_num, by rw [hst.out]; exact congrArg _ (by omega)⟩
        case measure => simp [intOf]; omega
      · obtain rfl : j = 4 := by omega
        obtain ⟨m, hm2⟩ : ∃ m, m = 32 - k := ⟨_, rfl⟩
        have hm3 : (32 : Int) - (k : Int) = (m : Int) := by omega
        have hm4 : m ≤ 31 := by omega
        have E2 := E.out
        rw [← hm2, ← pb_four] at E2
        have E3 := Lib.hid E2
        have hx : pb (byt S) 4 < 4294967296 := by rw [pb_four]; exact Bn.be4_lt S
        clear E2 E hm2
        generalize pb (byt S) 4 = x at *
        go_wp2_with fail
        go_ret2
        exact ⟨ret_ii ((div_pow_cast x m).trans (congrArg Nat.cast E3.out.1.symm)) E3.out.2.symm, hB.out⟩
theorem power_q (a : Int) (n : Nat) (w : World) (h : n ≤ 40) (ha : a = (n : Int)) : Calls Tryd.prog 40 #[.int .i64 a] w fun e w' => e = .returned (.int .u64 (2 ^ n : Nat)) ∧ w' = w := by
  subst ha
  exact (power_any n w h).mono fun e w' h => ⟨h.1, h.2.symm⟩

set_option maxRecDepth 20000 in
set_option maxHeartbeats 1000000 in
theorem rBin_any (path : ByteArray) (b : Int) (w : World) (hs : path.size ≤ 1099511627776) : Calls Tryd.prog 15 #[.string path, .int .i64 b] w fun e w' => e = .returned (.tuple #[.int .u32 (Bn.binN path b : Nat), .int .i64 (Bn.binE b)]) ∧ Below w.heap.size w w' := by
  cases hm : Bn.may b with
  | false =>
    have E : Hid (Bn.binN path b = 0 ∧ Bn.binE b = 1) := ⟨by unfold Bn.binN; rw [hm]; rfl, by unfold Bn.binE; rw [hm]; rfl⟩
    have hn : b < 1 ∨ (1 ≤ b ∧ 32 < b) := Bn.may_not hm
    clear hm
    rcases hn with h1 | ⟨h1, h2⟩
    all_goals
      go_enter Tryd.func15, Tryd.ntmps15
      go_wp2_with fail
      go_ret2
      exact ⟨by rw [E.out.1, E.out.2]; rfl, Below.refl _ _⟩
  | true =>
    obtain ⟨k, rfl, hk1, hk2⟩ := Bn.may_nat hm
    have E : Hid (Bn.binN path k = Bn.be4 (shaS path) / 2 ^ (32 - k) ∧ Bn.binE k = 0) := ⟨by unfold Bn.binN; rw [hm]; rfl, by unfold Bn.binE; rw [hm]; rfl⟩
    have hz := shaS_size path
    clear hm
    go_enter Tryd.func15, Tryd.ntmps15
    go_wp2_with fail
    refine (rsum_any path _ hs).mono ?_
    rintro e w1 ⟨rfl, hb⟩
    rw [shaS_eq]
    have hB := Lib.hid hb
    clear hb
    generalize shaS path = S at *
    go_wp2_with fail
    go_loopw [7, 8] (fun v i wr => ∃ j : Nat, j ≤ k ∧ i = .int .i64 j ∧ v = .int .u32 (Bn.be4 S / 2 ^ (32 - j) : Nat) ∧ Hid (Below w.heap.size w wr)) (fun _ i _ => k - (intOf i).toNat)
    case atStart => exact ⟨0, by omega, rfl, by rw [Nat.div_eq_of_lt (Bn.be4_lt S)]; rfl, hB⟩
    case round =>
      obtain ⟨j, hj, rfl, rfl, hR⟩ := hrel
      by_cases hlt : j < k
      · have hst := Lib.hid (Bn.bin_step S j (by omega))
        have hx : Bn.be4 S / 2 ^ (32 - j) < 2147483648 := by
          rw [Nat.div_lt_iff_lt_mul (Nat.two_pow_pos _)]
          have h1 := Bn.be4_lt S
          have h2 : 2 ^ 1 ≤ 2 ^ (32 - j) := Nat.pow_le_pow_right (by omega) (by omega)
          omega
        have hy := getD_lt256 (byt_lt S) (j / 8)
        have hix := fun W => index_at (P := Tryd.prog) 9 Tryd.underlying9 S ((j : Int) / 8) (j / 8) (by omega) (by omega) W
        rw [byt_getElem S (j / 8) (by omega)] at hix
        have hp1 : 0 < 2 ^ (7 - j % 8) := Nat.two_pow_pos _
        have hp2 : 2 ^ (7 - j % 8) ≤ 2 ^ 7 := Nat.pow_le_pow_right (by omega) (by omega)
        have T : Hid (∀ W a, a = (((7 - j % 8 : Nat)) : Int) → Calls Tryd.prog 40 #[.int .i64 a] W fun e w' => e = .returned (.int .u64 (2 ^ (7 - j % 8) : Nat)) ∧ w' = W) := fun W a ha => power_q a _ W (by omega) ha
        generalize (byt S).getD (j / 8) 0 = y at *
        generalize Bn.be4 S / 2 ^ (32 - j) = x at *
        generalize 2 ^ (7 - j % 8) = p at *
        have hp3 : p ≤ 128 := hp2
        clear hp2
        go_wp2_with fail
        go_quiet ((go_at_call 40; exact Calls.quiet_of_same (T.out _ _ (by omega))))
        rw [bit_cast y p hy]
        have ht : y / p % 2 < 2 := Nat.mod_lt _ (by omega)
        generalize y / p % 2 = t at *
        obtain ⟨wq, hwq⟩ : ∃ wq : World, wq = wr.drewN nq := ⟨_, rfl⟩
        have hR2 : Hid (Below w.heap.size w wq) := by rw [hwq]; exact Lib.hid (below_drawn hR.out nq)
        rw [← hwq]
        clear hwq
        go_wp2_with fail
        go_roundw
        case rel => exact ⟨j + 1, by omega, by go_num, by rw [hst.out]; exact congrArg _ (by omega), hR2⟩
        case measure => simp [intOf]; omega
      · obtain rfl : j = k := by omega
        go_wp2_with fail
        go_ret2
        exact ⟨ret_ii (congrArg Nat.cast E.out.1.symm) E.out.2.symm, hR.out⟩
end Go.Proofs.YtflfmacfodkedaaDoor
