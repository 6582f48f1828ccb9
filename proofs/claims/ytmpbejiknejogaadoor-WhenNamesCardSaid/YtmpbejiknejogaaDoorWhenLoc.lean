/-
  The helpers of the statements of layer 12: number, text, is, no; the examples.
-/
import Derived.Test.YtmpbejiknejogaaDoorWhenFns3
import Derived.Test.YtmpbejiknejogaaDoorWhenFns4
import Derived.Test.YtmpbejiknejogaaDoorWhenRef
namespace Go.Proofs.YtmpbejiknejogaaDoor
set_option linter.unusedSimpArgs false
set_option linter.unusedVariables false
open Go Go.RowKit

/-- The number of so many bytes from a place on. -/
def Wh.nb (s : ByteArray) (i : Nat) : Nat → Int
  | 0 => 0
  | n + 1 => 10 * Wh.nb s i n + ((Uf.b s (i + n) : Int) - 48)
theorem Wh.nb_bd (s : ByteArray) (i : Nat) : ∀ n, n ≤ 4 → -53333 ≤ Wh.nb s i n ∧ Wh.nb s i n ≤ 300000 := by
  intro n hn
  have h0 := Uf.b_lt s (i + 0); have h1 := Uf.b_lt s (i + 1); have h2 := Uf.b_lt s (i + 2); have h3 := Uf.b_lt s (i + 3)
  have : n = 0 ∨ n = 1 ∨ n = 2 ∨ n = 3 ∨ n = 4 := by omega
  rcases this with rfl | rfl | rfl | rfl | rfl <;> simp only [Wh.nb] <;> omega
set_option maxHeartbeats 1000000 in
theorem number_any (s : ByteArray) (i k : Nat) (I J : Int) (w : World) (hI : I = (i : Int)) (hJ : J = ((i + k : Nat) : Int)) (hk : k ≤ 4) (h : i + k ≤ s.size) (hz : s.size ≤ 20) :
    Calls Tryd.prog 17 #[.string s, .int .i64 I, .int .i64 J] w fun e w' => e = .returned (.int .i64 (Wh.nb s i k)) ∧ w = w' := by
  subst hI hJ
  go_enter Tryd.func17, Tryd.ntmps17
  go_wp2_with fail
  go_loop [7, 8] (fun u v => ∃ n : Nat, n ≤ k ∧ v = .int .i64 ((i + n : Nat) : Int) ∧ u = .int .i64 (Wh.nb s i n)) (fun _ v => i + k - (intOf v).toNat)
  case atStart => exact ⟨0, Nat.zero_le _, rfl, rfl⟩
  case round =>
    obtain ⟨n, hn, rfl, rfl⟩ := hrel
    have hb := Wh.nb_bd s i n (by omega)
    by_cases hlt : n < k
    · have hin : i + n < s.size := by omega
      have hbyte := s[i + n].toNat_lt
      have hbn := Uf.b_at s (i + n) hin
      have hnx : Hid (Wh.nb s i (n + 1) = 10 * Wh.nb s i n + (s[i + n].toNat : Int) - 48) := by
        show _ = _
        rw [Wh.nb, hbn]; omega
      have g1 : ∀ W, (Instr.index 9 (.string s) (.int .i64 ((i + n : Nat) : Int))).run Tryd.prog W = .ok (.int .u8 (s[i + n].toNat : Int)) W := fun W => index_at (P := Tryd.prog) 9 Tryd.underlying9 s _ (i + n) rfl hin W
      clear hbn
      generalize s[i + n].toNat = x at *
      obtain ⟨q, hq⟩ : ∃ q : Nat, q = i + n := ⟨_, rfl⟩
      rw [← hq] at g1 hin ⊢
      have hqk : q < i + k := by omega
      have HQ := Lib.hid hq
      clear hq
      go_wp2_with fail
      go_round
      case rel => exact ⟨n + 1, by omega, by rw [HQ.out]; go_num, by rw [hnx.out]⟩
      case measure => simp [intOf]; omega
    · obtain rfl : n = k := by omega
      go_wp2_with fail
      go_ret
      exact ⟨rfl, rfl⟩
/-- So many last digits. -/
def Wh.dg (n : Int) : Nat → ByteArray
  | 0 => ⟨#[]⟩
  | k + 1 => ⟨#[UInt8.ofNat (48 + n / 10 ^ k % 10).toNat]⟩ ++ Wh.dg n k
theorem Wh.dg_size (n : Int) : ∀ k, (Wh.dg n k).size = k
  | 0 => rfl
  | k + 1 => by
    rw [Wh.dg, ByteArray.size_append, Wh.dg_size n k]
    show 1 + k = k + 1
    omega
theorem Wh.dg2 (n : Int) : Wh.dg n 2 = Wh.d2 n := by
  simp only [Wh.dg]
  unfold Wh.d2
  have e1 : (48 + n / 10 ^ 0 % 10).toNat = (48 + n % 10).toNat := by simp
  have e2 : (48 + n / 10 ^ 1 % 10).toNat = (48 + n / 10 % 10).toNat := by simp
  rw [e1, e2]
  rfl
theorem Wh.dg4 (n : Int) : Wh.dg n 4 = Wh.d2 (n / 100) ++ Wh.d2 (n % 100) := by
  simp only [Wh.dg]
  unfold Wh.d2
  have e1 : (48 + n / 10 ^ 0 % 10).toNat = (48 + n % 100 % 10).toNat := by first | (simp; done) | (simp; omega)
  have e2 : (48 + n / 10 ^ 1 % 10).toNat = (48 + n % 100 / 10 % 10).toNat := by first | (simp; done) | (simp; omega)
  have e3 : (48 + n / 10 ^ 2 % 10).toNat = (48 + n / 100 % 10).toNat := by
    have : (10 : Int) ^ 2 = 100 := by decide
    rw [this]
  have e4 : (48 + n / 10 ^ 3 % 10).toNat = (48 + n / 100 / 10 % 10).toNat := by
    have : (10 : Int) ^ 3 = 1000 := by decide
    rw [this]; omega
  rw [e1, e2, e3, e4]
  rfl
set_option maxHeartbeats 1000000 in
theorem text_any (n : Int) (k : Nat) (K : Int) (w : World) (hK : K = (k : Int)) (h0 : 0 ≤ n) (h1 : n ≤ 100000) (hk : k ≤ 4) :
    Calls Tryd.prog 15 #[.int .i64 n, .int .i64 K] w fun e w' => e = .returned (.string (Wh.dg n k)) ∧ Below w.heap.size w w' := by
  subst hK
  go_enter Tryd.func15, Tryd.ntmps15
  go_wp2_with fail
  go_loopw [0, 5, 6] (fun a u v wr => ∃ i : Nat, i ≤ k ∧ v = .int .i64 i ∧ u = .string (Wh.dg n i) ∧ (∃ x : Int, a = .int .i64 x ∧ Hid (x = n / 10 ^ i) ∧ 0 ≤ x ∧ x ≤ 100000) ∧ Hid (Below w.heap.size w wr)) (fun _ _ v _ => k - (intOf v).toNat)
  case atStart => exact ⟨0, Nat.zero_le _, rfl, rfl, ⟨n, rfl, by show _ = _; simp, h0, h1⟩, Below.refl _ _⟩
  case round =>
    obtain ⟨i, hi, rfl, rfl, ⟨x, rfl, hx, hx0, hx1⟩, hb⟩ := hrel
    by_cases hlt : i < k
    · obtain ⟨p, hp, hp2⟩ : ∃ p : Nat, 48 + x % 10 = (p : Int) ∧ p < 256 := ⟨(48 + x % 10).toNat, by omega, by omega⟩
      have hcv := say_one p hp2 wr
      have hz := Wh.dg_size n i
      have hz2 : (Wh.dg n i).size ≤ 4 := by omega
      have hdg : Hid (Wh.dg n (i + 1) = ⟨#[UInt8.ofNat p]⟩ ++ Wh.dg n i) := by
        show _ = _
        rw [Wh.dg, ← hx.out, hp]; rfl
      have hx2 : Hid (x / 10 = n / 10 ^ (i + 1)) := by
        show _ = _
        rw [hx.out, Int.pow_succ, Int.ediv_ediv_of_nonneg (Int.pow_nonneg (by omega))]
      have hb2 : Hid (Below w.heap.size w (wr.alloc (.cells #[.int .u8 (p : Int)] 5))) := hb.out.alloc hb.out.size _
      clear hz
      go_wp2_with fail
      go_roundw
      case rel => exact ⟨i + 1, by omega, by go_num, by rw [hdg.out], ⟨x / 10, rfl, hx2, by omega, by omega⟩, hb2⟩
      case measure => simp [intOf]; omega
    · obtain rfl : i = k := by omega
      go_wp2_with fail
      go_ret
      exact ⟨rfl, hb.out⟩

set_option maxHeartbeats 1000000 in
theorem is_any (n y m d : Int) (s : ByteArray) (w : World) (hT : Tb w) (h0 : 0 ≤ n) (h1 : n ≤ 253402300799) (hd : Wh.VD y m d) (hn : Wh.dn y m d = n / 86400) (hs : s = Wh.txn y m d n) :
    Calls Tryd.prog 21 #[.string s, .int .i64 n] w fun e w' => e = .returned (.bool true) ∧ Below w.heap.size w w' := by
  have hr := Wh.rd_txn hd h0 hn
  rw [← hs] at hr
  have R := Lib.hid hr
  have hz : s.size ≤ maxLen := by rw [hs]; unfold Wh.txn; rw [Wh.tx_size]; decide
  have SH := Lib.hid (fun W (h : Tb W) => show_any n y m d W h h0 h1 hd hn)
  rw [← hs] at SH
  have HT := Lib.hid hT
  clear hr hs hd hn hT
  have hB : Hid (Below w.heap.size w w) := Below.refl _ _
  go_enter Tryd.func21, Tryd.ntmps21
  go_wp2_with fail
  refine (read_any s _ hz (HT.out.to hB.out)).mono ?_
  rintro e w1 ⟨rfl, hb1⟩
  rw [R.out.1, R.out.2]
  replace hB := Lib.hid (keep_trans hB.out hb1)
  clear hb1
  go_wp2_with fail
  refine (SH.out _ (HT.out.to hB.out)).mono ?_
  rintro e w1 ⟨rfl, hb1⟩
  replace hB := Lib.hid (keep_trans hB.out hb1)
  clear hb1
  go_wp2_with fail
  go_ret
  exact ⟨rfl, hB.out⟩
set_option maxHeartbeats 1000000 in
theorem no_any (s : ByteArray) (w : World) (hT : Tb w) (hz : s.size ≤ maxLen) (hg : Wh.good s = false) :
    Calls Tryd.prog 22 #[.string s] w fun e w' => e = .returned (.bool true) ∧ Below w.heap.size w w' := by
  have R := Lib.hid (Wh.rd_no hg)
  have HT := Lib.hid hT
  clear hT hg
  have hB : Hid (Below w.heap.size w w) := Below.refl _ _
  go_enter Tryd.func22, Tryd.ntmps22
  go_wp2_with fail
  refine (read_any s _ hz (HT.out.to hB.out)).mono ?_
  rintro e w1 ⟨rfl, hb1⟩
  rw [R.out.1, R.out.2]
  replace hB := Lib.hid (keep_trans hB.out hb1)
  clear hb1
  go_wp2_with fail
  go_ret
  exact ⟨rfl, hB.out⟩
theorem over_yes (a b : Int) (w : World) (v : Bool) (h : decide (a ≤ b) = v) : Calls Tryd.prog 23 #[.int .i64 a, .int .i64 b] w fun e w' => e = .returned (.bool v) ∧ w = w' := by
  have := over_any a b w
  rwa [h] at this
/-- A day, as a decision. -/
def Wh.vd (y m d : Int) : Bool := decide (1970 ≤ y) && decide (y ≤ 9999) && decide (1 ≤ m) && decide (m ≤ 12) && decide (1 ≤ d) && decide (d ≤ Wh.dim y m)
theorem Wh.vd_mk {y m d : Int} (h : Wh.vd y m d = true) : Wh.VD y m d := by
  unfold Wh.vd at h
  simp only [Bool.and_eq_true, decide_eq_true_eq] at h
  exact ⟨h.1.1.1.1.1, h.1.1.1.1.2, h.1.1.1.2, h.1.1.2, h.1.2, h.2⟩
set_option maxHeartbeats 1000000 in
theorem wawake_any (w : World) (hT : Tb w) :
    Calls Tryd.prog 12 #[] w fun e w' => e = .returned (.bool true) ∧ Below w.heap.size w w' := by
  have HT := Lib.hid hT
  clear hT
  have hB : Hid (Below w.heap.size w w) := Below.refl _ _
  go_enter Tryd.func12, Tryd.ntmps12
  go_wp2_with fail
  refine (is_any 0 1970 1 1 ⟨#[49, 57, 55, 48, 45, 48, 49, 45, 48, 49, 84, 48, 48, 58, 48, 48, 58, 48, 48, 90]⟩ _ (HT.out.to hB.out) (by decide) (by decide) (Wh.vd_mk (by decide +kernel)) (by decide +kernel) (by decide +kernel)).mono ?_
  rintro e w1 ⟨rfl, hb1⟩
  replace hB := Lib.hid (keep_trans hB.out hb1)
  clear hb1
  go_wp2_with fail
  refine (is_any 2147483647 2038 1 19 ⟨#[50, 48, 51, 56, 45, 48, 49, 45, 49, 57, 84, 48, 51, 58, 49, 52, 58, 48, 55, 90]⟩ _ (HT.out.to hB.out) (by decide) (by decide) (Wh.vd_mk (by decide +kernel)) (by decide +kernel) (by decide +kernel)).mono ?_
  rintro e w1 ⟨rfl, hb1⟩
  replace hB := Lib.hid (keep_trans hB.out hb1)
  clear hb1
  go_wp2_with fail
  refine (is_any 951782400 2000 2 29 ⟨#[50, 48, 48, 48, 45, 48, 50, 45, 50, 57, 84, 48, 48, 58, 48, 48, 58, 48, 48, 90]⟩ _ (HT.out.to hB.out) (by decide) (by decide) (Wh.vd_mk (by decide +kernel)) (by decide +kernel) (by decide +kernel)).mono ?_
  rintro e w1 ⟨rfl, hb1⟩
  replace hB := Lib.hid (keep_trans hB.out hb1)
  clear hb1
  go_wp2_with fail
  refine (no_any ⟨#[50, 49, 48, 48, 45, 48, 50, 45, 50, 57, 84, 48, 48, 58, 48, 48, 58, 48, 48, 90]⟩ _ (HT.out.to hB.out) (by decide) (by decide +kernel)).mono ?_
  rintro e w1 ⟨rfl, hb1⟩
  replace hB := Lib.hid (keep_trans hB.out hb1)
  clear hb1
  go_wp2_with fail
  refine (over_yes 7 7 _ true (by decide)).mono ?_
  rintro e _ ⟨rfl, rfl⟩
  go_wp2_with fail
  refine (over_yes 8 7 _ false (by decide)).mono ?_
  rintro e _ ⟨rfl, rfl⟩
  go_wp2_with fail
  go_ret
  exact ⟨rfl, hB.out⟩
end Go.Proofs.YtmpbejiknejogaaDoor
