/-
  The calendar: days, months, years; the text of a moment. Plain facts; no program in sight.
-/
import Derived.Test.YtmpbejiknejogaaDoorRunes2
import Derived.Lib.ItoaNum
namespace Go.Proofs.YtmpbejiknejogaaDoor.Wh
set_option linter.unusedSimpArgs false
set_option linter.unusedVariables false
open Go

/-- Has a year a leap day? -/
def leap (y : Int) : Bool := (decide (y % 4 = 0) && !decide (y % 100 = 0)) || decide (y % 400 = 0)
def lp (y : Int) : Int := if leap y then 1 else 0
theorem leap_iff (y : Int) : leap y = true ↔ (y % 4 = 0 ∧ y % 100 ≠ 0) ∨ y % 400 = 0 := by
  unfold leap; simp
theorem lp_cases (y : Int) : (leap y = true ∧ lp y = 1) ∨ (leap y = false ∧ lp y = 0) := by
  unfold lp
  cases leap y with
  | true => exact .inl ⟨rfl, rfl⟩
  | false => exact .inr ⟨rfl, rfl⟩
theorem lp_01 (y : Int) : 0 ≤ lp y ∧ lp y ≤ 1 := by rcases lp_cases y with ⟨_, h⟩ | ⟨_, h⟩ <;> omega
/-- The leap days of the years up to one. -/
def lps (y : Int) : Int := y / 4 - y / 100 + y / 400
/-- The days from 1970 to a year. -/
def start (y : Int) : Int := 365 * (y - 1970) + lps (y - 1) - 477
theorem start_succ (y : Int) : start (y + 1) = start y + 365 + lp y := by
  unfold start lps
  rcases lp_cases y with ⟨h, e⟩ | ⟨h, e⟩
  · have := (leap_iff y).1 h; rw [e]; omega
  · have : ¬ _ := fun x => by rw [(leap_iff y).2 x] at h; cases h
    rw [e]; omega
theorem start_mono (a b : Int) (h : a ≤ b) : start a ≤ start b := by unfold start lps; omega
theorem start_bd (y : Int) (h1 : 1970 ≤ y) (h2 : y ≤ 10000) : 0 ≤ start y ∧ start y ≤ 2932897 := by unfold start lps; omega
theorem start_0 : start 1970 = 0 := rfl
theorem start_end : start 10000 = 2932897 := rfl
/-- The days before each month of a year without a leap day. -/
def bef (i : Nat) : Int := ([0, 31, 59, 90, 120, 151, 181, 212, 243, 273, 304, 334, 365] : List Int).getD i 0
/-- The days of a month. -/
def dim (y m : Int) : Int := if y < 1970 ∨ 9999 < y ∨ m < 1 ∨ 12 < m then 0 else if m = 2 then 28 + lp y else if m = 4 ∨ m = 6 ∨ m = 9 ∨ m = 11 then 30 else 31
/-- The days of a year before a month. -/
def cm (y m : Int) : Int := if m ≤ 1 then 0 else if m = 2 then 31 else lp y + (if m = 3 then 59 else if m = 4 then 90 else if m = 5 then 120 else if m = 6 then 151 else if m = 7 then 181 else if m = 8 then 212 else if m = 9 then 243 else if m = 10 then 273 else if m = 11 then 304 else if m = 12 then 334 else 365)
theorem month_cases {m : Int} (h1 : 1 ≤ m) (h2 : m ≤ 12) : m = 1 ∨ m = 2 ∨ m = 3 ∨ m = 4 ∨ m = 5 ∨ m = 6 ∨ m = 7 ∨ m = 8 ∨ m = 9 ∨ m = 10 ∨ m = 11 ∨ m = 12 := by omega
theorem dim_in {y m : Int} (hy : 1970 ≤ y) (hy2 : y ≤ 9999) (h1 : 1 ≤ m) (h2 : m ≤ 12) : dim y m = if m = 2 then 28 + lp y else if m = 4 ∨ m = 6 ∨ m = 9 ∨ m = 11 then 30 else 31 := by unfold dim; rw [if_neg (by omega)]
theorem dim_out {y m : Int} (h : y < 1970 ∨ 9999 < y ∨ m < 1 ∨ 12 < m) : dim y m = 0 := by unfold dim; rw [if_pos h]
theorem dim_bd (y m : Int) : 0 ≤ dim y m ∧ dim y m ≤ 31 := by
  have := lp_01 y
  unfold dim
  split
  · omega
  · split
    · omega
    · split <;> omega
theorem dim_pos {y m : Int} (h : 0 < dim y m) : 1970 ≤ y ∧ y ≤ 9999 ∧ 1 ≤ m ∧ m ≤ 12 := by
  unfold dim at h
  split at h
  · omega
  · omega
theorem dim_lo {y m : Int} (hy : 1970 ≤ y) (hy2 : y ≤ 9999) (h1 : 1 ≤ m) (h2 : m ≤ 12) : 28 ≤ dim y m := by
  have := lp_01 y
  rw [dim_in hy hy2 h1 h2]
  split
  · omega
  · split <;> omega
theorem cm_1 (y : Int) : cm y 1 = 0 := rfl
theorem cm_succ {y m : Int} (hy : 1970 ≤ y) (hy2 : y ≤ 9999) (h1 : 1 ≤ m) (h2 : m ≤ 12) : cm y (m + 1) = cm y m + dim y m := by
  rw [dim_in hy hy2 h1 h2]
  unfold cm
  rcases month_cases h1 h2 with rfl | rfl | rfl | rfl | rfl | rfl | rfl | rfl | rfl | rfl | rfl | rfl <;> simp <;> omega
theorem cm_13 (y : Int) : cm y 13 = 365 + lp y := by unfold cm; simp; omega
theorem cm_mono {y : Int} (hy : 1970 ≤ y) (hy2 : y ≤ 9999) {a b : Int} (h1 : 1 ≤ a) (hab : a ≤ b) (h2 : b ≤ 13) : cm y a ≤ cm y b := by
  obtain ⟨n, hn⟩ : ∃ n : Nat, b = a + n := ⟨(b - a).toNat, by omega⟩
  induction n generalizing b with
  | zero => rw [show b = a by omega]; exact Int.le_refl _
  | succ n ih =>
    have h3 := ih (b := a + n) (by omega) (by omega) rfl
    have h4 := cm_succ hy hy2 (m := a + n) (by omega) (by omega)
    have h5 := dim_bd y (a + n)
    rw [show b = a + n + 1 by omega]
    omega
theorem cm_bd {y m : Int} (h1 : 1 ≤ m) (h2 : m ≤ 13) : 0 ≤ cm y m ∧ cm y m ≤ 366 := by
  have := lp_01 y
  unfold cm
  rcases (show m = 13 ∨ m ≤ 12 by omega) with rfl | h3
  · simp; omega
  · rcases month_cases h1 h3 with rfl | rfl | rfl | rfl | rfl | rfl | rfl | rfl | rfl | rfl | rfl | rfl <;> simp <;> omega
/-- As the program reckons them. -/
theorem dim_bef {y : Int} (k : Nat) (hy : 1970 ≤ y) (hy2 : y ≤ 9999) (h1 : 1 ≤ k) (h2 : k ≤ 12) : dim y (k : Int) = bef k - bef (k - 1) + if (k : Int) = 2 then lp y else 0 := by
  rw [dim_in hy hy2 (by omega) (by omega)]
  have : k = 1 ∨ k = 2 ∨ k = 3 ∨ k = 4 ∨ k = 5 ∨ k = 6 ∨ k = 7 ∨ k = 8 ∨ k = 9 ∨ k = 10 ∨ k = 11 ∨ k = 12 := by omega
  rcases this with rfl | rfl | rfl | rfl | rfl | rfl | rfl | rfl | rfl | rfl | rfl | rfl <;> simp [bef]
theorem cm_bef {y : Int} (k : Nat) (h1 : 1 ≤ k) (h2 : k ≤ 12) : cm y (k : Int) = bef (k - 1) + if (2 : Int) < k then lp y else 0 := by
  have : k = 1 ∨ k = 2 ∨ k = 3 ∨ k = 4 ∨ k = 5 ∨ k = 6 ∨ k = 7 ∨ k = 8 ∨ k = 9 ∨ k = 10 ∨ k = 11 ∨ k = 12 := by omega
  unfold cm
  rcases this with rfl | rfl | rfl | rfl | rfl | rfl | rfl | rfl | rfl | rfl | rfl | rfl <;> simp [bef] <;> omega
theorem bef_bd (k : Nat) (h : k ≤ 12) : 0 ≤ bef k ∧ bef k ≤ 365 := by
  have : ∀ i : Fin 13, 0 ≤ bef i ∧ bef i ≤ 365 := by decide
  exact this ⟨k, by omega⟩
/-- Is that a day? -/
structure VD (y m d : Int) : Prop where
  y1 : 1970 ≤ y
  y2 : y ≤ 9999
  m1 : 1 ≤ m
  m2 : m ≤ 12
  d1 : 1 ≤ d
  d2 : d ≤ dim y m
/-- The days from the first one to it. -/
def dn (y m d : Int) : Int := start y + cm y m + d - 1
theorem VD.within {y m d : Int} (h : VD y m d) : start y ≤ dn y m d ∧ dn y m d < start (y + 1) ∧ cm y m ≤ dn y m d - start y ∧ dn y m d - start y < cm y (m + 1) := by
  have h1 := cm_succ h.y1 h.y2 h.m1 h.m2
  have h2 := cm_mono h.y1 h.y2 (a := m + 1) (b := 13) (by have := h.m1; omega) (by have := h.m2; omega) (by omega)
  have h3 := cm_13 y
  have h4 := start_succ y
  have h5 := cm_bd (y := y) h.m1 (by have := h.m2; omega)
  have := h.d1; have := h.d2
  unfold dn
  omega
theorem VD.bd {y m d : Int} (h : VD y m d) : 0 ≤ dn y m d ∧ dn y m d ≤ 2932896 := by
  have h1 := h.within
  have h2 := start_bd y h.y1 (by have := h.y2; omega)
  have h3 := start_mono (y + 1) 10000 (by have := h.y2; omega)
  rw [start_end] at h3
  omega
/-- An earlier day has a lower number. -/
theorem dn_lt {y m d y' m' d' : Int} (h : VD y m d) (h' : VD y' m' d') (hl : y < y' ∨ (y = y' ∧ (m < m' ∨ (m = m' ∧ d < d')))) : dn y m d < dn y' m' d' := by
  have h1 := h.within
  have h2 := h'.within
  rcases hl with hl | ⟨rfl, hl | ⟨rfl, hl⟩⟩
  · have := start_mono (y + 1) y' (by omega)
    omega
  · have := cm_mono h.y1 h.y2 (a := m + 1) (b := m') (by have := h.m1; omega) (by omega) (by have := h'.m2; omega)
    omega
  · unfold dn; omega
theorem dn_inj {y m d y' m' d' : Int} (h : VD y m d) (h' : VD y' m' d') (e : dn y m d = dn y' m' d') : y = y' ∧ m = m' ∧ d = d' := by
  have h1 := dn_lt h h'
  have h2 := dn_lt h' h
  by_cases hy : y = y'
  · by_cases hm : m = m'
    · by_cases hd : d = d'
      · exact ⟨hy, hm, hd⟩
      · omega
    · omega
  · omega
theorem year_of : ∀ (n : Nat) (k : Int), 0 ≤ k → k < start (1970 + (n : Int)) → ∃ y : Int, 1970 ≤ y ∧ y < 1970 + (n : Int) ∧ start y ≤ k ∧ k < start (y + 1)
  | 0, k, h0, h => by rw [show (1970 : Int) + ((0 : Nat) : Int) = 1970 by omega, start_0] at h; omega
  | n + 1, k, h0, h => by
    by_cases hk : k < start (1970 + (n : Int))
    · obtain ⟨y, h1, h2, h3, h4⟩ := year_of n k h0 hk
      exact ⟨y, h1, by omega, h3, h4⟩
    · exact ⟨1970 + (n : Int), by omega, by omega, by omega, by rw [show (1970 : Int) + (n : Int) + 1 = 1970 + ((n + 1 : Nat) : Int) by omega]; exact h⟩
theorem month_of {y : Int} (hy : 1970 ≤ y) (hy2 : y ≤ 9999) : ∀ (n : Nat) (k : Int), n ≤ 12 → 0 ≤ k → k < cm y (1 + (n : Int)) → ∃ m : Int, 1 ≤ m ∧ m < 1 + (n : Int) ∧ cm y m ≤ k ∧ k < cm y (m + 1)
  | 0, k, _, h0, h => by rw [show (1 : Int) + ((0 : Nat) : Int) = 1 by omega, cm_1] at h; omega
  | n + 1, k, hn, h0, h => by
    by_cases hk : k < cm y (1 + (n : Int))
    · obtain ⟨m, h1, h2, h3, h4⟩ := month_of hy hy2 n k (by omega) h0 hk
      exact ⟨m, h1, by omega, h3, h4⟩
    · exact ⟨1 + (n : Int), by omega, by omega, by omega, by rw [show (1 : Int) + (n : Int) + 1 = 1 + ((n + 1 : Nat) : Int) by omega]; exact h⟩
/-- Each number is some day's. -/
theorem day_of (k : Int) (h0 : 0 ≤ k) (h1 : k ≤ 2932896) : ∃ y m d, VD y m d ∧ dn y m d = k := by
  obtain ⟨y, a1, a2, a3, a4⟩ := year_of 8030 k h0 (by rw [show (1970 : Int) + ((8030 : Nat) : Int) = 10000 by omega, start_end]; omega)
  have hy2 : y ≤ 9999 := by omega
  have e := start_succ y
  have e13 := cm_13 y
  obtain ⟨m, b1, b2, b3, b4⟩ := month_of a1 hy2 12 (k - start y) (by omega) (by omega) (by rw [show (1 : Int) + ((12 : Nat) : Int) = 13 by omega, e13]; omega)
  have hm2 : m ≤ 12 := by omega
  have hc := cm_succ a1 hy2 b1 hm2
  refine ⟨y, m, k - start y - cm y m + 1, ⟨a1, hy2, b1, hm2, by omega, by omega⟩, by unfold dn; omega⟩

/-! ### Texts -/
/-- Two digits. -/
def d2 (k : Int) : ByteArray := ⟨#[UInt8.ofNat (48 + k / 10 % 10).toNat, UInt8.ofNat (48 + k % 10).toNat]⟩
theorem d2_L (k : Int) : Uf.L (d2 k) = [(48 + k / 10 % 10).toNat, (48 + k % 10).toNat] := by
  unfold Uf.L d2
  simp only [List.map_cons, List.map_nil, UInt8.toNat_ofNat']
  rw [Nat.mod_eq_of_lt (by omega), Nat.mod_eq_of_lt (by omega)]
theorem d2_size (k : Int) : (d2 k).size = 2 := rfl
/-- The text of a moment. -/
def tx (y m d h mi s : Int) : ByteArray := d2 (y / 100) ++ d2 (y % 100) ++ ⟨#[45]⟩ ++ d2 m ++ ⟨#[45]⟩ ++ d2 d ++ ⟨#[84]⟩ ++ d2 h ++ ⟨#[58]⟩ ++ d2 mi ++ ⟨#[58]⟩ ++ d2 s ++ ⟨#[90]⟩
theorem tx_L (y m d h mi s : Int) : Uf.L (tx y m d h mi s) = [(48 + y / 100 / 10 % 10).toNat, (48 + y / 100 % 10).toNat, (48 + y % 100 / 10 % 10).toNat, (48 + y % 100 % 10).toNat, 45, (48 + m / 10 % 10).toNat, (48 + m % 10).toNat, 45, (48 + d / 10 % 10).toNat, (48 + d % 10).toNat, 84, (48 + h / 10 % 10).toNat, (48 + h % 10).toNat, 58, (48 + mi / 10 % 10).toNat, (48 + mi % 10).toNat, 58, (48 + s / 10 % 10).toNat, (48 + s % 10).toNat, 90] := by
  unfold tx
  simp only [Uf.L_app, d2_L]
  rfl
theorem tx_size (y m d h mi s : Int) : (tx y m d h mi s).size = 20 := by
  rw [← Uf.L_len, tx_L]; rfl
/-- The number of two digits from a place on, or -1. -/
def f2 (s : ByteArray) (i : Nat) : Int := if 48 ≤ Uf.b s i ∧ Uf.b s i ≤ 57 ∧ 48 ≤ Uf.b s (i + 1) ∧ Uf.b s (i + 1) ≤ 57 then 10 * ((Uf.b s i : Int) - 48) + ((Uf.b s (i + 1) : Int) - 48) else -1
theorem f2_bd (s : ByteArray) (i : Nat) : -1 ≤ f2 s i ∧ f2 s i ≤ 99 := by unfold f2; split <;> omega
theorem f2_yes {s : ByteArray} {i : Nat} (h : 0 ≤ f2 s i) : Uf.b s i = (48 + f2 s i / 10 % 10).toNat ∧ Uf.b s (i + 1) = (48 + f2 s i % 10).toNat := by
  unfold f2 at *
  split at h
  · rename_i hc
    rw [if_pos hc]
    omega
  · omega
theorem f2_mk {s : ByteArray} {i : Nat} {k : Int} (h0 : 0 ≤ k) (h1 : k ≤ 99) (e1 : Uf.b s i = (48 + k / 10 % 10).toNat) (e2 : Uf.b s (i + 1) = (48 + k % 10).toNat) : f2 s i = k := by
  unfold f2
  rw [if_pos (by omega), e1, e2]
  omega
/-- The year, or below 0. -/
def f4 (s : ByteArray) : Int := if 0 ≤ f2 s 0 ∧ 0 ≤ f2 s 2 then 100 * f2 s 0 + f2 s 2 else -1
def seps (s : ByteArray) : Bool := Uf.b s 4 == 45 && Uf.b s 7 == 45 && Uf.b s 10 == 84 && Uf.b s 13 == 58 && Uf.b s 16 == 58 && Uf.b s 19 == 90
/-- Is a text a moment's? -/
def good (s : ByteArray) : Bool := decide (s.size = 20) && seps s && decide (1 ≤ f2 s 8) && decide (f2 s 8 ≤ dim (f4 s) (f2 s 5)) && decide (0 ≤ f2 s 11 ∧ f2 s 11 ≤ 23) && decide (0 ≤ f2 s 14 ∧ f2 s 14 ≤ 59) && decide (0 ≤ f2 s 17 ∧ f2 s 17 ≤ 59)
def sec (y m d h mi s : Int) : Int := dn y m d * 86400 + (h * 3600 + mi * 60 + s)
def rdV (s : ByteArray) : Int := if good s then sec (f4 s) (f2 s 5) (f2 s 8) (f2 s 11) (f2 s 14) (f2 s 17) else 0
def rdE (s : ByteArray) : Int := if good s then 0 else 3
/-- Is that a time of day? -/
structure VT (h mi s : Int) : Prop where
  h1 : 0 ≤ h
  h2 : h ≤ 23
  m1 : 0 ≤ mi
  m2 : mi ≤ 59
  s1 : 0 ≤ s
  s2 : s ≤ 59
theorem good_iff (s : ByteArray) : good s = true ↔ s.size = 20 ∧ seps s = true ∧ VD (f4 s) (f2 s 5) (f2 s 8) ∧ VT (f2 s 11) (f2 s 14) (f2 s 17) := by
  unfold good
  simp only [Bool.and_eq_true, decide_eq_true_eq]
  constructor
  · rintro ⟨⟨⟨⟨⟨⟨h1, h2⟩, h3⟩, h4⟩, h5⟩, h6⟩, h7⟩
    obtain ⟨a, b, c, d⟩ := dim_pos (y := f4 s) (m := f2 s 5) (by omega)
    exact ⟨h1, h2, ⟨a, b, c, d, h3, h4⟩, ⟨h5.1, h5.2, h6.1, h6.2, h7.1, h7.2⟩⟩
  · rintro ⟨h1, h2, h3, h4⟩
    exact ⟨⟨⟨⟨⟨⟨h1, h2⟩, h3.d1⟩, h3.d2⟩, h4.h1, h4.h2⟩, h4.m1, h4.m2⟩, h4.s1, h4.s2⟩
theorem b_of_L {s : ByteArray} {l : List Nat} (h : Uf.L s = l) (k x : Nat) (hx : l[k]? = some x) : Uf.b s k = x := by
  have hk : k < s.size := by
    have := (List.getElem?_eq_some_iff.1 hx).1
    rw [← h, Uf.L_len] at this
    exact this
  have := Uf.L_at s k hk
  rw [h, hx] at this
  injection this with this
  exact this.symm
/-- The text of a moment is good, and says it. -/
theorem tx_good {y m d h mi s : Int} (hd : VD y m d) (ht : VT h mi s) : good (tx y m d h mi s) = true ∧ f4 (tx y m d h mi s) = y ∧ f2 (tx y m d h mi s) 5 = m ∧ f2 (tx y m d h mi s) 8 = d ∧ f2 (tx y m d h mi s) 11 = h ∧ f2 (tx y m d h mi s) 14 = mi ∧ f2 (tx y m d h mi s) 17 = s := by
  have hL := tx_L y m d h mi s
  have hdb := dim_bd y m
  have q1 := hd.y1; have q2 := hd.y2; have q3 := hd.m1; have q4 := hd.m2; have q5 := hd.d1; have q6 := hd.d2
  have q7 := ht.h1; have q8 := ht.h2; have q9 := ht.m1; have q10 := ht.m2; have q11 := ht.s1; have q12 := ht.s2
  have e0 : f2 (tx y m d h mi s) 0 = y / 100 := f2_mk (by omega) (by omega) (b_of_L hL 0 _ rfl) (b_of_L hL 1 _ rfl)
  have e2 : f2 (tx y m d h mi s) 2 = y % 100 := f2_mk (by omega) (by omega) (b_of_L hL 2 _ rfl) (b_of_L hL 3 _ rfl)
  have e5 : f2 (tx y m d h mi s) 5 = m := f2_mk (by omega) (by omega) (b_of_L hL 5 _ rfl) (b_of_L hL 6 _ rfl)
  have e8 : f2 (tx y m d h mi s) 8 = d := f2_mk (by omega) (by omega) (b_of_L hL 8 _ rfl) (b_of_L hL 9 _ rfl)
  have e11 : f2 (tx y m d h mi s) 11 = h := f2_mk (by omega) (by omega) (b_of_L hL 11 _ rfl) (b_of_L hL 12 _ rfl)
  have e14 : f2 (tx y m d h mi s) 14 = mi := f2_mk (by omega) (by omega) (b_of_L hL 14 _ rfl) (b_of_L hL 15 _ rfl)
  have e17 : f2 (tx y m d h mi s) 17 = s := f2_mk (by omega) (by omega) (b_of_L hL 17 _ rfl) (b_of_L hL 18 _ rfl)
  have e4 : f4 (tx y m d h mi s) = y := by unfold f4; rw [e0, e2, if_pos (by omega)]; omega
  have hs : seps (tx y m d h mi s) = true := by
    unfold seps
    rw [b_of_L hL 4 _ rfl, b_of_L hL 7 _ rfl, b_of_L hL 10 _ rfl, b_of_L hL 13 _ rfl, b_of_L hL 16 _ rfl, b_of_L hL 19 _ rfl]
    rfl
  refine ⟨(good_iff _).2 ⟨tx_size _ _ _ _ _ _, hs, ?_, ?_⟩, e4, e5, e8, e11, e14, e17⟩
  · rw [e4, e5, e8]; exact hd
  · rw [e11, e14, e17]; exact ht
theorem list20 {l : List Nat} (h : l.length = 20) : ∃ a0 a1 a2 a3 a4 a5 a6 a7 a8 a9 b0 b1 b2 b3 b4 b5 b6 b7 b8 b9, l = [a0, a1, a2, a3, a4, a5, a6, a7, a8, a9, b0, b1, b2, b3, b4, b5, b6, b7, b8, b9] := by
  match l, h with
  | [a0, a1, a2, a3, a4, a5, a6, a7, a8, a9, b0, b1, b2, b3, b4, b5, b6, b7, b8, b9], _ => exact ⟨_, _, _, _, _, _, _, _, _, _, _, _, _, _, _, _, _, _, _, _, rfl⟩
/-- A good text is its moment's. -/
theorem good_tx {s : ByteArray} (h : good s = true) : s = tx (f4 s) (f2 s 5) (f2 s 8) (f2 s 11) (f2 s 14) (f2 s 17) := by
  obtain ⟨h1, h2, h3, h4⟩ := (good_iff s).1 h
  have hy : 0 ≤ f2 s 0 ∧ 0 ≤ f2 s 2 ∧ f4 s = 100 * f2 s 0 + f2 s 2 := by
    have := h3.y1
    unfold f4 at this ⊢
    split at this
    · rename_i hc
      rw [if_pos hc]
      exact ⟨hc.1, hc.2, rfl⟩
    · omega
  unfold seps at h2
  simp only [Bool.and_eq_true, beq_iff_eq] at h2
  obtain ⟨⟨⟨⟨⟨s4, s7⟩, s10⟩, s13⟩, s16⟩, s19⟩ := h2
  have q0 := f2_yes hy.1
  have q2 := f2_yes hy.2.1
  have q5 := f2_yes (s := s) (i := 5) (by have := h3.m1; omega)
  have q8 := f2_yes (s := s) (i := 8) (by have := h3.d1; omega)
  have q11 := f2_yes h4.h1
  have q14 := f2_yes h4.m1
  have q17 := f2_yes h4.s1
  have bd0 := f2_bd s 0
  have bd2 := f2_bd s 2
  apply Uf.L_inj
  rw [tx_L]
  obtain ⟨a0, a1, a2, a3, a4, a5, a6, a7, a8, a9, b0, b1, b2, b3, b4, b5, b6, b7, b8, b9, hl⟩ := list20 (l := Uf.L s) (by rw [Uf.L_len, h1])
  have B := fun k x hx => b_of_L hl k x hx
  have z0 := B 0 _ rfl; have z1 := B 1 _ rfl; have z2 := B 2 _ rfl; have z3 := B 3 _ rfl; have z4 := B 4 _ rfl; have z5 := B 5 _ rfl; have z6 := B 6 _ rfl; have z7 := B 7 _ rfl; have z8 := B 8 _ rfl; have z9 := B 9 _ rfl
  have w0 := B 10 _ rfl; have w1 := B 11 _ rfl; have w2 := B 12 _ rfl; have w3 := B 13 _ rfl; have w4 := B 14 _ rfl; have w5 := B 15 _ rfl; have w6 := B 16 _ rfl; have w7 := B 17 _ rfl; have w8 := B 18 _ rfl; have w9 := B 19 _ rfl
  have t0 : f4 s / 100 = f2 s 0 := by omega
  have t1 : f4 s % 100 = f2 s 2 := by omega
  rw [hl, t0, t1, ← z0, ← z1, ← z2, ← z3, ← z4, ← z5, ← z6, ← z7, ← z8, ← z9, ← w0, ← w1, ← w2, ← w3, ← w4, ← w5, ← w6, ← w7, ← w8, ← w9, s4, s7, s10, s13, s16, s19, ← q0.1, ← q0.2, ← q2.1, ← q2.2, ← q5.1, ← q5.2, ← q8.1, ← q8.2, ← q11.1, ← q11.2, ← q14.1, ← q14.2, ← q17.1, ← q17.2]
theorem VT.bd {h mi s : Int} (t : VT h mi s) : 0 ≤ h * 3600 + mi * 60 + s ∧ h * 3600 + mi * 60 + s ≤ 86399 := by
  have := t.h1; have := t.h2; have := t.m1; have := t.m2; have := t.s1; have := t.s2
  omega
theorem sec_parts {y m d h mi s n : Int} (hd : VD y m d) (ht : VT h mi s) (e : sec y m d h mi s = n) : dn y m d = n / 86400 ∧ h = n % 86400 / 3600 ∧ mi = n % 86400 / 60 % 60 ∧ s = n % 86400 % 60 ∧ 0 ≤ n ∧ n ≤ 253402300799 := by
  have h1 := hd.bd
  have h2 := ht.bd
  have := ht.h1; have := ht.h2; have := ht.m1; have := ht.m2; have := ht.s1; have := ht.s2
  unfold sec at e
  omega
theorem sec_back {y m d n : Int} (hd : VD y m d) (h0 : 0 ≤ n) (e : dn y m d = n / 86400) : VT (n % 86400 / 3600) (n % 86400 / 60 % 60) (n % 86400 % 60) ∧ sec y m d (n % 86400 / 3600) (n % 86400 / 60 % 60) (n % 86400 % 60) = n := by
  refine ⟨⟨by omega, by omega, by omega, by omega, by omega, by omega⟩, ?_⟩
  unfold sec
  omega
/-- The text of a number of seconds, on that day. -/
def txn (y m d n : Int) : ByteArray := tx y m d (n % 86400 / 3600) (n % 86400 / 60 % 60) (n % 86400 % 60)
theorem rd_txn {y m d n : Int} (hd : VD y m d) (h0 : 0 ≤ n) (e : dn y m d = n / 86400) : rdV (txn y m d n) = n ∧ rdE (txn y m d n) = 0 := by
  obtain ⟨ht, hs⟩ := sec_back hd h0 e
  obtain ⟨g, e4, e5, e8, e11, e14, e17⟩ := tx_good hd ht
  unfold rdV rdE txn
  rw [g, if_pos rfl, if_pos rfl, e4, e5, e8, e11, e14, e17]
  exact ⟨hs, rfl⟩
/-- A good text is that of its number. -/
theorem txn_rd {s : ByteArray} (h : good s = true) : VD (f4 s) (f2 s 5) (f2 s 8) ∧ dn (f4 s) (f2 s 5) (f2 s 8) = rdV s / 86400 ∧ s = txn (f4 s) (f2 s 5) (f2 s 8) (rdV s) ∧ 0 ≤ rdV s ∧ rdV s ≤ 253402300799 := by
  obtain ⟨h1, h2, h3, h4⟩ := (good_iff s).1 h
  have hv : sec (f4 s) (f2 s 5) (f2 s 8) (f2 s 11) (f2 s 14) (f2 s 17) = rdV s := by unfold rdV; rw [h, if_pos rfl]
  obtain ⟨e1, e2, e3, e4, e5, e6⟩ := sec_parts h3 h4 hv
  refine ⟨h3, e1, ?_, e5, e6⟩
  unfold txn
  rw [← e2, ← e3, ← e4]
  exact good_tx h
theorem rd_no {s : ByteArray} (h : good s = false) : rdV s = 0 ∧ rdE s = 3 := by unfold rdV rdE; rw [h]; exact ⟨rfl, rfl⟩

/-! ### Numerals -/
theorem dec2 (k : Nat) (h1 : 10 ≤ k) (h2 : k < 100) : (⟨(Lib.decDigits k).toArray⟩ : ByteArray) = d2 (k : Int) := by
  have : ∀ i : Fin 100, 10 ≤ i.val → (⟨(Lib.decDigits i.val).toArray⟩ : ByteArray) = d2 (i.val : Int) := by
    intro i hi
    rw [Lib.decDigits, dif_neg (by omega), Lib.decDigits, dif_pos (by omega)]
    unfold d2
    have e1 : (48 + (i.val : Int) / 10 % 10).toNat = 48 + i.val / 10 := by omega
    have e2 : (48 + (i.val : Int) % 10).toNat = 48 + i.val % 10 := by omega
    rw [e1, e2]
    rfl
  exact this ⟨k, h2⟩ h1
theorem dec1 (k : Nat) (h : k < 10) : (⟨#[48]⟩ : ByteArray) ++ ⟨(Lib.decDigits k).toArray⟩ = d2 (k : Int) ∧ (⟨(Lib.decDigits k).toArray⟩ : ByteArray).size = 1 := by
  rw [Lib.decDigits, dif_pos h]
  unfold d2
  have e1 : (48 + (k : Int) / 10 % 10).toNat = 48 := by omega
  have e2 : (48 + (k : Int) % 10).toNat = 48 + k := by omega
  rw [e1, e2]
  exact ⟨rfl, rfl⟩
theorem dec4 (y : Int) (h1 : 1970 ≤ y) (h2 : y ≤ 9999) : (⟨(Lib.itoa y).toArray⟩ : ByteArray) = d2 (y / 100) ++ d2 (y % 100) := by
  obtain ⟨k, rfl⟩ : ∃ k : Nat, y = k := ⟨y.toNat, by omega⟩
  unfold Lib.itoa
  rw [if_neg (by omega), Int.toNat_natCast, Lib.decDigits, dif_neg (by omega), Lib.decDigits, dif_neg (by omega), Lib.decDigits, dif_neg (by omega), Lib.decDigits, dif_pos (by omega)]
  unfold d2
  have e1 : (48 + (k : Int) / 100 / 10 % 10).toNat = 48 + k / 10 / 10 / 10 := by omega
  have e2 : (48 + (k : Int) / 100 % 10).toNat = 48 + k / 10 / 10 % 10 := by omega
  have e3 : (48 + (k : Int) % 100 / 10 % 10).toNat = 48 + k / 10 % 10 := by omega
  have e4 : (48 + (k : Int) % 100 % 10).toNat = 48 + k % 10 := by omega
  rw [e1, e2, e3, e4]
  rfl
end Go.Proofs.YtmpbejiknejogaaDoor.Wh
