/-
  Plain facts on hexadecimal digits; no program in sight.
-/
namespace Go.Proofs.YtflfmacfodkedaaDoor.Hx
set_option linter.unusedSimpArgs false
set_option linter.unusedVariables false

/-- The value of a digit; -1: it is none. -/
def val (c : UInt8) : Int := if 48 ≤ c.toNat ∧ c.toNat ≤ 57 then (c.toNat : Int) - 48 else if 97 ≤ c.toNat ∧ c.toNat ≤ 102 then (c.toNat : Int) - 87 else -1
theorem val_dec (c : UInt8) (h1 : 48 ≤ (c.toNat : Int)) (h2 : (c.toNat : Int) ≤ 57) : val c = (c.toNat : Int) - 48 := by unfold val; rw [if_pos (by omega)]
theorem val_hex (c : UInt8) (h1 : 97 ≤ (c.toNat : Int)) (h2 : (c.toNat : Int) ≤ 102) : val c = (c.toNat : Int) - 87 := by unfold val; rw [if_neg (by omega), if_pos (by omega)]
theorem val_none (c : UInt8) (h1 : (c.toNat : Int) < 48 ∨ 57 < (c.toNat : Int)) (h2 : (c.toNat : Int) < 97 ∨ 102 < (c.toNat : Int)) : val c = -1 := by unfold val; rw [if_neg (by omega), if_neg (by omega)]
theorem val_range (c : UInt8) : -1 ≤ val c ∧ val c ≤ 15 := by unfold val; split <;> (try split) <;> omega
/-- The byte at a place of a text; 0 beyond. -/
def byteAt (s : ByteArray) (i : Nat) : UInt8 := if h : i < s.size then s[i] else 0
theorem byteAt_lt (s : ByteArray) (k : Nat) (h : k < s.size) : byteAt s k = s[k] := dif_pos h
/-- Is there a digit at that place? -/
def dgB (s : ByteArray) (i : Int) : Bool := decide (0 ≤ i) && decide (i < s.size) && decide (0 ≤ val (byteAt s i.toNat))
/-- Its value, or 0. -/
def dgV (s : ByteArray) (i : Int) : Int := if dgB s i then val (byteAt s i.toNat) else 0
theorem dg_out (s : ByteArray) (i : Int) (h : i < 0 ∨ (s.size : Int) ≤ i) : dgB s i = false ∧ dgV s i = 0 := by
  have e : dgB s i = false := by
    unfold dgB
    rcases h with h | h
    · rw [decide_eq_false (by omega)]; rfl
    · rw [decide_eq_false (p := i < s.size) (by omega)]; simp
  exact ⟨e, by unfold dgV; rw [e]; rfl⟩
theorem dg_in (s : ByteArray) (k : Nat) (h : k < s.size) : dgB s k = decide (0 ≤ val s[k]) := by
  unfold dgB
  rw [decide_eq_true (by omega), decide_eq_true (by omega), Int.toNat_natCast, byteAt_lt s k h]; rfl
theorem dg_yes (s : ByteArray) (k : Nat) (h : k < s.size) (hv : 0 ≤ val s[k]) : dgB s k = true ∧ dgV s k = val s[k] := by
  have e : dgB s k = true := by rw [dg_in s k h]; exact decide_eq_true hv
  exact ⟨e, by unfold dgV; rw [e, Int.toNat_natCast, byteAt_lt s k h]; rfl⟩
theorem dg_no (s : ByteArray) (k : Nat) (h : k < s.size) (hv : val s[k] = -1) : dgB s k = false ∧ dgV s k = 0 := by
  have e : dgB s k = false := by rw [dg_in s k h]; exact decide_eq_false (by omega)
  exact ⟨e, by unfold dgV; rw [e]; rfl⟩
theorem dgV_range (s : ByteArray) (i : Int) : 0 ≤ dgV s i ∧ dgV s i ≤ 15 := by
  unfold dgV
  split
  · rename_i h
    unfold dgB at h
    simp only [Bool.and_eq_true, decide_eq_true_eq] at h
    exact ⟨h.2, (val_range _).2⟩
  · omega

/-- The first k bytes are digits. -/
def isTo (s : ByteArray) : Nat → Bool
  | 0 => true
  | k + 1 => isTo s k && dgB s k
def isHex (s : ByteArray) : Bool := isTo s s.size
theorem isTo_false (s : ByteArray) : ∀ (n k : Nat), k ≤ n → isTo s k = false → isTo s n = false
  | 0, k, h, e => by obtain rfl : k = 0 := by omega
                     exact e
  | n + 1, k, h, e => by
    by_cases hk : k = n + 1
    · subst hk; exact e
    · simp [isTo, isTo_false s n k (by omega) e]
theorem isHex_no (s : ByteArray) (k : Nat) (h : k < s.size) (e : dgB s k = false) : isHex s = false :=
  isTo_false s _ (k + 1) (by omega) (by simp [isTo, e])
theorem isTo_at (s : ByteArray) : ∀ (n k : Nat), k < n → isTo s n = true → dgB s k = true
  | 0, k, h, _ => by omega
  | n + 1, k, h, e => by
    simp only [isTo, Bool.and_eq_true] at e
    by_cases hk : k = n
    · subst hk; exact e.2
    · exact isTo_at s n k (by omega) e.1

/-- A digit. -/
def hexd (n : Nat) : UInt8 := if n < 10 then UInt8.ofNat (48 + n) else UInt8.ofNat (87 + n)
/-- The digits of the first k bytes. -/
def encTo (s : ByteArray) : Nat → List UInt8
  | 0 => []
  | k + 1 => encTo s k ++ [hexd ((byteAt s k).toNat / 16), hexd ((byteAt s k).toNat % 16)]
def enc (s : ByteArray) : ByteArray := ⟨(encTo s s.size).toArray⟩
theorem encTo_length (s : ByteArray) : ∀ k, (encTo s k).length = 2 * k
  | 0 => rfl
  | k + 1 => by simp [encTo, encTo_length s k]; omega
/-- The bytes that the first k pairs say. -/
def decTo (s : ByteArray) : Nat → List UInt8
  | 0 => []
  | k + 1 => decTo s k ++ [UInt8.ofNat (16 * dgV s (2 * (k : Int)) + dgV s (2 * (k : Int) + 1)).toNat]
theorem decTo_length (s : ByteArray) : ∀ k, (decTo s k).length = k
  | 0 => rfl
  | k + 1 => by simp [decTo, decTo_length s k]
/-- What is said, and the error's number. -/
def dec (s : ByteArray) : ByteArray := if isHex s && s.size % 2 == 0 then ⟨(decTo s (s.size / 2)).toArray⟩ else ByteArray.empty
def decE (s : ByteArray) : Int := if isHex s then (if s.size % 2 == 0 then 0 else 4) else 3
/-- The number that the first k digits say. -/
def numTo (s : ByteArray) : Nat → Nat
  | 0 => 0
  | k + 1 => 16 * numTo s k + (dgV s k).toNat
theorem numTo_lt (s : ByteArray) : ∀ k, numTo s k < 16 ^ k
  | 0 => by simp [numTo]
  | k + 1 => by
    have := numTo_lt s k
    have := dgV_range s k
    simp only [numTo, Nat.pow_succ]; omega
def num (s : ByteArray) : Int := if isHex s && decide (s.size ≠ 0) && decide (s.size ≤ 16) then (numTo s s.size : Nat) else 0
def numE (s : ByteArray) : Int := if isHex s then (if s.size = 0 then 4 else if s.size ≤ 16 then 0 else 5) else 3

/-- The digits of a number ahead of what is there, till there are enough. -/
def dgs : Nat → Nat → Nat → List UInt8 → List UInt8
  | 0, _, _, acc => acc
  | f + 1, n, least, acc => if 0 < n ∨ acc.length < least then dgs f (n / 16) least (hexd (n % 16) :: acc) else acc
/-- At least that many digits, from 1 to 16. -/
def lst (least : Int) : Nat := (min (max least 1) 16).toNat
def digits (n : Nat) (least : Int) : ByteArray := ⟨(dgs 16 n (lst least) []).toArray⟩
theorem dgs_go (f n least : Nat) (acc : List UInt8) (h : 0 < n ∨ acc.length < least) : dgs (f + 1) n least acc = dgs f (n / 16) least (hexd (n % 16) :: acc) := by rw [dgs, if_pos h]
theorem dgs_end (f n least : Nat) (acc : List UInt8) (h : ¬ (0 < n ∨ acc.length < least)) : dgs f n least acc = acc := by
  cases f with
  | zero => rfl
  | succ f => rw [dgs, if_neg h]

end Go.Proofs.YtflfmacfodkedaaDoor.Hx
