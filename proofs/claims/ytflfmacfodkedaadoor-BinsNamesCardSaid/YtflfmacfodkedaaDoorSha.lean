/-
  SHA-256 by its words, on numbers and rows of numbers. Plain facts; no program in sight.
-/
import Derived.WalkKit
namespace Go.Proofs.YtflfmacfodkedaaDoor.Sh
set_option linter.unusedSimpArgs false
set_option linter.unusedVariables false

/-- 2 to 32. -/
abbrev M : Nat := 4294967296
/-- Bits turned round by n places to the right. -/
def rotr (x n : Nat) : Nat := x / 2 ^ n + x % 2 ^ n * 2 ^ (32 - n)
/-- .. by one. -/
def rot1 (x : Nat) : Nat := x / 2 + x % 2 * 2147483648
def turn (x : Nat) : Nat → Nat
  | 0 => x
  | n + 1 => rot1 (turn x n)
def half (x : Nat) : Nat → Nat
  | 0 => x
  | n + 1 => half x n / 2
theorem half_eq (x : Nat) : ∀ n, half x n = x / 2 ^ n
  | 0 => by simp [half]
  | n + 1 => by rw [half, half_eq x n, Nat.div_div_eq_div_mul, Nat.pow_succ]
theorem rot1_lt {x : Nat} (h : x < M) : rot1 x < M := by unfold rot1 M at *; omega
theorem turn_lt {x : Nat} (h : x < M) : ∀ n, turn x n < M
  | 0 => h
  | n + 1 => rot1_lt (turn_lt h n)
theorem rot_step (x p q : Nat) (hp : 0 < p) (h : p * q = 2147483648) : rot1 (x / p + x % p * (2 * q)) = x / (p * 2) + x % (p * 2) * q := by
  have h1 : x % (p * 2) = x % p + p * (x / p % 2) := Nat.mod_mul
  have h2 : x / (p * 2) = x / p / 2 := by rw [Nat.div_div_eq_div_mul]
  have e : x % p * (2 * q) = 2 * (x % p * q) := by rw [← Nat.mul_assoc, Nat.mul_comm (x % p) 2, Nat.mul_assoc]
  have e2 : (x % p + p * (x / p % 2)) * q = x % p * q + (x / p % 2) * 2147483648 := by
    rw [Nat.add_mul, ← h, Nat.mul_comm p (x / p % 2), Nat.mul_assoc]
  unfold rot1
  rw [h1, h2, e, e2]
  omega
theorem turn_eq (x : Nat) : ∀ n, n ≤ 31 → turn x n = rotr x n
  | 0, _ => by simp [turn, rotr, Nat.mod_one]
  | n + 1, h => by
    rw [turn, turn_eq x n (by omega)]
    unfold rotr
    have h1 : 2 ^ n * 2 ^ (31 - n) = 2147483648 := by
      rw [← Nat.pow_add, show n + (31 - n) = 31 by omega]
    have h2 : 2 ^ (32 - n) = 2 * 2 ^ (31 - n) := by
      rw [show 32 - n = 31 - n + 1 by omega, Nat.pow_succ, Nat.mul_comm]
    rw [h2, rot_step x (2 ^ n) (2 ^ (31 - n)) (Nat.pow_pos (by omega)) h1, Nat.pow_succ, show 32 - (n + 1) = 31 - n by omega]
theorem rotr_lt {x : Nat} (h : x < M) {n : Nat} (hn : n ≤ 31) : rotr x n < M := by rw [← turn_eq x n hn]; exact turn_lt h n
/-- As the program puts it together: shifted up and cut off, or shifted down. -/
theorem rotr_or (x n : Nat) (h : x < M) (h1 : 1 ≤ n) (hn : n ≤ 31) : (x * 2 ^ (32 - n)) % M ||| x / 2 ^ n = rotr x n := by
  have hm : M = 2 ^ n * 2 ^ (32 - n) := by rw [← Nat.pow_add, show n + (32 - n) = 32 by omega]
  have e : (x * 2 ^ (32 - n)) % M = x % 2 ^ n * 2 ^ (32 - n) := by rw [hm, Nat.mul_mod_mul_right]
  have hb : x / 2 ^ n < 2 ^ (32 - n) := by
    rw [Nat.div_lt_iff_lt_mul (Nat.pow_pos (by omega)), Nat.mul_comm, ← hm]; exact h
  rw [e, ← Nat.shiftLeft_eq, ← Nat.shiftLeft_add_eq_or_of_lt hb, Nat.shiftLeft_eq]
  unfold rotr
  omega
theorem xor_lt {a b : Nat} (ha : a < M) (hb : b < M) : a ^^^ b < M := Nat.xor_lt_two_pow (n := 32) ha hb
theorem and_lt {a : Nat} (b : Nat) (ha : a < M) : a &&& b < M := Nat.lt_of_le_of_lt Nat.and_le_left ha
def sg0 (x : Nat) : Nat := (rotr x 7 ^^^ rotr x 18) ^^^ (x / 8)
def sg1 (x : Nat) : Nat := (rotr x 17 ^^^ rotr x 19) ^^^ (x / 1024)
def bg1 (e : Nat) : Nat := (rotr e 6 ^^^ rotr e 11) ^^^ rotr e 25
def bg0 (a : Nat) : Nat := (rotr a 2 ^^^ rotr a 13) ^^^ rotr a 22
def ch (e f g : Nat) : Nat := (e &&& f) ^^^ ((4294967295 - e) &&& g)
def maj (a b c : Nat) : Nat := ((a &&& b) ^^^ (a &&& c)) ^^^ (b &&& c)
theorem sg0_lt {x : Nat} (h : x < M) : sg0 x < M := xor_lt (xor_lt (rotr_lt h (by omega)) (rotr_lt h (by omega))) (by unfold M at *; omega)
theorem sg1_lt {x : Nat} (h : x < M) : sg1 x < M := xor_lt (xor_lt (rotr_lt h (by omega)) (rotr_lt h (by omega))) (by unfold M at *; omega)
theorem bg1_lt {x : Nat} (h : x < M) : bg1 x < M := xor_lt (xor_lt (rotr_lt h (by omega)) (rotr_lt h (by omega))) (rotr_lt h (by omega))
theorem bg0_lt {x : Nat} (h : x < M) : bg0 x < M := xor_lt (xor_lt (rotr_lt h (by omega)) (rotr_lt h (by omega))) (rotr_lt h (by omega))
theorem ch_lt {e f g : Nat} (h : e < M) : ch e f g < M := xor_lt (and_lt f h) (and_lt g (by unfold M at *; omega))
theorem maj_lt {a b c : Nat} (h : a < M) (hb : b < M) : maj a b c < M := xor_lt (xor_lt (and_lt b h) (and_lt c h)) (and_lt c hb)

/-! ### A block's words -/
/-- The i-th word of a block's bytes. -/
def word (b : List Nat) (i : Nat) : Nat := b.getD (4 * i) 0 * 16777216 + b.getD (4 * i + 1) 0 * 65536 + b.getD (4 * i + 2) 0 * 256 + b.getD (4 * i + 3) 0
def w16 (b : List Nat) : List Nat := (List.range 16).map (word b)
/-- The word behind those that there are. -/
def wNext (l : List Nat) : Nat := (l.getD (l.length - 16) 0 + sg0 (l.getD (l.length - 15) 0) + l.getD (l.length - 7) 0 + sg1 (l.getD (l.length - 2) 0)) % M
def wl (b : List Nat) : Nat → List Nat
  | 0 => w16 b
  | k + 1 => wl b k ++ [wNext (wl b k)]
theorem wl_len (b : List Nat) : ∀ k, (wl b k).length = 16 + k
  | 0 => by simp [wl, w16]
  | k + 1 => by rw [wl, List.length_append, wl_len b k]; rfl
theorem wl_front (b : List Nat) : ∀ (m k i : Nat), i < 16 + k → (wl b (k + m)).getD i 0 = (wl b k).getD i 0
  | 0, k, i, h => rfl
  | m + 1, k, i, h => by
    rw [show k + (m + 1) = (k + m) + 1 by omega, wl, List.getD_eq_getElem?_getD, List.getElem?_append_left (by rw [wl_len]; omega), ← List.getD_eq_getElem?_getD, wl_front b m k i h]
theorem wl_low (b : List Nat) (K i : Nat) (h : i < 16) : (wl b K).getD i 0 = word b i := by
  have := wl_front b K 0 i (by omega)
  rw [Nat.zero_add] at this
  rw [this]
  simp [wl, w16, h]
theorem wNext_of (l l' : List Nat) (k : Nat) (hk : l.length = 16 + k) (e : ∀ j, j < 16 + k → l'.getD j 0 = l.getD j 0) :
    wNext l = (l'.getD (16 + k - 16) 0 + sg0 (l'.getD (16 + k - 15) 0) + l'.getD (16 + k - 7) 0 + sg1 (l'.getD (16 + k - 2) 0)) % M := by
  unfold wNext
  generalize M = m
  have a1 := e (16 + k - 16) (by omega)
  have a2 := e (16 + k - 15) (by omega)
  have a3 := e (16 + k - 7) (by omega)
  have a4 := e (16 + k - 2) (by omega)
  rw [hk]
  generalize l'.getD (16 + k - 16) 0 = x1 at *
  generalize l'.getD (16 + k - 15) 0 = x2 at *
  generalize l'.getD (16 + k - 7) 0 = x3 at *
  generalize l'.getD (16 + k - 2) 0 = x4 at *
  subst a1 a2 a3 a4
  exact Eq.refl _
theorem getD_app (l : List Nat) (x n : Nat) (h : l.length = n) : (l ++ [x]).getD n 0 = x := by
  rw [List.getD_eq_getElem?_getD, List.getElem?_append_right (by omega), h]
  simp
theorem wl_top (b : List Nat) (k : Nat) : (wl b (k + 1)).getD (16 + k) 0 = wNext (wl b k) :=
  getD_app (wl b k) (wNext (wl b k)) (16 + k) (wl_len b k)
theorem wl_high (b : List Nat) (K i : Nat) (h : 16 ≤ i) (h2 : i < 16 + K) : (wl b K).getD i 0 = ((wl b K).getD (i - 16) 0 + sg0 ((wl b K).getD (i - 15) 0) + (wl b K).getD (i - 7) 0 + sg1 ((wl b K).getD (i - 2) 0)) % M := by
  obtain ⟨k, rfl⟩ : ∃ k, i = 16 + k := ⟨i - 16, by omega⟩
  have e : ∀ j, j < 16 + k → (wl b K).getD j 0 = (wl b k).getD j 0 := fun j hj => by
    have := wl_front b (K - k) k j hj
    rw [show k + (K - k) = K by omega] at this
    exact this
  have e1 : (wl b K).getD (16 + k) 0 = wNext (wl b k) := by
    have := wl_front b (K - 1 - k) (k + 1) (16 + k) (by omega)
    rw [show k + 1 + (K - 1 - k) = K by omega] at this
    exact this.trans (wl_top b k)
  exact e1.trans (wNext_of _ _ k (wl_len b k) e)
/-- The i-th of the 64 words. -/
def ws (b : List Nat) (i : Nat) : Nat := (wl b 48).getD i 0
theorem ws_low (b : List Nat) (i : Nat) (h : i < 16) : ws b i = word b i := wl_low b 48 i h
theorem ws_high (b : List Nat) (i : Nat) (h : 16 ≤ i) (h2 : i < 64) : ws b i = (ws b (i - 16) + sg0 (ws b (i - 15)) + ws b (i - 7) + sg1 (ws b (i - 2))) % M := wl_high b 48 i h h2
theorem word_lt {b : List Nat} (hb : ∀ x ∈ b, x < 256) (i : Nat) : word b i < M := by
  have g : ∀ j, b.getD j 0 < 256 := fun j => by
    rw [List.getD_eq_getElem?_getD]
    cases h : b[j]? with
    | none => decide
    | some x => exact hb x (List.mem_of_getElem? h)
  have h0 := g (4 * i); have h1 := g (4 * i + 1); have h2 := g (4 * i + 2); have h3 := g (4 * i + 3)
  unfold word M
  omega
theorem ws_lt {b : List Nat} (hb : ∀ x ∈ b, x < 256) (i : Nat) (h : i < 64) : ws b i < M := by
  by_cases hi : i < 16
  · rw [ws_low b i hi]; exact word_lt hb i
  · rw [ws_high b i (by omega) h]; exact Nat.mod_lt _ (by decide)

/-! ### The rounds -/
structure St where
  a : Nat
  b : Nat
  c : Nat
  d : Nat
  e : Nat
  f : Nat
  g : Nat
  h : Nat
  deriving DecidableEq
def St.ok (s : St) : Prop := s.a < M ∧ s.b < M ∧ s.c < M ∧ s.d < M ∧ s.e < M ∧ s.f < M ∧ s.g < M ∧ s.h < M
def St.l (s : St) : List Nat := [s.a, s.b, s.c, s.d, s.e, s.f, s.g, s.h]
def ks : List Nat := [0x428a2f98, 0x71374491, 0xb5c0fbcf, 0xe9b5dba5, 0x3956c25b, 0x59f111f1, 0x923f82a4, 0xab1c5ed5,
  0xd807aa98, 0x12835b01, 0x243185be, 0x550c7dc3, 0x72be5d74, 0x80deb1fe, 0x9bdc06a7, 0xc19bf174,
  0xe49b69c1, 0xefbe4786, 0x0fc19dc6, 0x240ca1cc, 0x2de92c6f, 0x4a7484aa, 0x5cb0a9dc, 0x76f988da,
  0x983e5152, 0xa831c66d, 0xb00327c8, 0xbf597fc7, 0xc6e00bf3, 0xd5a79147, 0x06ca6351, 0x14292967,
  0x27b70a85, 0x2e1b2138, 0x4d2c6dfc, 0x53380d13, 0x650a7354, 0x766a0abb, 0x81c2c92e, 0x92722c85,
  0xa2bfe8a1, 0xa81a664b, 0xc24b8b70, 0xc76c51a3, 0xd192e819, 0xd6990624, 0xf40e3585, 0x106aa070,
  0x19a4c116, 0x1e376c08, 0x2748774c, 0x34b0bcb5, 0x391c0cb3, 0x4ed8aa4a, 0x5b9cca4f, 0x682e6ff3,
  0x748f82ee, 0x78a5636f, 0x84c87814, 0x8cc70208, 0x90befffa, 0xa4506ceb, 0xbef9a3f7, 0xc67178f2]
def kk (i : Nat) : Nat := ks.getD i 0
theorem kk_lt (i : Nat) (h : i < 64) : kk i < M := by
  have : ∀ j : Fin 64, kk j < M := by decide
  exact this ⟨i, h⟩
def s0 : St := ⟨0x6a09e667, 0xbb67ae85, 0x3c6ef372, 0xa54ff53a, 0x510e527f, 0x9b05688c, 0x1f83d9ab, 0x5be0cd19⟩
theorem s0_ok : s0.ok := by unfold St.ok; decide +kernel
def first (s : St) (k w : Nat) : Nat := (s.h + bg1 s.e + ch s.e s.f s.g + k + w) % M
def second (s : St) : Nat := (bg0 s.a + maj s.a s.b s.c) % M
def rnd (s : St) (k w : Nat) : St := ⟨(first s k w + second s) % M, s.a, s.b, s.c, (s.d + first s k w) % M, s.e, s.f, s.g⟩
theorem rnd_ok {s : St} (h : s.ok) (k w : Nat) : (rnd s k w).ok := ⟨Nat.mod_lt _ (by decide), h.1, h.2.1, h.2.2.1, Nat.mod_lt _ (by decide), h.2.2.2.2.1, h.2.2.2.2.2.1, h.2.2.2.2.2.2.1⟩
def rounds (s : St) (b : List Nat) : Nat → St
  | 0 => s
  | i + 1 => rnd (rounds s b i) (kk i) (ws b i)
theorem rounds_ok {s : St} (h : s.ok) (b : List Nat) : ∀ i, (rounds s b i).ok
  | 0 => h
  | i + 1 => rnd_ok (rounds_ok h b i) _ _
def plus (s v : St) : St := ⟨(s.a + v.a) % M, (s.b + v.b) % M, (s.c + v.c) % M, (s.d + v.d) % M, (s.e + v.e) % M, (s.f + v.f) % M, (s.g + v.g) % M, (s.h + v.h) % M⟩
theorem plus_ok (s v : St) : (plus s v).ok := ⟨Nat.mod_lt _ (by decide), Nat.mod_lt _ (by decide), Nat.mod_lt _ (by decide), Nat.mod_lt _ (by decide), Nat.mod_lt _ (by decide), Nat.mod_lt _ (by decide), Nat.mod_lt _ (by decide), Nat.mod_lt _ (by decide)⟩
/-- A state behind a block. -/
def comp (s : St) (b : List Nat) : St := plus s (rounds s b 64)
theorem comp_ok (s : St) (b : List Nat) : (comp s b).ok := plus_ok _ _
/-- A state behind the first k blocks of a row. -/
def blocks (s : St) (l : List Nat) : Nat → St
  | 0 => s
  | k + 1 => comp (blocks s l k) ((l.drop (64 * k)).take 64)
theorem blocks_ok {s : St} (h : s.ok) (l : List Nat) : ∀ k, (blocks s l k).ok
  | 0 => h
  | k + 1 => comp_ok _ _
theorem blocks_app (s : St) (l m : List Nat) : ∀ k, 64 * k ≤ l.length → blocks s (l ++ m) k = blocks s l k
  | 0, _ => rfl
  | k + 1, h => by
    rw [blocks, blocks, blocks_app s l m k (by omega)]
    congr 1
    rw [List.drop_append_of_le_length (by omega), List.take_append_of_le_length (by rw [List.length_drop]; omega)]
/-- What stands behind a row: a 128, so many 0s, the number of bits in eight bytes. -/
def tail8 (n : Nat) : List Nat := [n * 8 / 72057594037927936 % 256, n * 8 / 281474976710656 % 256, n * 8 / 1099511627776 % 256, n * 8 / 4294967296 % 256, n * 8 / 16777216 % 256, n * 8 / 65536 % 256, n * 8 / 256 % 256, n * 8 % 256]
def zeros (n : Nat) : Nat := (119 - n % 64) % 64
def padded (l : List Nat) : List Nat := l ++ (128 :: List.replicate (zeros l.length) 0) ++ tail8 l.length
theorem padded_len (l : List Nat) : (padded l).length = 64 * ((l.length + 9 + zeros l.length) / 64) ∧ (l.length + 9 + zeros l.length) % 64 = 0 := by
  have h : (l.length + 9 + zeros l.length) % 64 = 0 := by unfold zeros; omega
  refine ⟨?_, h⟩
  have : (padded l).length = l.length + 9 + zeros l.length := by
    unfold padded tail8
    simp
    omega
  rw [this]
  omega
/-- Four bytes of a number. -/
def be (x : Nat) : List Nat := [x / 16777216, x / 65536 % 256, x / 256 % 256, x % 256]
def St.bytes (s : St) : List Nat := s.l.flatMap be
/-- THE SHA-256 of a row of bytes. -/
def sha (l : List Nat) : List Nat := (blocks s0 (padded l) ((padded l).length / 64)).bytes
theorem bytes_len (s : St) : s.bytes.length = 32 := rfl
theorem sha_len (l : List Nat) : (sha l).length = 32 := rfl
theorem be_lt {x : Nat} (h : x < M) : ∀ y ∈ be x, y < 256 := by
  intro y hy
  unfold be M at *
  simp at hy
  omega
theorem sha_lt (l : List Nat) : ∀ y ∈ sha l, y < 256 := by
  intro y hy
  unfold sha St.bytes at hy
  obtain ⟨x, hx, hy⟩ := List.mem_flatMap.1 hy
  obtain ⟨h1, h2, h3, h4, h5, h6, h7, h8⟩ := blocks_ok s0_ok (padded l) ((padded l).length / 64)
  unfold St.l at hx
  simp at hx
  rcases hx with rfl | rfl | rfl | rfl | rfl | rfl | rfl | rfl <;> exact be_lt (by assumption) y hy
end Go.Proofs.YtflfmacfodkedaaDoor.Sh
