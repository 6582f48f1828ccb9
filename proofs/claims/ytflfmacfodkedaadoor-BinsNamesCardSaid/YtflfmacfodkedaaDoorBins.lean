/-
  Bins of digests, plain: digits of a number, prefixes, bins, roles. Facts on them; no program's step in sight.
-/
import Derived.Test.YtflfmacfodkedaaDoorShaTop
import Derived.Test.YtflfmacfodkedaaDoorHexLaw
import Derived.Test.YtflfmacfodkedaaDoorHexNum
import Derived.Test.YtflfmacfodkedaaDoorUtfFns
import Derived.Test.YtflfmacfodkedaaDoorNameLaw
namespace Go.Proofs.YtflfmacfodkedaaDoor.Bn
set_option linter.unusedSimpArgs false
set_option linter.unusedVariables false
open Go Go.RowKit

/-! ### Digits of a number -/
/-- The last c digits. -/
def txl (n : Nat) : Nat → List UInt8
  | 0 => []
  | c + 1 => txl (n / 16) c ++ [Hx.hexd (n % 16)]
def text (n c : Nat) : ByteArray := ⟨(txl n c).toArray⟩
theorem txl_len : ∀ (c n : Nat), (txl n c).length = c
  | 0, _ => rfl
  | c + 1, n => by rw [txl, List.length_append, txl_len c]; rfl
theorem txl_front : ∀ (c n : Nat), txl n (c + 1) = Hx.hexd (n / 16 ^ c % 16) :: txl n c
  | 0, n => by simp [txl]
  | c + 1, n => by
    rw [txl, txl_front c (n / 16), txl, List.cons_append, Nat.div_div_eq_div_mul, Nat.pow_succ']
theorem txl_at : ∀ (c n j : Nat), j < c → (txl n c)[j]? = some (Hx.hexd (n / 16 ^ (c - 1 - j) % 16))
  | 0, _, _, h => by omega
  | c + 1, n, j, h => by
    rw [txl_front]
    cases j with
    | zero => simp
    | succ j =>
      rw [List.getElem?_cons_succ, txl_at c n j (by omega)]
      rw [show c + 1 - 1 - (j + 1) = c - 1 - j by omega]
theorem text_size (n c : Nat) : (text n c).size = c := txl_len c n
theorem text_list (n c : Nat) : (text n c).data.toList = txl n c := rfl
theorem text_byte (n c k : Nat) (h : k < c) : Hx.byteAt (text n c) k = Hx.hexd (n / 16 ^ (c - 1 - k) % 16) :=
  (Hx.byteAt_of _ _ _ (by rw [text_list]; exact txl_at c n k h)).2
theorem text_dg (n c k : Nat) (h : k < c) : Hx.dgB (text n c) k = true ∧ Hx.dgV (text n c) k = ((n / 16 ^ (c - 1 - k) % 16 : Nat) : Int) := by
  have hz : k < (text n c).size := by rw [text_size]; exact h
  have hb := text_byte n c k h
  rw [Hx.byteAt_lt _ _ hz] at hb
  have hv := Hx.val_hexd (n / 16 ^ (c - 1 - k) % 16) (Nat.mod_lt _ (by omega))
  have := Hx.dg_yes (text n c) k hz (by rw [hb, hv]; omega)
  rw [hb, hv] at this
  exact this
theorem text_isHex (n c : Nat) : Hx.isHex (text n c) = true := by
  unfold Hx.isHex
  rw [text_size]
  exact Hx.isTo_of _ _ (fun k hk => (text_dg n c k hk).1)
theorem text_numTo (n c : Nat) (hn : n < 16 ^ c) : ∀ k, k ≤ c → Hx.numTo (text n c) k = n / 16 ^ (c - k)
  | 0, _ => by rw [Hx.numTo, Nat.sub_zero, Nat.div_eq_of_lt hn]
  | k + 1, h => by
    rw [Hx.numTo, text_numTo n c hn k (by omega), (text_dg n c k (by omega)).2, Int.toNat_natCast, show c - k = (c - 1 - k) + 1 by omega, show c - (k + 1) = c - 1 - k by omega, Nat.pow_succ, ← Nat.div_div_eq_div_mul]
    omega
theorem text_num (n c : Nat) (hn : n < 16 ^ c) (h1 : 1 ≤ c) (h2 : c ≤ 16) : Hx.num (text n c) = n ∧ Hx.numE (text n c) = 0 := by
  constructor
  · unfold Hx.num
    rw [text_isHex, text_size, text_numTo n c hn c (Nat.le_refl _), Nat.sub_self, decide_eq_true (by omega), decide_eq_true (by omega)]
    simp
  · unfold Hx.numE
    rw [text_isHex, text_size]
    rw [if_pos rfl, if_neg (by omega), if_pos (by omega)]
theorem text_inj {n m c : Nat} (hn : n < 16 ^ c) (hm : m < 16 ^ c) (h : text n c = text m c) : n = m := by
  have h1 := text_numTo n c hn c (Nat.le_refl _)
  have h2 := text_numTo m c hm c (Nat.le_refl _)
  rw [h, h2] at h1
  simpa using h1.symm
/-- A text of digits is its number's text. -/
theorem text_ext (p : ByteArray) (n c : Nat) (hz : p.size = c) (h : ∀ k, k < c → Hx.byteAt p k = Hx.hexd (n / 16 ^ (c - 1 - k) % 16)) : p = text n c := by
  refine Hx.bytes_ext ?_
  apply List.ext_getElem?
  intro k
  rw [Hx.byteAt_list, text_list]
  by_cases hk : k < p.size
  · rw [if_pos hk, txl_at c n k (by omega), h k (by omega)]
  · rw [if_neg hk, List.getElem?_eq_none (by rw [txl_len]; omega)]

/-! ### Digests, bins -/
def dig (path : ByteArray) : ByteArray := Hx.enc (shaS path)
theorem dig_size (path : ByteArray) : (dig path).size = 64 := by unfold dig; rw [Hx.enc_size, shaS_size]
theorem dig_isHex (path : ByteArray) : Hx.isHex (dig path) = true := Hx.enc_isHex _
/-- The first four bytes as a number. -/
def b4 (a b c d : Nat) : Nat := a * 16777216 + b * 65536 + c * 256 + d
def be4 (s : ByteArray) : Nat := b4 ((byt s).getD 0 0) ((byt s).getD 1 0) ((byt s).getD 2 0) ((byt s).getD 3 0)
theorem byt_lt4 (s : ByteArray) (j : Nat) : (byt s).getD j 0 < 256 := getD_lt256 (byt_lt s) j
theorem be4_lt (s : ByteArray) : be4 s < 4294967296 := by
  have := byt_lt4 s 0; have := byt_lt4 s 1; have := byt_lt4 s 2; have := byt_lt4 s 3
  unfold be4 b4; omega
def bin (path : ByteArray) (bits : Nat) : Nat := be4 (shaS path) / 2 ^ (32 - bits)
theorem bin_lt (path : ByteArray) (bits : Nat) (h : bits ≤ 32) : bin path bits < 2 ^ bits := by
  unfold bin
  have := be4_lt (shaS path)
  rw [Nat.div_lt_iff_lt_mul (Nat.two_pow_pos _), ← Nat.pow_add, show bits + (32 - bits) = 32 by omega]
  exact this
/-- Is there a bin of so many bits? -/
def may (bits : Int) : Bool := decide (1 ≤ bits) && decide (bits ≤ 32)
def binN (path : ByteArray) (bits : Int) : Nat := if may bits then bin path bits.toNat else 0
def binE (bits : Int) : Int := if may bits then 0 else 1
theorem may_iff (bits : Int) : may bits = true ↔ 1 ≤ bits ∧ bits ≤ 32 := by unfold may; simp
theorem may_nat {bits : Int} (h : may bits = true) : ∃ k : Nat, bits = (k : Int) ∧ 1 ≤ k ∧ k ≤ 32 := by
  obtain ⟨h1, h2⟩ := (may_iff bits).1 h
  obtain ⟨k, rfl⟩ := Int.eq_ofNat_of_zero_le (show 0 ≤ bits by omega)
  exact ⟨k, rfl, by omega, by omega⟩
theorem may_not {bits : Int} (h : may bits = false) : bits < 1 ∨ (1 ≤ bits ∧ 32 < bits) := by
  by_cases h1 : 1 ≤ bits
  · by_cases h2 : bits ≤ 32
    · rw [(may_iff bits).2 ⟨h1, h2⟩] at h
      cases h
    · right; omega
  · left; omega
/-- One bit more. -/
theorem bit_step (a b c d i : Nat) (ha : a < 256) (hb : b < 256) (hc : c < 256) (hd : d < 256) (hi : i < 32) :
    b4 a b c d / 2 ^ (32 - (i + 1)) = 2 * (b4 a b c d / 2 ^ (32 - i)) + ([a, b, c, d].getD (i / 8) 0) / 2 ^ (7 - i % 8) % 2 := by
  unfold b4
  rcases (show i = 0 ∨ i = 1 ∨ i = 2 ∨ i = 3 ∨ i = 4 ∨ i = 5 ∨ i = 6 ∨ i = 7 ∨ i = 8 ∨ i = 9 ∨ i = 10 ∨ i = 11 ∨ i = 12 ∨ i = 13 ∨ i = 14 ∨ i = 15 ∨ i = 16 ∨ i = 17 ∨ i = 18 ∨ i = 19 ∨ i = 20 ∨ i = 21 ∨ i = 22 ∨ i = 23 ∨ i = 24 ∨ i = 25 ∨ i = 26 ∨ i = 27 ∨ i = 28 ∨ i = 29 ∨ i = 30 ∨ i = 31 by omega) with
    rfl | rfl | rfl | rfl | rfl | rfl | rfl | rfl | rfl | rfl | rfl | rfl | rfl | rfl | rfl | rfl | rfl | rfl | rfl | rfl | rfl | rfl | rfl | rfl | rfl | rfl | rfl | rfl | rfl | rfl | rfl | rfl
    <;> simp only [Nat.reduceAdd, Nat.reduceSub, Nat.reduceDiv, Nat.reduceMod, Nat.reducePow, List.getD_cons_zero, List.getD_cons_succ] <;> omega
theorem bin_step (s : ByteArray) (i : Nat) (hi : i < 32) : be4 s / 2 ^ (32 - (i + 1)) = 2 * (be4 s / 2 ^ (32 - i)) + ((byt s).getD (i / 8) 0) / 2 ^ (7 - i % 8) % 2 := by
  have h := bit_step _ _ _ _ i (byt_lt4 s 0) (byt_lt4 s 1) (byt_lt4 s 2) (byt_lt4 s 3) hi
  unfold be4
  rw [h]
  rcases (show i / 8 = 0 ∨ i / 8 = 1 ∨ i / 8 = 2 ∨ i / 8 = 3 by omega) with e | e | e | e <;> rw [e] <;> rfl
theorem bin_half (path : ByteArray) (bits : Nat) (h1 : 2 ≤ bits) (h2 : bits ≤ 32) : bin path bits / 2 = bin path (bits - 1) := by
  unfold bin
  rw [Nat.div_div_eq_div_mul, show 32 - (bits - 1) = (32 - bits) + 1 by omega, Nat.pow_succ]
theorem byteAt_toNat (s : ByteArray) (j : Nat) (h : j < s.size) : (Hx.byteAt s j).toNat = (byt s).getD j 0 := by
  rw [Hx.byteAt_lt s j h]
  unfold byt
  rw [List.getD_eq_getElem?_getD, List.getElem?_map, List.getElem?_eq_getElem (by simpa using h)]
  rfl
/-- The digest's digits are those of the first bytes. -/
theorem dig_at (path : ByteArray) (j : Nat) (h : j < 8) : Hx.byteAt (dig path) j = Hx.hexd (be4 (shaS path) / 16 ^ (7 - j) % 16) := by
  have hz := shaS_size path
  have e : ∀ k, k < 4 → Hx.byteAt (dig path) (2 * k) = Hx.hexd ((byt (shaS path)).getD k 0 / 16) ∧ Hx.byteAt (dig path) (2 * k + 1) = Hx.hexd ((byt (shaS path)).getD k 0 % 16) := by
    intro k hk
    have := Hx.enc_at (shaS path) k (by omega)
    rw [byteAt_toNat _ _ (by omega)] at this
    exact this
  have ha := byt_lt4 (shaS path) 0; have hb := byt_lt4 (shaS path) 1; have hc := byt_lt4 (shaS path) 2; have hd := byt_lt4 (shaS path) 3
  unfold be4 b4
  rcases (show j = 0 ∨ j = 1 ∨ j = 2 ∨ j = 3 ∨ j = 4 ∨ j = 5 ∨ j = 6 ∨ j = 7 by omega) with rfl | rfl | rfl | rfl | rfl | rfl | rfl | rfl
  · rw [(e 0 (by omega)).1]; congr 1; omega
  · rw [(e 0 (by omega)).2]; congr 1; omega
  · rw [(e 1 (by omega)).1]; congr 1; omega
  · rw [(e 1 (by omega)).2]; congr 1; omega
  · rw [(e 2 (by omega)).1]; congr 1; omega
  · rw [(e 2 (by omega)).2]; congr 1; omega
  · rw [(e 3 (by omega)).1]; congr 1; omega
  · rw [(e 3 (by omega)).2]; congr 1; omega
theorem byteAt_extract (s : ByteArray) (c k : Nat) (h : k < c) (hc : c ≤ s.size) : Hx.byteAt (s.extract 0 c) k = Hx.byteAt s k := by
  refine (Hx.byteAt_of (s.extract 0 c) k (Hx.byteAt s k) ?_).2
  rw [Lib.extract_data, List.drop_zero, List.getElem?_take, if_pos (by omega), Hx.byteAt_list, if_pos (by omega)]
theorem dig_front (path : ByteArray) (c : Nat) (h : c ≤ 8) : (dig path).extract 0 c = text (be4 (shaS path) / 16 ^ (8 - c)) c := by
  refine text_ext _ _ _ (by rw [ByteArray.size_extract, dig_size]; omega) (fun k hk => ?_)
  rw [byteAt_extract _ _ _ hk (by rw [dig_size]; omega), dig_at path k (by omega), Nat.div_div_eq_div_mul, ← Nat.pow_add, show 8 - c + (c - 1 - k) = 7 - k by omega]
theorem pre_text (path : ByteArray) (k c : Nat) (hk : k < 16 ^ c) (h : c ≤ 8) : hasPre (dig path) (text k c) = decide (k = be4 (shaS path) / 16 ^ (8 - c)) := by
  unfold hasPre
  rw [text_size, dig_size, decide_eq_true (by omega), Bool.true_and, dig_front path c h]
  have hb : be4 (shaS path) / 16 ^ (8 - c) < 16 ^ c := by
    rw [Nat.div_lt_iff_lt_mul (Nat.pow_pos (by omega)), ← Nat.pow_add, show c + (8 - c) = 8 by omega]
    exact be4_lt _
  by_cases e : k = be4 (shaS path) / 16 ^ (8 - c)
  · rw [decide_eq_true e, ← e, beq_self_eq_true]
  · rw [decide_eq_false e, beq_eq_false_iff_ne]
    intro h2
    rw [ByteArray.toList_eq, ByteArray.toList_eq] at h2
    exact e (text_inj hk hb (Hx.bytes_ext h2.symm))

/-! ### Prefixes -/
def isP (p : ByteArray) : Bool := decide (1 ≤ p.size) && decide (p.size ≤ 64) && Hx.isHex p
def prd (l : List ByteArray) (path : ByteArray) : Bool := l.any fun p => isP p && hasPre (dig path) p
def wid (bits : Nat) : Nat := (bits + 3) / 4
def spare (bits : Nat) : Nat := 4 * wid bits - bits
theorem wid_le {bits : Nat} (h1 : 1 ≤ bits) (h2 : bits ≤ 32) : 1 ≤ wid bits ∧ wid bits ≤ 8 ∧ spare bits ≤ 3 ∧ bits + spare bits = 4 * wid bits := by
  unfold spare wid; omega
theorem pow16 (w : Nat) : 16 ^ w = 2 ^ (4 * w) := by rw [Nat.pow_mul]
def prefAt (bits n i : Nat) : ByteArray := text (n * 2 ^ spare bits + i) (wid bits)
def prefs (bits n : Nat) : List ByteArray := (List.range (2 ^ spare bits)).map (prefAt bits n)
theorem prefs_len (bits n : Nat) : (prefs bits n).length = 2 ^ spare bits := by unfold prefs; rw [List.length_map, List.length_range]
theorem prefs_at (bits n i : Nat) (h : i < 2 ^ spare bits) : (prefs bits n)[i]? = some (prefAt bits n i) := by
  unfold prefs
  rw [List.getElem?_map, List.getElem?_range h]
  rfl
/-- The number is one of so many digits. -/
theorem num_lt {bits n i : Nat} (h1 : 1 ≤ bits) (h2 : bits ≤ 32) (hn : n < 2 ^ bits) (hi : i < 2 ^ spare bits) : n * 2 ^ spare bits + i < 16 ^ wid bits := by
  obtain ⟨_, _, _, h⟩ := wid_le h1 h2
  rw [pow16, ← h, Nat.pow_add]
  have : n + 1 ≤ 2 ^ bits := hn
  calc n * 2 ^ spare bits + i < n * 2 ^ spare bits + 2 ^ spare bits := by omega
    _ = (n + 1) * 2 ^ spare bits := by rw [Nat.succ_mul]
    _ ≤ 2 ^ bits * 2 ^ spare bits := Nat.mul_le_mul_right _ this
theorem num_lt32 {bits n i : Nat} (h1 : 1 ≤ bits) (h2 : bits ≤ 32) (hn : n < 2 ^ bits) (hi : i < 2 ^ spare bits) : n * 2 ^ spare bits + i < 4294967296 := by
  have := num_lt h1 h2 hn hi
  have h8 := (wid_le h1 h2).2.1
  exact Nat.lt_of_lt_of_le this (show 16 ^ wid bits ≤ 16 ^ 8 from Nat.pow_le_pow_right (by omega) h8)
theorem isP_text (n c : Nat) (h1 : 1 ≤ c) (h2 : c ≤ 64) : isP (text n c) = true := by
  unfold isP
  rw [text_isHex, text_size, decide_eq_true h1, decide_eq_true h2]
  rfl
/-- A path is of the prefixes of its bin, and of no other one. -/
theorem prd_prefs (path : ByteArray) (bits n : Nat) (h1 : 1 ≤ bits) (h2 : bits ≤ 32) (hn : n < 2 ^ bits) : prd (prefs bits n) path = decide (n = bin path bits) := by
  obtain ⟨w1, w2, s3, hw⟩ := wid_le h1 h2
  have hp : 0 < 2 ^ spare bits := Nat.two_pow_pos _
  have hD : be4 (shaS path) / 16 ^ (8 - wid bits) / 2 ^ spare bits = bin path bits := by
    unfold bin
    rw [Nat.div_div_eq_div_mul, pow16, ← Nat.pow_add, show 4 * (8 - wid bits) + spare bits = 32 - bits by omega]
  rw [Bool.eq_iff_iff, decide_eq_true_eq]
  unfold prd
  rw [List.any_eq_true]
  constructor
  · rintro ⟨p, hp, h⟩
    unfold prefs at hp
    obtain ⟨i, hi, rfl⟩ := List.mem_map.1 hp
    rw [List.mem_range] at hi
    unfold prefAt at h
    rw [isP_text _ _ w1 (by omega), Bool.true_and, pre_text _ _ _ (num_lt h1 h2 hn hi) w2, decide_eq_true_eq] at h
    rw [← hD, ← h, Nat.mul_comm, Nat.mul_add_div (Nat.two_pow_pos _), Nat.div_eq_of_lt hi, Nat.add_zero]
  · intro h
    generalize hd : be4 (shaS path) / 16 ^ (8 - wid bits) = D at *
    have hi : D % 2 ^ spare bits < 2 ^ spare bits := Nat.mod_lt _ hp
    refine ⟨prefAt bits n (D % 2 ^ spare bits), List.mem_map.2 ⟨_, List.mem_range.2 hi, rfl⟩, ?_⟩
    unfold prefAt
    rw [isP_text _ _ w1 (by omega), Bool.true_and, pre_text _ _ _ (num_lt h1 h2 hn hi) w2, decide_eq_true_eq, hd, h, ← hD, Nat.mul_comm]
    exact Nat.div_add_mod _ _
theorem prd_yes {l : List ByteArray} {path : ByteArray} {k : Nat} (hk : k < l.length) (h : (isP (l.getD k ByteArray.empty) && hasPre (dig path) (l.getD k ByteArray.empty)) = true) : prd l path = true := by
  unfold prd
  rw [List.any_eq_true]
  refine ⟨l.getD k ByteArray.empty, ?_, h⟩
  rw [List.getD_eq_getElem?_getD, List.getElem?_eq_getElem hk]
  exact List.getElem_mem _
theorem prd_no {l : List ByteArray} {path : ByteArray} (h : ∀ k, k < l.length → (isP (l.getD k ByteArray.empty) && hasPre (dig path) (l.getD k ByteArray.empty)) = false) : prd l path = false := by
  unfold prd
  rw [List.any_eq_false]
  intro x hx
  obtain ⟨k, hk, rfl⟩ := List.getElem_of_mem hx
  have := h k hk
  rw [List.getD_eq_getElem?_getD, List.getElem?_eq_getElem hk] at this
  rw [Bool.not_eq_true]
  exact this
/-! ### Roles of bins -/
def hasB (bits : Int) (n : Nat) : Bool := may bits && decide (n < 2 ^ bits.toNat)
def prefL (bits : Int) (n : Nat) : List ByteArray := if hasB bits n then prefs bits.toNat n else []
def prefE (bits : Int) (n : Nat) : Int := if hasB bits n then 0 else 1
def wrong (bits : Int) (p : ByteArray) : Int := if may bits then (if Nm.role p then (if p.size + 1 + wid bits.toNat ≤ 64 then 0 else 5) else 3) else 1
def roleT (bits : Nat) (p : ByteArray) (n : Nat) : ByteArray := p ++ ⟨#[45]⟩ ++ text n (wid bits)
def roleE (bits : Int) (p : ByteArray) (n : Nat) : Int := if wrong bits p = 0 then (if hasB bits n then 0 else 1) else wrong bits p
def roleS (bits : Int) (p : ByteArray) (n : Nat) : ByteArray := if roleE bits p n = 0 then roleT bits.toNat p n else ⟨#[]⟩
def goesS (bits : Int) (p path : ByteArray) : ByteArray := if wrong bits p = 0 then roleT bits.toNat p (bin path bits.toNat) else ⟨#[]⟩
theorem wrong_zero {bits : Int} {p : ByteArray} (h : wrong bits p = 0) : may bits = true ∧ Nm.role p = true ∧ p.size + 1 + wid bits.toNat ≤ 64 := by
  unfold wrong at h
  split at h
  · split at h
    · split at h
      · exact ⟨by assumption, by assumption, by assumption⟩
      · omega
    · omega
  · omega
end Go.Proofs.YtflfmacfodkedaaDoor.Bn
