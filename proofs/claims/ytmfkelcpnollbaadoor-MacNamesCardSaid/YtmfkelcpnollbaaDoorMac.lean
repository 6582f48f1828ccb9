/-
  HMAC-SHA-256, plain: a key's block, each byte with another one, the code. Facts on them; no program's step in sight.
-/
import Derived.Test.YtmfkelcpnollbaaDoorShaTop
namespace Go.Proofs.YtmfkelcpnollbaaDoor.Mc
set_option linter.unusedSimpArgs false
set_option linter.unusedVariables false
open Go Go.RowKit

/-- The key, or the SHA-256 of a longer one. -/
def short (k : List Nat) : List Nat := if k.length ≤ 64 then k else Sh.sha k
/-- A key's block. -/
def blk (k : List Nat) : List Nat := short k ++ List.replicate (64 - (short k).length) 0
def blkS (k : ByteArray) : ByteArray := strN (blk (byt k))
/-- Each byte with another one. -/
def xo (c : Nat) (l : List Nat) : List Nat := l.map (· ^^^ c)
def xoS (c : Nat) (b : ByteArray) : ByteArray := strN (xo c (byt b))
/-- The code. -/
def ofS (k s : ByteArray) : ByteArray := shaS (xoS 92 (blkS k) ++ shaS (xoS 54 (blkS k) ++ s))
theorem short_len (k : List Nat) : (short k).length ≤ 64 := by
  unfold short
  split
  · assumption
  · rw [Sh.sha_len]; omega
theorem blk_len (k : List Nat) : (blk k).length = 64 := by
  have := short_len k
  unfold blk
  rw [List.length_append, List.length_replicate]
  omega
theorem blk_lt {k : List Nat} (h : ∀ x ∈ k, x < 256) : ∀ x ∈ blk k, x < 256 := by
  intro x hx
  unfold blk short at hx
  rcases List.mem_append.1 hx with hx | hx
  · split at hx
    · exact h x hx
    · exact Sh.sha_lt k x hx
  · have := List.eq_of_mem_replicate hx; omega
theorem byt_blk (k : ByteArray) : byt (blkS k) = blk (byt k) := byt_strN _ (blk_lt (byt_lt k))
theorem blkS_size (k : ByteArray) : (blkS k).size = 64 := by rw [← byt_len, byt_blk, blk_len]
theorem xo_lt {c : Nat} (hc : c < 256) {l : List Nat} (h : ∀ x ∈ l, x < 256) : ∀ x ∈ xo c l, x < 256 := by
  intro x hx
  obtain ⟨y, hy, rfl⟩ := List.mem_map.1 hx
  exact Nat.xor_lt_two_pow (n := 8) (h y hy) hc
theorem byt_xo {c : Nat} (hc : c < 256) (b : ByteArray) : byt (xoS c b) = xo c (byt b) := byt_strN _ (xo_lt hc (byt_lt b))
theorem xoS_size {c : Nat} (hc : c < 256) (b : ByteArray) : (xoS c b).size = b.size := by rw [← byt_len, byt_xo hc, xo, List.length_map, byt_len]
theorem short_blk (k : List Nat) : short (blk k) = blk k := by
  unfold short
  rw [if_pos (by rw [blk_len]; omega)]
theorem blk_blk (k : List Nat) : blk (blk k) = blk k := by
  rw [blk, short_blk, blk_len, Nat.sub_self, List.replicate_zero, List.append_nil]
theorem blkS_blkS (k : ByteArray) : blkS (blkS k) = blkS k := by
  unfold blkS
  rw [show byt (strN (blk (byt k))) = blk (byt k) from byt_blk k, blk_blk]
/-- Keys of one block have one code. -/
theorem ofS_congr {k k' : ByteArray} (h : blkS k' = blkS k) (s : ByteArray) : ofS k' s = ofS k s := by
  unfold ofS
  rw [h]
theorem ofS_blk (k s : ByteArray) : ofS (blkS k) s = ofS k s := ofS_congr (blkS_blkS k) s
theorem byt_shaS (k : ByteArray) : byt (shaS k) = Sh.sha (byt k) := byt_strN _ (Sh.sha_lt _)
/-- A longer key, and its SHA-256. -/
theorem blkS_sha (k : ByteArray) (h : 64 < k.size) : blkS (shaS k) = blkS k := by
  unfold blkS
  congr 1
  unfold blk
  have e1 : short (byt (shaS k)) = Sh.sha (byt k) := by
    unfold short
    rw [byt_shaS, if_pos (by rw [Sh.sha_len]; omega)]
  have e2 : short (byt k) = Sh.sha (byt k) := by
    unfold short
    rw [if_neg (by rw [byt_len]; omega)]
  rw [e1, e2]
/-- A key, and this with 0s behind it. -/
theorem blkS_zeros (k z : ByteArray) (n : Nat) (hz : byt z = List.replicate n 0) (h : k.size + n ≤ 64) : blkS (k ++ z) = blkS k := by
  unfold blkS
  congr 1
  unfold blk
  have e1 : short (byt (k ++ z)) = byt k ++ List.replicate n 0 := by
    unfold short
    rw [cat_byt, hz, if_pos (by rw [List.length_append, byt_len, List.length_replicate]; omega)]
  have e2 : short (byt k) = byt k := by
    unfold short
    rw [if_pos (by rw [byt_len]; omega)]
  rw [e1, e2, List.append_assoc, List.replicate_append_replicate, List.length_append, List.length_replicate, byt_len]
  congr 2
  omega
theorem ofS_size (k s : ByteArray) : (ofS k s).size = 32 := shaS_size _
end Go.Proofs.YtmfkelcpnollbaaDoor.Mc
