/-
  Plain facts on UTF-8 texts: how many runes, or that it is none; by the model's own decoding. No program in sight.
-/
import Derived.Laws.RangeAny
namespace Go.Proofs.Ytcianlgkfkccoaa.Uf
set_option linter.unusedSimpArgs false
set_option linter.unusedVariables false
open Go

/-- Does a rune begin at that place? -/
def okAt (s : ByteArray) (i : Nat) : Bool := !((Utf8.decode s i).1 == 65533 && (Utf8.decode s i).2 == 1)
/-- How many bytes on. -/
def wid (s : ByteArray) (i : Nat) : Nat := (Utf8.decode s i).2
/-- The rune. -/
def rune (s : ByteArray) (i : Nat) : Nat := (Utf8.decode s i).1
theorem wid_pos (s : ByteArray) (pos : Nat) (h : pos < s.size) : 1 ≤ wid s pos := by
  unfold wid
  by_cases ha : (s[pos]'h).toNat < 128
  · rw [decode_ascii s pos h ha]
    exact Nat.le_refl _
  · exact (decode_high s pos h (by omega)).2

/-- With so much fuel, from that place on: how many runes; none: it is no UTF-8. -/
def run (s : ByteArray) : Nat → Nat → Option Nat
  | 0, _ => some 0
  | f + 1, i => if i < s.size then (if okAt s i then (run s f (i + wid s i)).map (· + 1) else none) else some 0
theorem run_end (s : ByteArray) (f i : Nat) (h : s.size ≤ i) : run s f i = some 0 := by
  cases f with
  | zero => rfl
  | succ f => rw [run, if_neg (by omega)]
theorem run_fuel (s : ByteArray) : ∀ (f g i : Nat), s.size - i ≤ f → s.size - i ≤ g → run s f i = run s g i
  | 0, g, i, hf, _ => by rw [run_end s 0 i (by omega), run_end s g i (by omega)]
  | f + 1, 0, i, _, hg => by rw [run_end s _ i (by omega), run_end s _ i (by omega)]
  | f + 1, g + 1, i, hf, hg => by
    by_cases h : i < s.size
    · have := wid_pos s i h
      rw [run, run, if_pos h, if_pos h, run_fuel s f g (i + wid s i) (by omega) (by omega)]
    · rw [run_end s _ i (by omega), run_end s _ i (by omega)]
def rest (s : ByteArray) (i : Nat) : Option Nat := run s (s.size - i) i
theorem rest_end (s : ByteArray) (i : Nat) (h : s.size ≤ i) : rest s i = some 0 := run_end s _ i h
theorem rest_step (s : ByteArray) (i : Nat) (h : i < s.size) : rest s i = if okAt s i then (rest s (i + wid s i)).map (· + 1) else none := by
  have := wid_pos s i h
  unfold rest
  rw [show s.size - i = (s.size - i - 1) + 1 by omega, run, if_pos h, run_fuel s (s.size - i - 1) (s.size - (i + wid s i)) (i + wid s i) (by omega) (Nat.le_refl _)]
/-- How many runes the text has; none: it is no UTF-8. -/
def count (s : ByteArray) : Option Nat := rest s 0
def valid (s : ByteArray) : Bool := (count s).isSome
def countV (s : ByteArray) : Int := match count s with
  | some n => n
  | none => 0

/-- What a walk keeps that has read n runes and stands at a place. -/
def At (s : ByteArray) (i n : Nat) : Prop := count s = (rest s i).map (· + n)
theorem At.start (s : ByteArray) : At s 0 0 := by unfold At count; cases rest s 0 <;> simp
theorem At.step {s : ByteArray} {i n : Nat} (h : At s i n) (hi : i < s.size) (ho : okAt s i = true) : At s (i + wid s i) (n + 1) := by
  unfold At at *
  rw [h, rest_step s i hi, if_pos ho]
  cases rest s (i + wid s i) with
  | none => rfl
  | some m => simp only [Option.map_some, Option.some.injEq]; omega
theorem At.bad {s : ByteArray} {i n : Nat} (h : At s i n) (hi : i < s.size) (ho : okAt s i = false) : valid s = false ∧ countV s = 0 := by
  have : count s = none := by unfold At at h; rw [h, rest_step s i hi, ho]; rfl
  unfold valid countV
  rw [this]; exact ⟨rfl, rfl⟩
theorem At.done {s : ByteArray} {i n : Nat} (h : At s i n) (hi : s.size ≤ i) : valid s = true ∧ countV s = n := by
  have : count s = some n := by unfold At at h; rw [h, rest_end s i hi]; simp
  unfold valid countV
  rw [this]; exact ⟨rfl, rfl⟩
theorem At.le {s : ByteArray} {i n : Nat} (h : n ≤ i) (hi : i < s.size) : n + 1 ≤ i + wid s i := by have := wid_pos s i hi; omega

/-! ### What the bytes say -/
/-- The byte at a place, 0 beyond. -/
def b (s : ByteArray) (i : Nat) : Nat := (s.get! i).toNat
theorem b_lt (s : ByteArray) (i : Nat) : b s i < 256 := (s.get! i).toNat_lt
theorem b_at (s : ByteArray) (i : Nat) (h : i < s.size) : b s i = s[i].toNat := by
  unfold b
  congr 1
  have := get_at s i h
  rwa [Nat.add_zero] at this
/-- A byte that goes on with a rune. -/
def cont (s : ByteArray) (i : Nat) : Bool := decide (i < s.size) && b s i / 64 == 2
def c2 (s : ByteArray) (i : Nat) : Nat := b s i % 32 * 64 + b s (i + 1) % 64
def c3 (s : ByteArray) (i : Nat) : Nat := b s i % 16 * 4096 + b s (i + 1) % 64 * 64 + b s (i + 2) % 64
def c4 (s : ByteArray) (i : Nat) : Nat := b s i % 8 * 262144 + b s (i + 1) % 64 * 4096 + b s (i + 2) % 64 * 64 + b s (i + 3) % 64
theorem decode_eq (s : ByteArray) (i : Nat) : Utf8.decode s i =
    if b s i < 128 then (b s i, 1)
    else if b s i / 32 == 6 && cont s (i + 1) then (if c2 s i ≥ 128 then (c2 s i, 2) else (65533, 1))
    else if b s i / 16 == 14 && cont s (i + 1) && cont s (i + 2) then (if c3 s i ≥ 2048 && Utf8.valid (c3 s i) then (c3 s i, 3) else (65533, 1))
    else if b s i / 8 == 30 && cont s (i + 1) && cont s (i + 2) && cont s (i + 3) then (if c4 s i ≥ 65536 && Utf8.valid (c4 s i) then (c4 s i, 4) else (65533, 1))
    else (65533, 1) := rfl
theorem cont_iff (s : ByteArray) (i : Nat) : cont s i = true ↔ i < s.size ∧ 128 ≤ b s i ∧ b s i ≤ 191 := by
  have := b_lt s i
  unfold cont
  rw [Bool.and_eq_true, decide_eq_true_eq, beq_iff_eq]
  omega
/-- The four ways in which a rune begins there. -/
theorem okAt_iff (s : ByteArray) (i : Nat) : okAt s i = true ↔
    (b s i < 128 ∧ wid s i = 1 ∧ rune s i = b s i) ∨
    (192 ≤ b s i ∧ b s i < 224 ∧ cont s (i + 1) = true ∧ 128 ≤ c2 s i ∧ wid s i = 2 ∧ rune s i = c2 s i) ∨
    (224 ≤ b s i ∧ b s i < 240 ∧ cont s (i + 1) = true ∧ cont s (i + 2) = true ∧ 2048 ≤ c3 s i ∧ (c3 s i < 55296 ∨ 57344 ≤ c3 s i) ∧ wid s i = 3 ∧ rune s i = c3 s i) ∨
    (240 ≤ b s i ∧ b s i < 248 ∧ cont s (i + 1) = true ∧ cont s (i + 2) = true ∧ cont s (i + 3) = true ∧ 65536 ≤ c4 s i ∧ c4 s i ≤ 1114111 ∧ wid s i = 4 ∧ rune s i = c4 s i) := by
  have h0 := b_lt s i
  unfold okAt wid rune
  rw [decode_eq]
  have hv : ∀ c : Nat, Utf8.valid (c : Int) = true ↔ c < 55296 ∨ (57344 ≤ c ∧ c ≤ 1114111) := by
    intro c
    unfold Utf8.valid
    simp only [Bool.or_eq_true, Bool.and_eq_true, decide_eq_true_eq]
    omega
  by_cases h1 : b s i < 128
  · rw [if_pos h1]
    refine ⟨fun _ => .inl ⟨h1, rfl, rfl⟩, fun _ => ?_⟩
    rw [Bool.not_eq_true', Bool.and_eq_false_iff]
    left
    exact beq_eq_false_iff_ne.2 (by show b s i ≠ 65533; omega)
  · rw [if_neg h1]
    by_cases h2 : (b s i / 32 == 6 && cont s (i + 1)) = true
    · rw [if_pos h2]
      rw [Bool.and_eq_true, beq_iff_eq] at h2
      by_cases h3 : c2 s i ≥ 128
      · rw [if_pos h3]
        refine ⟨fun _ => .inr (.inl ⟨by omega, by omega, h2.2, h3, rfl, rfl⟩), fun _ => ?_⟩
        rw [Bool.not_eq_true', Bool.and_eq_false_iff]
        right; rfl
      · rw [if_neg h3]
        refine ⟨fun h => by simp at h, fun h => ?_⟩
        omega
    · rw [if_neg h2]
      by_cases h3 : (b s i / 16 == 14 && cont s (i + 1) && cont s (i + 2)) = true
      · rw [if_pos h3]
        rw [Bool.and_eq_true, Bool.and_eq_true, beq_iff_eq] at h3
        have hc : c3 s i ≤ 65535 := by
          have := b_lt s (i + 1); unfold c3; omega
        by_cases h4 : (decide (c3 s i ≥ 2048) && Utf8.valid (c3 s i : Nat)) = true
        · rw [if_pos h4]
          rw [Bool.and_eq_true, decide_eq_true_eq, hv] at h4
          refine ⟨fun _ => .inr (.inr (.inl ⟨by omega, by omega, h3.1.2, h3.2, by omega, by omega, rfl, rfl⟩)), fun _ => ?_⟩
          rw [Bool.not_eq_true', Bool.and_eq_false_iff]
          right; rfl
        · rw [if_neg h4]
          rw [Bool.and_eq_true, decide_eq_true_eq, hv] at h4
          refine ⟨fun h => by simp at h, fun h => ?_⟩
          omega
      · rw [if_neg h3]
        by_cases h4 : (b s i / 8 == 30 && cont s (i + 1) && cont s (i + 2) && cont s (i + 3)) = true
        · rw [if_pos h4]
          rw [Bool.and_eq_true, Bool.and_eq_true, Bool.and_eq_true, beq_iff_eq] at h4
          by_cases h5 : (decide (c4 s i ≥ 65536) && Utf8.valid (c4 s i : Nat)) = true
          · rw [if_pos h5]
            rw [Bool.and_eq_true, decide_eq_true_eq, hv] at h5
            refine ⟨fun _ => .inr (.inr (.inr ⟨by omega, by omega, h4.1.1.2, h4.1.2, h4.2, by omega, by omega, rfl, rfl⟩)), fun _ => ?_⟩
            rw [Bool.not_eq_true', Bool.and_eq_false_iff]
            right; rfl
          · rw [if_neg h5]
            rw [Bool.and_eq_true, decide_eq_true_eq, hv] at h5
            refine ⟨fun h => by simp at h, fun h => ?_⟩
            omega
        · rw [if_neg h4]
          refine ⟨fun h => by simp at h, fun h => ?_⟩
          exfalso
          rw [Bool.and_eq_true, beq_iff_eq] at h2
          rw [Bool.and_eq_true, Bool.and_eq_true, beq_iff_eq] at h3
          rw [Bool.and_eq_true, Bool.and_eq_true, Bool.and_eq_true, beq_iff_eq] at h4
          rcases h with h | ⟨a1, a2, a3, _⟩ | ⟨a1, a2, a3, a4, _⟩ | ⟨a1, a2, a3, a4, a5, _⟩
          · omega
          · exact h2 ⟨by omega, a3⟩
          · exact h3 ⟨⟨by omega, a3⟩, a4⟩
          · exact h4 ⟨⟨⟨by omega, a3⟩, a4⟩, a5⟩

theorem dec1 (s : ByteArray) (i : Nat) (h : b s i < 128) : Utf8.decode s i = (b s i, 1) := by rw [decode_eq, if_pos h]
theorem dec2 (s : ByteArray) (i : Nat) (h1 : 192 ≤ b s i) (h2 : b s i < 224) (w1 : cont s (i + 1) = true) (hd : 128 ≤ c2 s i) : Utf8.decode s i = (c2 s i, 2) := by
  rw [decode_eq, if_neg (by omega), if_pos (by rw [Bool.and_eq_true, beq_iff_eq]; exact ⟨by omega, w1⟩), if_pos hd]
theorem dec3 (s : ByteArray) (i : Nat) (h1 : 224 ≤ b s i) (h2 : b s i < 240) (w1 : cont s (i + 1) = true) (w2 : cont s (i + 2) = true) (hd : 2048 ≤ c3 s i) (hd2 : c3 s i < 55296 ∨ 57344 ≤ c3 s i) : Utf8.decode s i = (c3 s i, 3) := by
  have hd3 : c3 s i ≤ 65535 := by have := b_lt s (i + 1); unfold c3; omega
  rw [decode_eq, if_neg (by omega), if_neg (by rw [Bool.and_eq_true, beq_iff_eq]; omega), if_pos (by rw [Bool.and_eq_true, Bool.and_eq_true, beq_iff_eq]; exact ⟨⟨by omega, w1⟩, w2⟩), if_pos (by
    unfold Utf8.valid
    simp only [Bool.and_eq_true, Bool.or_eq_true, decide_eq_true_eq]
    omega)]
theorem dec4 (s : ByteArray) (i : Nat) (h1 : 240 ≤ b s i) (h2 : b s i < 248) (w1 : cont s (i + 1) = true) (w2 : cont s (i + 2) = true) (w3 : cont s (i + 3) = true) (hd : 65536 ≤ c4 s i) (hd2 : c4 s i ≤ 1114111) : Utf8.decode s i = (c4 s i, 4) := by
  rw [decode_eq, if_neg (by omega), if_neg (by rw [Bool.and_eq_true, beq_iff_eq]; omega), if_neg (by rw [Bool.and_eq_true, Bool.and_eq_true, beq_iff_eq]; omega), if_pos (by rw [Bool.and_eq_true, Bool.and_eq_true, Bool.and_eq_true, beq_iff_eq]; exact ⟨⟨⟨by omega, w1⟩, w2⟩, w3⟩), if_pos (by
    unfold Utf8.valid
    simp only [Bool.and_eq_true, Bool.or_eq_true, decide_eq_true_eq]
    omega)]

/-- Do the bytes EF BF BD stand there? -/
def fffd (s : ByteArray) (i : Nat) : Bool := decide (i + 2 < s.size) && (b s i == 239 && b s (i + 1) == 191 && b s (i + 2) == 189)
theorem fffd_iff (s : ByteArray) (i : Nat) : fffd s i = true ↔ i + 2 < s.size ∧ b s i = 239 ∧ b s (i + 1) = 191 ∧ b s (i + 2) = 189 := by
  unfold fffd
  simp only [Bool.and_eq_true, decide_eq_true_eq, beq_iff_eq, and_assoc]
theorem okAt_no (s : ByteArray) (i : Nat) (h : okAt s i = false) : rune s i = 65533 ∧ wid s i = 1 := by
  unfold okAt at h
  rw [Bool.not_eq_false', Bool.and_eq_true, beq_iff_eq, beq_iff_eq] at h
  exact h
theorem okAt_of_fffd (s : ByteArray) (i : Nat) (h : fffd s i = true) : okAt s i = true := by
  obtain ⟨h0, h1, h2, h3⟩ := (fffd_iff s i).1 h
  cases e : okAt s i with
  | true => rfl
  | false =>
    have hw := (okAt_no s i e).2
    have hc1 : cont s (i + 1) = true := (cont_iff s _).2 ⟨by omega, by omega, by omega⟩
    have hc2 : cont s (i + 2) = true := (cont_iff s _).2 ⟨by omega, by omega, by omega⟩
    have hc : c3 s i = 65533 := by unfold c3; rw [h1, h2, h3]
    unfold wid at hw
    rw [decode_eq, h1, hc1, hc2, hc, if_neg (by decide), if_neg (by decide), if_pos (by decide), if_pos (by decide)] at hw
    exact absurd hw (by decide)
theorem fffd_of_okAt (s : ByteArray) (i : Nat) (h : okAt s i = true) (hr : rune s i = 65533) : fffd s i = true := by
  have h0 := b_lt s i
  have h1 := b_lt s (i + 1)
  have h2 := b_lt s (i + 2)
  rcases (okAt_iff s i).1 h with ⟨a1, _, a3⟩ | ⟨a1, a2, a3, a4, _, a6⟩ | ⟨a1, a2, a3, a4, a5, _, _, a8⟩ | ⟨a1, a2, _, _, _, a3, a4, _, a6⟩
  · omega
  · rw [a6] at hr; unfold c2 at hr; omega
  · rw [a8] at hr
    rw [cont_iff] at a3 a4
    unfold c3 at hr
    exact (fffd_iff s i).2 (by omega)
  · rw [a6] at hr; omega
end Go.Proofs.Ytcianlgkfkccoaa.Uf
