/-
  Plain facts on the reference's way to see where a rune begins. No program in sight.
-/
import Derived.Test.YtcianlgkfkccoaaUtf
namespace Go.Proofs.Ytcianlgkfkccoaa.Uf
set_option linter.unusedSimpArgs false
set_option linter.unusedVariables false
open Go

/-- What the first byte of a rune of so many bytes bears besides its number. -/
def lead (sz : Nat) : Nat := if sz = 2 then 192 else if sz = 3 then 224 else 240
def least (sz : Nat) : Int := if sz = 2 then 128 else if sz = 3 then 2048 else 65536
/-- Between which numbers n bytes f leave a rune of sz bytes, having gone over k of them; none: it is no rune. -/
def bgTo (f : Nat → Nat) (sz n : Nat) : Nat → Option (Int × Int)
  | 0 => some ((f 0 : Int) - lead sz, (f 0 : Int) - lead sz)
  | k + 1 => match bgTo f sz n k with
    | none => none
    | some (lo, hi) => if k + 1 < n then (if f (k + 1) < 128 ∨ 191 < f (k + 1) then none else some (64 * lo + ((f (k + 1) : Int) - 128), 64 * hi + ((f (k + 1) : Int) - 128))) else some (64 * lo, 64 * hi + 63)
/-- Do these bytes begin a rune? -/
def bg (f : Nat → Nat) (sz n : Nat) : Bool := match bgTo f sz n (sz - 1) with
  | none => false
  | some (lo, hi) => if 55296 ≤ max lo (least sz) ∧ min hi 1114111 ≤ 57343 then false else decide (max lo (least sz) ≤ min hi 1114111)
theorem bgTo_congr (f g : Nat → Nat) (sz n : Nat) (h0 : 0 < n) (h : ∀ k, k < n → f k = g k) : ∀ k, bgTo f sz n k = bgTo g sz n k
  | 0 => by simp only [bgTo, h 0 h0]
  | k + 1 => by
    simp only [bgTo, bgTo_congr f g sz n h0 h k]
    by_cases hk : k + 1 < n
    · rw [h (k + 1) hk]
    · simp only [if_neg hk]
theorem bg_congr (f g : Nat → Nat) (sz n : Nat) (h0 : 0 < n) (h : ∀ k, k < n → f k = g k) : bg f sz n = bg g sz n := by
  unfold bg; rw [bgTo_congr f g sz n h0 h]
theorem bgTo_no (f : Nat → Nat) (sz n : Nat) : ∀ (m k : Nat), k ≤ m → bgTo f sz n k = none → bgTo f sz n m = none
  | 0, k, h, e => by obtain rfl : k = 0 := by omega
                     exact e
  | m + 1, k, h, e => by
    by_cases hk : k = m + 1
    · subst hk; exact e
    · simp only [bgTo, bgTo_no f sz n m k (by omega) e]
theorem bg_no (f : Nat → Nat) (sz n k : Nat) (h : k ≤ sz - 1) (e : bgTo f sz n k = none) : bg f sz n = false := by
  unfold bg; rw [bgTo_no f sz n _ k h e]

theorem bgTo_bound (f : Nat → Nat) (sz n : Nat) (h0 : f 0 < 256) : ∀ (k : Nat) (l h : Int), bgTo f sz n k = some (l, h) → -(240 * (64 : Int) ^ k) ≤ l ∧ l + 1 ≤ 256 * (64 : Int) ^ k ∧ -(240 * (64 : Int) ^ k) ≤ h ∧ h + 1 ≤ 256 * (64 : Int) ^ k
  | 0, l, h, e => by
    simp only [bgTo, Option.some.injEq, Prod.mk.injEq] at e
    obtain ⟨rfl, rfl⟩ := e
    have hl : lead sz ≤ 240 := by unfold lead; split <;> (try split) <;> omega
    simp only [Int.pow_zero]
    omega
  | k + 1, l, h, e => by
    simp only [bgTo] at e
    cases hb : bgTo f sz n k with
    | none => rw [hb] at e; cases e
    | some p =>
      obtain ⟨l', h'⟩ := p
      rw [hb] at e
      have ih := bgTo_bound f sz n h0 k l' h' hb
      rw [Int.pow_succ]
      generalize (64 : Int) ^ k = M at ih ⊢
      simp only [] at e
      split at e
      · split at e
        · cases e
        · simp only [Option.some.injEq, Prod.mk.injEq] at e
          omega
      · simp only [Option.some.injEq, Prod.mk.injEq] at e
        omega
theorem bgTo_small (f : Nat → Nat) (sz n : Nat) (h0 : f 0 < 256) (k : Nat) (hk : k ≤ 3) (l h : Int) (e : bgTo f sz n k = some (l, h)) : -62914560 ≤ l ∧ l ≤ 67108864 ∧ -62914560 ≤ h ∧ h ≤ 67108864 := by
  have := bgTo_bound f sz n h0 k l h e
  have hp : k = 0 ∨ k = 1 ∨ k = 2 ∨ k = 3 := by omega
  rcases hp with rfl | rfl | rfl | rfl <;> simp only [Int.pow_zero, Int.reducePow] at this <;> omega

theorem bgTo_bad {f : Nat → Nat} {sz n k : Nat} {l h : Int} (e : bgTo f sz n (k - 1) = some (l, h)) (hk : 1 ≤ k) (hn : k < n) (hc : f k < 128 ∨ 191 < f k) : bgTo f sz n k = none := by
  obtain ⟨k, rfl⟩ : ∃ j, k = j + 1 := ⟨k - 1, by omega⟩
  rw [Nat.add_sub_cancel] at e
  simp only [bgTo, e, if_pos hn, if_pos hc]
theorem bgTo_in {f : Nat → Nat} {sz n k : Nat} {l h : Int} (e : bgTo f sz n (k - 1) = some (l, h)) (hk : 1 ≤ k) (hn : k < n) (hc : ¬ (f k < 128 ∨ 191 < f k)) : bgTo f sz n k = some (64 * l + ((f k : Int) - 128), 64 * h + ((f k : Int) - 128)) := by
  obtain ⟨k, rfl⟩ : ∃ j, k = j + 1 := ⟨k - 1, by omega⟩
  rw [Nat.add_sub_cancel] at e
  simp only [bgTo, e, if_pos hn, if_neg hc]
theorem bgTo_out {f : Nat → Nat} {sz n k : Nat} {l h : Int} (e : bgTo f sz n (k - 1) = some (l, h)) (hk : 1 ≤ k) (hn : ¬ k < n) : bgTo f sz n k = some (64 * l, 64 * h + 63) := by
  obtain ⟨k, rfl⟩ : ∃ j, k = j + 1 := ⟨k - 1, by omega⟩
  rw [Nat.add_sub_cancel] at e
  simp only [bgTo, e, if_neg hn]
theorem bg_end {f : Nat → Nat} {sz n : Nat} {l h : Int} (e : bgTo f sz n (sz - 1) = some (l, h)) : bg f sz n = decide (¬ (55296 ≤ max l (least sz) ∧ min h 1114111 ≤ 57343) ∧ max l (least sz) ≤ min h 1114111) := by
  unfold bg
  rw [e]
  simp only []
  by_cases hp : 55296 ≤ max l (least sz) ∧ min h 1114111 ≤ 57343
  · rw [if_pos hp, eq_comm, decide_eq_false_iff_not]; exact fun q => q.1 hp
  · rw [if_neg hp]; exact decide_eq_decide.2 ⟨fun q => ⟨hp, q⟩, fun q => q.2⟩

/-- How many bytes a rune has by its first byte. -/
def size (c : Nat) : Nat := if c < 128 then 1 else if c < 224 then 2 else if c < 240 then 3 else 4

theorem bg2 (f : Nat → Nat) (h1 : 192 ≤ f 0) (h2 : f 0 < 224) : bg f 2 1 = decide (194 ≤ f 0) ∧ bg f 2 2 = decide (128 ≤ f 1 ∧ f 1 ≤ 191 ∧ 128 ≤ (f 0 - 192) * 64 + (f 1 - 128)) := by
  have e : (least 2) = 128 := rfl
  have e2 : lead 2 = 192 := rfl
  constructor
  · simp only [bg, bgTo, e, e2, show ¬ (0 + 1 < 1) by omega, if_false, Nat.reduceSub]
    rw [if_neg (by omega)]
    exact decide_eq_decide.2 (by omega)
  · simp only [bg, bgTo, e, e2, show (0 + 1 < 2) by omega, if_true, Nat.reduceSub, Nat.zero_add]
    by_cases h : f 1 < 128 ∨ 191 < f 1
    · rw [if_pos h]; simp only []; rw [eq_comm, decide_eq_false_iff_not]; omega
    · rw [if_neg h]
      simp only []
      rw [if_neg (by omega)]
      exact decide_eq_decide.2 (by omega)
/-- The bytes are in the range of those that go on. -/
def cn (c : Nat) : Prop := 128 ≤ c ∧ c ≤ 191
instance (c : Nat) : Decidable (cn c) := inferInstanceAs (Decidable (_ ∧ _))
theorem cn_not {c : Nat} : (c < 128 ∨ 191 < c) ↔ ¬ cn c := by unfold cn; omega
theorem ite_dec (P Q : Prop) [Decidable P] [Decidable Q] : (if P then false else decide Q) = decide (¬ P ∧ Q) := by
  by_cases h : P
  · rw [if_pos h]; simp [h]
  · rw [if_neg h]; simp [h]
theorem bg31 (f : Nat → Nat) (h1 : 224 ≤ f 0) (h2 : f 0 < 240) : bg f 3 1 = true := by
  have e : (least 3) = 2048 := rfl
  have e2 : lead 3 = 224 := rfl
  simp only [bg, bgTo, e, e2, show ¬ (0 + 1 < 1) by omega, show ¬ (1 + 1 < 1) by omega, if_false, Nat.reduceSub]
  rw [ite_dec, decide_eq_true_eq]
  omega
theorem bg32 (f : Nat → Nat) (h1 : 224 ≤ f 0) (h2 : f 0 < 240) (k1 : cn (f 1)) : bg f 3 2 = decide (¬ (55296 ≤ max (((f 0 : Int) - 224) * 4096 + ((f 1 : Int) - 128) * 64) 2048 ∧ ((f 0 : Int) - 224) * 4096 + ((f 1 : Int) - 128) * 64 + 63 ≤ 57343) ∧ 2048 ≤ ((f 0 : Int) - 224) * 4096 + ((f 1 : Int) - 128) * 64 + 63) := by
  have e : (least 3) = 2048 := rfl
  have e2 : lead 3 = 224 := rfl
  have k1' := k1
  unfold cn at k1'
  simp only [bg, bgTo, e, e2, cn_not, k1, not_true_eq_false, show (0 + 1 < 2) by omega, show ¬ (1 + 1 < 2) by omega, if_false, if_true, Nat.reduceSub, Nat.zero_add]
  rw [ite_dec]
  exact decide_eq_decide.2 (by omega)
theorem bg33 (f : Nat → Nat) (h1 : 224 ≤ f 0) (h2 : f 0 < 240) : bg f 3 3 = decide (cn (f 1) ∧ cn (f 2) ∧ 2048 ≤ ((f 0 : Int) - 224) * 4096 + ((f 1 : Int) - 128) * 64 + ((f 2 : Int) - 128) ∧ ¬ (55296 ≤ ((f 0 : Int) - 224) * 4096 + ((f 1 : Int) - 128) * 64 + ((f 2 : Int) - 128) ∧ ((f 0 : Int) - 224) * 4096 + ((f 1 : Int) - 128) * 64 + ((f 2 : Int) - 128) ≤ 57343)) := by
  have e : (least 3) = 2048 := rfl
  have e2 : lead 3 = 224 := rfl
  by_cases k1 : cn (f 1)
  · by_cases k2 : cn (f 2)
    · simp only [bg, bgTo, e, e2, cn_not, k1, k2, not_true_eq_false, show (0 + 1 < 3) by omega, show (1 + 1 < 3) by omega, if_false, if_true, Nat.reduceSub, Nat.zero_add, Nat.reduceAdd, true_and]
      unfold cn at k1 k2
      rw [ite_dec]
      exact decide_eq_decide.2 (by omega)
    · simp only [bg, bgTo, e, e2, cn_not, k1, k2, not_true_eq_false, not_false_eq_true, show (0 + 1 < 3) by omega, show (1 + 1 < 3) by omega, if_false, if_true, Nat.reduceSub, Nat.zero_add, Nat.reduceAdd, false_and, and_false, decide_false]
  · simp only [bg, bgTo, e, e2, cn_not, k1, not_false_eq_true, show (0 + 1 < 3) by omega, if_true, Nat.reduceSub, Nat.zero_add, Nat.reduceAdd, false_and, decide_false]
theorem bg41 (f : Nat → Nat) (h1 : 240 ≤ f 0) (h2 : f 0 < 248) : bg f 4 1 = decide (f 0 ≤ 244) := by
  have e : (least 4) = 65536 := rfl
  have e2 : lead 4 = 240 := rfl
  simp only [bg, bgTo, e, e2, show ¬ (0 + 1 < 1) by omega, show ¬ (1 + 1 < 1) by omega, show ¬ (2 + 1 < 1) by omega, if_false, Nat.reduceSub]
  rw [ite_dec]
  exact decide_eq_decide.2 (by omega)
theorem bg42 (f : Nat → Nat) (h1 : 240 ≤ f 0) (h2 : f 0 < 248) (k1 : cn (f 1)) : bg f 4 2 = decide (65536 ≤ ((f 0 : Int) - 240) * 262144 + ((f 1 : Int) - 128) * 4096 + 4095 ∧ ((f 0 : Int) - 240) * 262144 + ((f 1 : Int) - 128) * 4096 ≤ 1114111) := by
  have e : (least 4) = 65536 := rfl
  have e2 : lead 4 = 240 := rfl
  have k1' := k1
  unfold cn at k1'
  simp only [bg, bgTo, e, e2, cn_not, k1, not_true_eq_false, show (0 + 1 < 2) by omega, show ¬ (1 + 1 < 2) by omega, show ¬ (2 + 1 < 2) by omega, if_false, if_true, Nat.reduceSub, Nat.zero_add]
  rw [ite_dec]
  exact decide_eq_decide.2 (by omega)
theorem bg43 (f : Nat → Nat) (h1 : 240 ≤ f 0) (h2 : f 0 < 248) (k1 : cn (f 1)) (k2 : cn (f 2)) : bg f 4 3 = decide (65536 ≤ ((f 0 : Int) - 240) * 262144 + ((f 1 : Int) - 128) * 4096 + ((f 2 : Int) - 128) * 64 + 63 ∧ ((f 0 : Int) - 240) * 262144 + ((f 1 : Int) - 128) * 4096 + ((f 2 : Int) - 128) * 64 ≤ 1114111) := by
  have e : (least 4) = 65536 := rfl
  have e2 : lead 4 = 240 := rfl
  have k1' := k1
  have k2' := k2
  unfold cn at k1' k2'
  simp only [bg, bgTo, e, e2, cn_not, k1, k2, not_true_eq_false, show (0 + 1 < 3) by omega, show (1 + 1 < 3) by omega, show ¬ (2 + 1 < 3) by omega, if_false, if_true, Nat.reduceSub, Nat.zero_add, Nat.reduceAdd]
  rw [ite_dec]
  exact decide_eq_decide.2 (by omega)
theorem bg44 (f : Nat → Nat) (h1 : 240 ≤ f 0) (h2 : f 0 < 248) : bg f 4 4 = decide (cn (f 1) ∧ cn (f 2) ∧ cn (f 3) ∧ 65536 ≤ ((f 0 : Int) - 240) * 262144 + ((f 1 : Int) - 128) * 4096 + ((f 2 : Int) - 128) * 64 + ((f 3 : Int) - 128) ∧ ((f 0 : Int) - 240) * 262144 + ((f 1 : Int) - 128) * 4096 + ((f 2 : Int) - 128) * 64 + ((f 3 : Int) - 128) ≤ 1114111) := by
  have e : (least 4) = 65536 := rfl
  have e2 : lead 4 = 240 := rfl
  by_cases k1 : cn (f 1)
  · by_cases k2 : cn (f 2)
    · by_cases k3 : cn (f 3)
      · simp only [bg, bgTo, e, e2, cn_not, k1, k2, k3, not_true_eq_false, show (0 + 1 < 4) by omega, show (1 + 1 < 4) by omega, show (2 + 1 < 4) by omega, if_false, if_true, Nat.reduceSub, Nat.zero_add, Nat.reduceAdd, true_and]
        unfold cn at k1 k2 k3
        rw [ite_dec]
        exact decide_eq_decide.2 (by omega)
      · simp only [bg, bgTo, e, e2, cn_not, k1, k2, k3, not_true_eq_false, not_false_eq_true, show (0 + 1 < 4) by omega, show (1 + 1 < 4) by omega, show (2 + 1 < 4) by omega, if_false, if_true, Nat.reduceSub, Nat.zero_add, Nat.reduceAdd, false_and, and_false, decide_false]
    · simp only [bg, bgTo, e, e2, cn_not, k1, k2, not_true_eq_false, not_false_eq_true, show (0 + 1 < 4) by omega, show (1 + 1 < 4) by omega, if_false, if_true, Nat.reduceSub, Nat.zero_add, Nat.reduceAdd, false_and, and_false, decide_false]
  · simp only [bg, bgTo, e, e2, cn_not, k1, not_false_eq_true, show (0 + 1 < 4) by omega, if_true, Nat.reduceSub, Nat.zero_add, Nat.reduceAdd, false_and, decide_false]

/-- What the reference asks at a place: bytes enough, and each beginning begins a rune. -/
def goes (s : ByteArray) (i : Nat) : Nat → Prop := fun n => i + n ≤ s.size ∧ bg (fun m => b s (i + m)) (size (b s i)) n = true
theorem ok_goes (s : ByteArray) (i : Nat) (hi : i < s.size) (h1 : 192 ≤ b s i) (h2 : b s i < 248) : okAt s i = true ↔ ∀ n, 1 ≤ n → n ≤ size (b s i) → goes s i n := by
  have hc : ∀ k, cont s (i + k) = true ↔ i + k < s.size ∧ cn (b s (i + k)) := fun k => by rw [cont_iff]; rfl
  have c2e : c2 s i = b s i % 32 * 64 + b s (i + 1) % 64 := rfl
  have c3e : c3 s i = b s i % 16 * 4096 + b s (i + 1) % 64 * 64 + b s (i + 2) % 64 := rfl
  have c4e : c4 s i = b s i % 8 * 262144 + b s (i + 1) % 64 * 4096 + b s (i + 2) % 64 * 64 + b s (i + 3) % 64 := rfl
  rw [okAt_iff]
  by_cases k2 : b s i < 224
  · have hz : size (b s i) = 2 := by unfold size; rw [if_neg (by omega), if_pos k2]
    unfold goes
    rw [hz]
    obtain ⟨g1, g2⟩ := bg2 (fun m => b s (i + m)) h1 k2
    simp only [Nat.add_zero] at g1 g2
    constructor
    · rintro (h | ⟨_, _, h, h', _⟩ | ⟨h, _⟩ | ⟨h, _⟩)
      · omega
      · rw [hc] at h
        unfold cn at h
        intro n n1 n2
        have : n = 1 ∨ n = 2 := by omega
        rcases this with rfl | rfl
        · exact ⟨by omega, by rw [g1, decide_eq_true_eq]; omega⟩
        · exact ⟨by omega, by rw [g2, decide_eq_true_eq]; omega⟩
      · omega
      · omega
    · intro h
      obtain ⟨q1, q2⟩ := h 2 (by omega) (by omega)
      rw [g2, decide_eq_true_eq] at q2
      have hw : cont s (i + 1) = true := (hc 1).2 ⟨by omega, by unfold cn; omega⟩
      have hd : 128 ≤ c2 s i := by omega
      refine .inr (.inl ⟨h1, k2, hw, hd, ?_⟩)
      unfold wid rune
      rw [decode_eq, if_neg (by omega), if_pos (by rw [Bool.and_eq_true, beq_iff_eq]; exact ⟨by omega, hw⟩), if_pos hd]
      exact ⟨rfl, rfl⟩
  · by_cases k3 : b s i < 240
    · have hz : size (b s i) = 3 := by unfold size; rw [if_neg (by omega), if_neg k2, if_pos k3]
      unfold goes
      rw [hz]
      have g1 := bg31 (fun m => b s (i + m)) (by show 224 ≤ b s i; omega) k3
      have g2 := bg32 (fun m => b s (i + m)) (by show 224 ≤ b s i; omega) k3
      have g3 := bg33 (fun m => b s (i + m)) (by show 224 ≤ b s i; omega) k3
      simp only [Nat.add_zero] at g1 g2 g3
      constructor
      · rintro (h | ⟨_, h, _⟩ | ⟨_, _, h, h', h2, h3, _⟩ | ⟨h, _⟩)
        · omega
        · omega
        · rw [hc] at h h'
          obtain ⟨u1, u2⟩ := h
          obtain ⟨u3, u4⟩ := h'
          have u5 := u2
          have u6 := u4
          unfold cn at u5 u6
          intro n n1 n2
          have : n = 1 ∨ n = 2 ∨ n = 3 := by omega
          rcases this with rfl | rfl | rfl
          · exact ⟨by omega, g1⟩
          · exact ⟨by omega, by rw [g2 u2, decide_eq_true_eq]; omega⟩
          · exact ⟨by omega, by rw [g3, decide_eq_true_eq]; exact ⟨u2, u4, by omega, by omega⟩⟩
        · omega
      · intro h
        obtain ⟨q1, q2⟩ := h 3 (by omega) (by omega)
        rw [g3, decide_eq_true_eq] at q2
        obtain ⟨u2, u4, q3, q4⟩ := q2
        have w1 : cont s (i + 1) = true := (hc 1).2 ⟨by omega, u2⟩
        have w2 : cont s (i + 2) = true := (hc 2).2 ⟨by omega, u4⟩
        unfold cn at u2 u4
        have hd : 2048 ≤ c3 s i := by omega
        have hd2 : c3 s i < 55296 ∨ 57344 ≤ c3 s i := by omega
        have hd3 : c3 s i ≤ 65535 := by omega
        refine .inr (.inr (.inl ⟨by omega, k3, w1, w2, hd, hd2, ?_⟩))
        unfold wid rune
        rw [decode_eq, if_neg (by omega), if_neg (by rw [Bool.and_eq_true, beq_iff_eq]; omega), if_pos (by rw [Bool.and_eq_true, Bool.and_eq_true, beq_iff_eq]; exact ⟨⟨by omega, w1⟩, w2⟩), if_pos (by
          unfold Utf8.valid
          simp only [Bool.and_eq_true, Bool.or_eq_true, decide_eq_true_eq]
          omega)]
        exact ⟨rfl, rfl⟩
    · have hz : size (b s i) = 4 := by unfold size; rw [if_neg (by omega), if_neg k2, if_neg k3]
      unfold goes
      rw [hz]
      have g1 := bg41 (fun m => b s (i + m)) (by show 240 ≤ b s i; omega) h2
      have g2 := bg42 (fun m => b s (i + m)) (by show 240 ≤ b s i; omega) h2
      have g3 := bg43 (fun m => b s (i + m)) (by show 240 ≤ b s i; omega) h2
      have g4 := bg44 (fun m => b s (i + m)) (by show 240 ≤ b s i; omega) h2
      simp only [Nat.add_zero] at g1 g2 g3 g4
      constructor
      · rintro (h | ⟨_, h, _⟩ | ⟨_, h, _⟩ | ⟨_, _, h, h', h'', h3, h4, _⟩)
        · omega
        · omega
        · omega
        · rw [hc] at h h' h''
          obtain ⟨u1, u2⟩ := h
          obtain ⟨u3, u4⟩ := h'
          obtain ⟨u7, u8⟩ := h''
          have u5 := u2
          have u6 := u4
          have u9 := u8
          unfold cn at u5 u6 u9
          intro n n1 n2
          have : n = 1 ∨ n = 2 ∨ n = 3 ∨ n = 4 := by omega
          rcases this with rfl | rfl | rfl | rfl
          · exact ⟨by omega, by rw [g1, decide_eq_true_eq]; omega⟩
          · exact ⟨by omega, by rw [g2 u2, decide_eq_true_eq]; omega⟩
          · exact ⟨by omega, by rw [g3 u2 u4, decide_eq_true_eq]; omega⟩
          · exact ⟨by omega, by rw [g4, decide_eq_true_eq]; exact ⟨u2, u4, u8, by omega, by omega⟩⟩
      · intro h
        obtain ⟨q1, q2⟩ := h 4 (by omega) (by omega)
        rw [g4, decide_eq_true_eq] at q2
        obtain ⟨u2, u4, u8, q3, q4⟩ := q2
        have w1 : cont s (i + 1) = true := (hc 1).2 ⟨by omega, u2⟩
        have w2 : cont s (i + 2) = true := (hc 2).2 ⟨by omega, u4⟩
        have w3 : cont s (i + 3) = true := (hc 3).2 ⟨by omega, u8⟩
        unfold cn at u2 u4 u8
        have hd : 65536 ≤ c4 s i := by omega
        have hd2 : c4 s i ≤ 1114111 := by omega
        refine .inr (.inr (.inr ⟨by omega, h2, w1, w2, w3, hd, hd2, ?_⟩))
        unfold wid rune
        rw [decode_eq, if_neg (by omega), if_neg (by rw [Bool.and_eq_true, beq_iff_eq]; omega), if_neg (by rw [Bool.and_eq_true, Bool.and_eq_true, beq_iff_eq]; omega), if_pos (by rw [Bool.and_eq_true, Bool.and_eq_true, Bool.and_eq_true, beq_iff_eq]; exact ⟨⟨⟨by omega, w1⟩, w2⟩, w3⟩), if_pos (by
          unfold Utf8.valid
          simp only [Bool.and_eq_true, Bool.or_eq_true, decide_eq_true_eq]
          omega)]
        exact ⟨rfl, rfl⟩
/-- A rune has as many bytes as its first byte says. -/
theorem ok_wid (s : ByteArray) (i : Nat) (h : okAt s i = true) : wid s i = size (b s i) ∧ (b s i < 128 ∨ (192 ≤ b s i ∧ b s i < 248)) := by
  unfold size
  rcases (okAt_iff s i).1 h with ⟨a, e, _⟩ | ⟨a1, a2, _, _, e, _⟩ | ⟨a1, a2, _, _, _, _, e, _⟩ | ⟨a1, a2, _, _, _, _, _, e, _⟩
  · exact ⟨by rw [e, if_pos a], .inl a⟩
  · exact ⟨by rw [e, if_neg (by omega), if_pos a2], by omega⟩
  · exact ⟨by rw [e, if_neg (by omega), if_neg (by omega), if_pos a2], by omega⟩
  · exact ⟨by rw [e, if_neg (by omega), if_neg (by omega), if_neg (by omega)], by omega⟩
theorem b_extract (s : ByteArray) (i j m : Nat) (hj : j ≤ s.size) (hm : i + m < j) : b (s.extract i j) m = b s (i + m) := by
  have hz : (s.extract i j).size = j - i := by rw [ByteArray.size_extract]; omega
  rw [b_at (s.extract i j) m (by omega), b_at s (i + m) (by omega)]
  congr 1
  exact ByteArray.getElem_extract _
theorem wid_le (s : ByteArray) (i : Nat) (hi : i < s.size) (h : okAt s i = true) : i + wid s i ≤ s.size := by
  rcases (okAt_iff s i).1 h with ⟨_, e, _⟩ | ⟨_, _, c, _, e, _⟩ | ⟨_, _, _, c, _, _, e, _⟩ | ⟨_, _, _, _, c, _, _, e, _⟩
  · omega
  · have := ((cont_iff s _).1 c).1; omega
  · have := ((cont_iff s _).1 c).1; omega
  · have := ((cont_iff s _).1 c).1; omega
theorem ok_low (s : ByteArray) (i : Nat) (h : b s i < 128) : okAt s i = true ∧ wid s i = 1 ∧ rune s i = b s i := by
  have e : Utf8.decode s i = (b s i, 1) := by rw [decode_eq, if_pos h]
  refine ⟨(okAt_iff s i).2 (.inl ⟨h, ?_, ?_⟩), ?_, ?_⟩ <;> simp only [wid, rune, e]
end Go.Proofs.Ytcianlgkfkccoaa.Uf
