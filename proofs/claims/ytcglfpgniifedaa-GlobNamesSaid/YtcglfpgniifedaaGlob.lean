/-
  Plain facts on patterns and paths as rows of runes. No program in sight.
-/
import Derived.WalkKit
namespace Go.Proofs.Ytcglfpgniifedaa.Gl
set_option linter.unusedSimpArgs false
set_option linter.unusedVariables false

/-- Does a rune of a pattern other than * stand for a rune? -/
def one (c r : Nat) : Bool := if c == 63 then r != 47 else c == r
/-- Has a row no slash? -/
def flat : List Nat → Bool
  | [] => true
  | r :: a => r != 47 && flat a
/-- The pattern's rest after a star, tried at each place up to the first slash. -/
def star (m : List Nat → Bool) : List Nat → Bool
  | [] => m []
  | r :: s => m (r :: s) || (r != 47 && star m s)
/-- The pattern's rest after a rune. -/
def head1 (c : Nat) (m : List Nat → Bool) : List Nat → Bool
  | [] => false
  | r :: s => one c r && m s
/-- Does a whole pattern stand for a whole row? -/
def gm : List Nat → List Nat → Bool
  | [] => List.isEmpty
  | c :: p => if c == 42 then star (gm p) else head1 c (gm p)

theorem flat_app (a b : List Nat) : flat (a ++ b) = (flat a && flat b) := by
  induction a with
  | nil => rfl
  | cons r a ih => simp only [List.cons_append, flat, ih, Bool.and_assoc]
theorem star_iff (m : List Nat → Bool) : ∀ s : List Nat, star m s = true ↔ ∃ a b, s = a ++ b ∧ flat a = true ∧ m b = true
  | [] => by
    constructor
    · intro h; exact ⟨[], [], rfl, rfl, h⟩
    · rintro ⟨a, b, h, _, hm⟩
      obtain ⟨rfl, rfl⟩ := List.append_eq_nil_iff.1 h.symm
      exact hm
  | r :: s => by
    rw [star, Bool.or_eq_true, Bool.and_eq_true, star_iff m s]
    constructor
    · rintro (h | ⟨h, a, b, rfl, ha, hb⟩)
      · exact ⟨[], r :: s, rfl, rfl, h⟩
      · exact ⟨r :: a, b, rfl, by rw [flat, h, ha]; rfl, hb⟩
    · rintro ⟨a, b, h, ha, hb⟩
      cases a with
      | nil => left; rw [List.nil_append] at h; rw [h]; exact hb
      | cons x a =>
        rw [List.cons_append, List.cons.injEq] at h
        obtain ⟨rfl, rfl⟩ := h
        rw [flat, Bool.and_eq_true] at ha
        exact .inr ⟨ha.1, a, b, rfl, ha.2, hb⟩
theorem gm_nil (s : List Nat) : gm [] s = true ↔ s = [] := by rw [gm, List.isEmpty_iff]
theorem gm_star (p s : List Nat) : gm (42 :: p) s = true ↔ ∃ a b, s = a ++ b ∧ flat a = true ∧ gm p b = true := by
  exact star_iff (gm p) s
theorem gm_one (c : Nat) (h : c ≠ 42) (p s : List Nat) : gm (c :: p) s = true ↔ ∃ r b, s = r :: b ∧ one c r = true ∧ gm p b = true := by
  rw [gm, if_neg (by simpa using h)]
  cases s with
  | nil => simp [head1]
  | cons r s =>
    simp only [head1, Bool.and_eq_true, List.cons.injEq]
    exact ⟨fun ⟨h1, h2⟩ => ⟨r, s, ⟨rfl, rfl⟩, h1, h2⟩, fun ⟨_, _, ⟨e1, e2⟩, h1, h2⟩ => by subst e1 e2; exact ⟨h1, h2⟩⟩
/-- A pattern in two. -/
theorem gm_app : ∀ (p q s : List Nat), gm (p ++ q) s = true ↔ ∃ a b, s = a ++ b ∧ gm p a = true ∧ gm q b = true
  | [], q, s => by
    constructor
    · intro h; exact ⟨[], s, rfl, rfl, h⟩
    · rintro ⟨a, b, rfl, h1, h2⟩
      rw [(gm_nil a).1 h1]; exact h2
  | c :: p, q, s => by
    by_cases hc : c = 42
    · subst hc
      rw [List.cons_append, gm_star]
      constructor
      · rintro ⟨a, b, rfl, ha, hb⟩
        obtain ⟨x, y, rfl, hx, hy⟩ := (gm_app p q b).1 hb
        exact ⟨a ++ x, y, by rw [List.append_assoc], (gm_star p _).2 ⟨a, x, rfl, ha, hx⟩, hy⟩
      · rintro ⟨a, b, rfl, ha, hb⟩
        obtain ⟨x, y, rfl, hx, hy⟩ := (gm_star p a).1 ha
        exact ⟨x, y ++ b, by rw [List.append_assoc], hx, (gm_app p q _).2 ⟨y, b, rfl, hy, hb⟩⟩
    · rw [List.cons_append, gm_one c hc]
      constructor
      · rintro ⟨r, b, rfl, hr, hb⟩
        obtain ⟨x, y, rfl, hx, hy⟩ := (gm_app p q b).1 hb
        exact ⟨r :: x, y, rfl, (gm_one c hc p _).2 ⟨r, x, rfl, hr, hx⟩, hy⟩
      · rintro ⟨a, b, rfl, ha, hb⟩
        obtain ⟨r, y, rfl, hr, hy⟩ := (gm_one c hc p a).1 ha
        exact ⟨r, y ++ b, rfl, hr, (gm_app p q _).2 ⟨y, b, rfl, hy, hb⟩⟩

/-! ### The set of places: from the front -/
theorem snoc_cases (s : List Nat) : s = [] ∨ ∃ t r, s = t ++ [r] := by
  induction s with
  | nil => exact .inl rfl
  | cons x s ih =>
    right
    rcases ih with rfl | ⟨t, r, rfl⟩
    · exact ⟨[], x, rfl⟩
    · exact ⟨x :: t, r, rfl⟩
/-- A star at the end: as before it, or one rune less. -/
theorem gm_snoc_star (p s : List Nat) : gm (p ++ [42]) s = true ↔ gm p s = true ∨ ∃ t r, s = t ++ [r] ∧ r ≠ 47 ∧ gm (p ++ [42]) t = true := by
  constructor
  · intro h
    obtain ⟨a, b, rfl, ha, hb⟩ := (gm_app p [42] s).1 h
    obtain ⟨x, y, rfl, hx, hy⟩ := (gm_star [] b).1 hb
    rw [gm_nil] at hy
    subst hy
    rw [List.append_nil]
    rcases snoc_cases x with rfl | ⟨t, r, rfl⟩
    · left; rw [List.append_nil]; exact ha
    · right
      rw [flat_app, Bool.and_eq_true] at hx
      have hr : r ≠ 47 := by simpa [flat] using hx.2
      exact ⟨a ++ t, r, by rw [List.append_assoc], hr, (gm_app p [42] _).2 ⟨a, t, rfl, ha, (gm_star [] t).2 ⟨t, [], by rw [List.append_nil], hx.1, rfl⟩⟩⟩
  · rintro (h | ⟨t, r, rfl, hr, h⟩)
    · exact (gm_app p [42] s).2 ⟨s, [], by rw [List.append_nil], h, rfl⟩
    · obtain ⟨a, b, rfl, ha, hb⟩ := (gm_app p [42] t).1 h
      obtain ⟨x, y, rfl, hx, hy⟩ := (gm_star [] b).1 hb
      rw [gm_nil] at hy
      subst hy
      refine (gm_app p [42] _).2 ⟨a, x ++ [r], by rw [List.append_nil, List.append_assoc], ha, (gm_star [] _).2 ⟨x ++ [r], [], by rw [List.append_nil], ?_, rfl⟩⟩
      rw [flat_app, hx]
      simpa [flat] using hr
/-- Another rune at the end. -/
theorem gm_snoc_one (p s : List Nat) (c : Nat) (h : c ≠ 42) : gm (p ++ [c]) s = true ↔ ∃ t r, s = t ++ [r] ∧ one c r = true ∧ gm p t = true := by
  rw [gm_app]
  constructor
  · rintro ⟨a, b, rfl, ha, hb⟩
    obtain ⟨r, y, rfl, hr, hy⟩ := (gm_one c h [] b).1 hb
    rw [gm_nil] at hy
    subst hy
    exact ⟨a, r, rfl, hr, ha⟩
  · rintro ⟨t, r, rfl, hr, ht⟩
    exact ⟨t, [r], rfl, ht, (gm_one c h [] _).2 ⟨r, [], rfl, hr, rfl⟩⟩
end Go.Proofs.Ytcglfpgniifedaa.Gl
