/-
  The plain laws on patterns and paths. No program in sight.
-/
import Derived.Test.YtcglfpgniifedaaRunes2
import Derived.Test.YtcglfpgniifedaaGlob2
namespace Go.Proofs.Ytcglfpgniifedaa.Gl
set_option linter.unusedSimpArgs false
set_option linter.unusedVariables false
open Go

/-- Does a pattern match a path? -/
def mt (p s : ByteArray) : Bool := Nm.path p && Nm.path s && gm (Uf.runes p) (Uf.runes s)
theorem mt_iff (p s : ByteArray) : mt p s = true ↔ Nm.path p = true ∧ Nm.path s = true ∧ gm (Uf.runes p) (Uf.runes s) = true := by
  unfold mt; rw [Bool.and_eq_true, Bool.and_eq_true, and_assoc]
theorem mt_no_left {p : ByteArray} (h : Nm.path p = false) (s : ByteArray) : mt p s = false := by unfold mt; rw [h]; rfl
theorem mt_no_right {s : ByteArray} (h : Nm.path s = false) (p : ByteArray) : mt p s = false := by unfold mt; rw [h, Bool.and_false]; rfl
theorem mt_yes {p s : ByteArray} (hp : Nm.path p = true) (hs : Nm.path s = true) : mt p s = gm (Uf.runes p) (Uf.runes s) := by unfold mt; rw [hp, hs]; rfl
theorem path_valid {s : ByteArray} (h : Nm.path s = true) : Uf.valid s = true := ((Nm.path_iff s).1 h).2.2.2
theorem path_mk {s : ByteArray} (h1 : 1 ≤ s.size) (h2 : s.size ≤ 256) (h3 : Uf.b s 0 ≠ 47) (h4 : Uf.valid s = true) : Nm.path s = true := (Nm.path_iff s).2 ⟨h1, h2, h3, h4⟩

/-! ### Itself -/
theorem gm_self : ∀ P : List Nat, gm P P = true
  | [] => rfl
  | c :: P => by
    by_cases h : c = 42
    · subst h
      rw [gm_star]
      exact ⟨[42], P, rfl, rfl, gm_self P⟩
    · rw [gm_cons c c h, gm_self P, Bool.and_true]
      unfold one
      split
      · rename_i h2
        have := beq_iff_eq.1 h2
        subst this; rfl
      · simp
theorem gm_plain : ∀ (P S : List Nat), (∀ c ∈ P, c ≠ 42 ∧ c ≠ 63) → gm P S = true → S = P
  | [], S, _, h => (gm_nil S).1 h
  | c :: P, S, hp, h => by
    obtain ⟨r, b, rfl, ho, hg⟩ := (gm_one c (hp c (by simp)).1 P S).1 h
    have hc := (hp c (by simp)).2
    unfold one at ho
    rw [if_neg (by simpa using hc)] at ho
    rw [gm_plain P b (fun c h => hp c (by simp [h])) hg, beq_iff_eq.1 ho]
theorem mt_self {s : ByteArray} (h : Nm.path s = true) : mt s s = true := by rw [mt_yes h h, gm_self]
theorem mt_plain {s t : ByteArray} (h : Nm.path s = true) (hn : ∀ i, i < s.size → Uf.b s i ≠ 42 ∧ Uf.b s i ≠ 63) : mt s t = (s.toList == t.toList) := by
  rw [Bool.eq_iff_iff, Nm.toList_inj]
  constructor
  · intro hm
    obtain ⟨_, h2, h3⟩ := (mt_iff s t).1 hm
    have hv := path_valid h
    have hno : ∀ x, x < 128 → x = 42 ∨ x = 63 → x ∉ Uf.runes s := fun x hx h4 hin => by
      rw [← Uf.low_mem hv x hx] at hin
      obtain ⟨k, hk, he⟩ := List.getElem_of_mem hin
      have hk' : k < s.size := by rwa [Uf.L_len] at hk
      have := Uf.L_at s k hk'
      rw [List.getElem?_eq_getElem hk] at this
      injection this with this
      have := hn k hk'
      omega
    refine Uf.runes_inj hv (path_valid h2) (gm_plain _ _ (fun c hc => ?_) h3).symm
    exact ⟨fun e => hno 42 (by omega) (.inl rfl) (by rw [← e]; exact hc), fun e => hno 63 (by omega) (.inr rfl) (by rw [← e]; exact hc)⟩
  · rintro rfl
    exact mt_self h

/-! ### A rune more -/
theorem path_snoc {s : ByteArray} (c : UInt8) (h : Nm.path s = true) (hz : s.size < 256) (hc : c.toNat < 128) : Nm.path (s ++ ⟨#[c]⟩) = true ∧ Uf.runes (s ++ ⟨#[c]⟩) = Uf.runes s ++ [c.toNat] := by
  obtain ⟨a1, a2, a3, a4⟩ := (Nm.path_iff s).1 h
  obtain ⟨o1, o2⟩ := Uf.one_low c hc
  obtain ⟨r1, r2⟩ := Uf.runes_app a4 o1
  refine ⟨path_mk (by rw [ByteArray.size_append]; omega) (by rw [ByteArray.size_append]; show s.size + 1 ≤ 256; omega) ?_ r1, by rw [r2, o2]⟩
  rw [Nm.b_app_left s _ 0 (by omega)]; exact a3
theorem gm_snoc_bool (P S : List Nat) (c r : Nat) (h : c ≠ 42) : gm (P ++ [c]) (S ++ [r]) = (gm P S && one c r) := by
  rw [Bool.eq_iff_iff, gm_snoc_one P _ c h, Bool.and_eq_true]
  constructor
  · rintro ⟨t, x, e, hx, hg⟩
    obtain ⟨rfl, e2⟩ := List.append_inj' e rfl
    obtain rfl : r = x := by simpa using e2
    exact ⟨hg, hx⟩
  · rintro ⟨hg, hr⟩
    exact ⟨S, r, rfl, hr, hg⟩
theorem mt_ask {p s : ByteArray} (b : UInt8) (hp : Nm.path p = true) (hs : Nm.path s = true) (hpz : p.size < 256) (hsz : s.size < 256) (hb : b.toNat < 128) : mt (p ++ ⟨#[63]⟩) (s ++ ⟨#[b]⟩) = (mt p s && (b.toNat != 47)) := by
  obtain ⟨p1, p2⟩ := path_snoc 63 hp hpz (by decide)
  obtain ⟨s1, s2⟩ := path_snoc b hs hsz hb
  rw [mt_yes p1 s1, mt_yes hp hs, p2, s2]
  exact gm_snoc_bool _ _ 63 _ (by decide)
theorem mt_rune {p s : ByteArray} (a b : UInt8) (hp : Nm.path p = true) (hs : Nm.path s = true) (hpz : p.size < 256) (hsz : s.size < 256) (hb : b.toNat < 128) (ha : a.toNat < 128) (h42 : a.toNat ≠ 42) (h63 : a.toNat ≠ 63) : mt (p ++ ⟨#[a]⟩) (s ++ ⟨#[b]⟩) = (mt p s && (a.toNat == b.toNat)) := by
  obtain ⟨p1, p2⟩ := path_snoc a hp hpz ha
  obtain ⟨s1, s2⟩ := path_snoc b hs hsz hb
  rw [mt_yes p1 s1, mt_yes hp hs, p2, s2, gm_snoc_bool _ _ _ _ h42]
  unfold one
  rw [if_neg (by simpa using h63)]

/-! ### Wider patterns -/
theorem gm_put {P1 P2 S : List Nat} (h : gm (P1 ++ P2) S = true) : gm (P1 ++ 42 :: P2) S = true := by
  obtain ⟨a, b, rfl, ha, hb⟩ := (gm_app P1 P2 S).1 h
  exact (gm_app _ _ _).2 ⟨a, b, rfl, ha, (gm_star P2 b).2 ⟨[], b, rfl, rfl, hb⟩⟩
theorem gm_instead {P1 P2 S : List Nat} (h : gm (P1 ++ 63 :: P2) S = true) : gm (P1 ++ 42 :: P2) S = true := by
  obtain ⟨a, b, rfl, ha, hb⟩ := (gm_app P1 _ S).1 h
  obtain ⟨r, y, rfl, ho, hy⟩ := (gm_one 63 (by decide) P2 b).1 hb
  have hr : (r != 47) = true := ho
  exact (gm_app _ _ _).2 ⟨a, r :: y, rfl, ha, (gm_star P2 _).2 ⟨[r], y, rfl, by rw [flat, hr]; rfl, hy⟩⟩
theorem star_text : Uf.valid ⟨#[42]⟩ = true ∧ Uf.runes ⟨#[42]⟩ = [42] := Uf.one_low 42 (by decide)
/-- A star put in at a place. -/
theorem path_put {p : ByteArray} (h : Nm.path p = true) (hz : p.size < 256) (i : Nat) (hi : i ≤ p.size) (hb : i < p.size → Uf.b p i < 128 ∨ 192 ≤ Uf.b p i) :
    Nm.path (p.extract 0 i ++ ⟨#[42]⟩ ++ p.extract i p.size) = true ∧ ∃ r1 r2, Uf.runes p = r1 ++ r2 ∧ Uf.runes (p.extract i p.size) = r2 ∧ Uf.valid (p.extract i p.size) = true ∧ Uf.runes (p.extract 0 i) = r1 ∧ Uf.valid (p.extract 0 i) = true ∧ Uf.runes (p.extract 0 i ++ ⟨#[42]⟩ ++ p.extract i p.size) = r1 ++ 42 :: r2 := by
  obtain ⟨a1, a2, a3, a4⟩ := (Nm.path_iff p).1 h
  obtain ⟨v1, v2, e⟩ := Uf.cut_at a4 i hi hb
  obtain ⟨o1, o2⟩ := star_text
  obtain ⟨w1, w2⟩ := Uf.runes_app v1 o1
  obtain ⟨u1, u2⟩ := Uf.runes_app w1 v2
  have z1 : (p.extract 0 i).size = i := by rw [ByteArray.size_extract]; omega
  have z2 : (p.extract i p.size).size = p.size - i := by rw [ByteArray.size_extract]; omega
  have z3 : (⟨#[42]⟩ : ByteArray).size = 1 := rfl
  refine ⟨path_mk (by rw [ByteArray.size_append, ByteArray.size_append]; omega) (by rw [ByteArray.size_append, ByteArray.size_append]; omega) ?_ u1, _, _, e, rfl, v2, rfl, v1, by rw [u2, w2, o2, List.append_assoc]; rfl⟩
  rw [Nm.b_app_left _ _ 0 (by rw [ByteArray.size_append]; omega)]
  by_cases h0 : i = 0
  · have hs := Nm.b_app_right (p.extract 0 i) ⟨#[42]⟩ 0 (by decide)
    rw [z1, h0] at hs
    rw [h0, hs]
    decide
  · rw [Nm.b_app_left _ _ 0 (by omega), Uf.b_extract p 0 i 0 hi (by omega)]
    exact a3
theorem mt_put {p s : ByteArray} (h : mt p s = true) (hz : p.size < 256) (i : Nat) (hi : i ≤ p.size) (hb : i < p.size → Uf.b p i < 128 ∨ 192 ≤ Uf.b p i) : mt (p.extract 0 i ++ ⟨#[42]⟩ ++ p.extract i p.size) s = true := by
  obtain ⟨h1, h2, h3⟩ := (mt_iff p s).1 h
  obtain ⟨k1, r1, r2, e, _, _, _, _, k2⟩ := path_put h1 hz i hi hb
  rw [mt_yes k1 h2, k2]
  rw [e] at h3
  exact gm_put h3
theorem runes_low {s : ByteArray} (i : Nat) (hi : i < s.size) (h : Uf.b s i < 128) : Uf.row s i = Uf.b s i :: Uf.row s (i + 1) := by
  obtain ⟨o1, o2, o3⟩ := Uf.ok_low s i h
  rw [Uf.row_step s i hi, o2, o3]
theorem back_low {s : ByteArray} (hs : Uf.valid s = true) (h0 : 0 < s.size) (h : Uf.b s 0 < 128) : Uf.valid (s.extract 1 s.size) = true ∧ Uf.runes s = Uf.b s 0 :: Uf.runes (s.extract 1 s.size) := by
  obtain ⟨h1, h2⟩ := Uf.said s hs
  have hr : Uf.runes s = Uf.b s 0 :: Uf.row s (0 + 1) := runes_low 0 h0 h
  rw [hr, List.flatMap_cons, Uf.enc1 h] at h1
  rw [hr] at h2
  have hb : Uf.L (s.extract 1 s.size) = (Uf.row s (0 + 1)).flatMap Uf.enc := by
    rw [Uf.L_back, h1]; rfl
  obtain ⟨c1, c2⟩ := Uf.of_said (fun r hr => h2 r (by simp [hr])) hb
  exact ⟨c1, by rw [hr, c2]⟩
theorem extract_extract_back (s : ByteArray) (i : Nat) (hi : i < s.size) : (s.extract i s.size).extract 1 (s.extract i s.size).size = s.extract (i + 1) s.size := by
  apply Uf.L_inj
  rw [Uf.L_back, Uf.L_back, Uf.L_back, List.drop_drop]
theorem mt_instead {p s : ByteArray} (h : mt p s = true) (hz : p.size < 256) (i : Nat) (hi : i < p.size) (hb : Uf.b p i = 63) : mt (p.extract 0 i ++ ⟨#[42]⟩ ++ p.extract (i + 1) p.size) s = true := by
  obtain ⟨h1, h2, h3⟩ := (mt_iff p s).1 h
  obtain ⟨a1, a2, a3, a4⟩ := (Nm.path_iff p).1 h1
  obtain ⟨v1, v2, e⟩ := Uf.cut_at a4 i (by omega) (fun _ => by omega)
  have z2 : (p.extract i p.size).size = p.size - i := by rw [ByteArray.size_extract]; omega
  have hb0 : Uf.b (p.extract i p.size) 0 = 63 := by rw [Uf.b_extract p i p.size 0 (Nat.le_refl _) (by omega)]; exact hb
  obtain ⟨q1, q2⟩ := back_low v2 (by omega) (by omega)
  rw [extract_extract_back p i hi] at q1 q2
  rw [hb0] at q2
  obtain ⟨o1, o2⟩ := star_text
  obtain ⟨w1, w2⟩ := Uf.runes_app v1 o1
  obtain ⟨u1, u2⟩ := Uf.runes_app w1 q1
  have z1 : (p.extract 0 i).size = i := by rw [ByteArray.size_extract]; omega
  have z3 : (⟨#[42]⟩ : ByteArray).size = 1 := rfl
  have z4 : (p.extract (i + 1) p.size).size = p.size - (i + 1) := by rw [ByteArray.size_extract]; omega
  have hpth : Nm.path (p.extract 0 i ++ ⟨#[42]⟩ ++ p.extract (i + 1) p.size) = true := by
    refine path_mk (by rw [ByteArray.size_append, ByteArray.size_append]; omega) (by rw [ByteArray.size_append, ByteArray.size_append]; omega) ?_ u1
    rw [Nm.b_app_left _ _ 0 (by rw [ByteArray.size_append]; omega)]
    by_cases h0 : i = 0
    · have hs := Nm.b_app_right (p.extract 0 i) ⟨#[42]⟩ 0 (by decide)
      rw [z1, h0] at hs
      rw [h0, hs]
      decide
    · rw [Nm.b_app_left _ _ 0 (by omega), Uf.b_extract p 0 i 0 (by omega) (by omega)]
      exact a3
  rw [mt_yes hpth h2, u2, w2, o2, List.append_assoc]
  rw [e, q2] at h3
  exact gm_instead h3

/-! ### A star at the end, or at the beginning -/
theorem gm_end (P S : List Nat) : gm (P ++ [42]) S = true ↔ ∃ a b, S = a ++ b ∧ gm P a = true ∧ flat b = true := by
  rw [gm_app]
  constructor
  · rintro ⟨a, b, rfl, ha, hb⟩
    obtain ⟨x, y, rfl, hx, hy⟩ := (gm_star [] b).1 hb
    rw [gm_nil] at hy
    subst hy
    exact ⟨a, x ++ [], rfl, ha, by rw [List.append_nil]; exact hx⟩
  · rintro ⟨a, b, rfl, ha, hb⟩
    exact ⟨a, b, rfl, ha, (gm_star [] b).2 ⟨b, [], by rw [List.append_nil], hb, rfl⟩⟩
/-- From place i down to 1, till a slash: is there a front that the pattern matches? -/
def dn (p s : ByteArray) : Nat → Bool
  | 0 => false
  | i + 1 => mt p (s.extract 0 (i + 1)) || (Uf.b s i != 47 && dn p s i)
theorem dn_iff (p s : ByteArray) : ∀ i, dn p s i = true ↔ ∃ k, 1 ≤ k ∧ k ≤ i ∧ mt p (s.extract 0 k) = true ∧ ∀ j, k ≤ j → j < i → Uf.b s j ≠ 47
  | 0 => by
    simp only [dn]
    exact ⟨fun h => (by cases h), fun ⟨k, h1, h2, _⟩ => by omega⟩
  | i + 1 => by
    rw [dn, Bool.or_eq_true, Bool.and_eq_true, dn_iff p s i, bne_iff_ne]
    constructor
    · rintro (h | ⟨h, k, h1, h2, h3, h4⟩)
      · exact ⟨i + 1, by omega, Nat.le_refl _, h, fun j a b => by omega⟩
      · refine ⟨k, h1, by omega, h3, fun j a b => ?_⟩
        by_cases e : j = i
        · subst e; exact h
        · exact h4 j a (by omega)
    · rintro ⟨k, h1, h2, h3, h4⟩
      by_cases e : k = i + 1
      · subst e; exact .inl h3
      · exact .inr ⟨h4 i (by omega) (by omega), k, h1, by omega, h3, fun j a b => h4 j a (by omega)⟩
theorem flat_mem (l : List Nat) : flat l = true ↔ 47 ∉ l := by
  rw [flat_iff]
  constructor
  · intro h hin
    obtain ⟨k, hk, he⟩ := List.getElem_of_mem hin
    exact h k 47 (by rw [List.getElem?_eq_getElem hk, he]) rfl
  · intro h k r hr e
    subst e
    exact h (List.mem_of_getElem? hr)
theorem back_flat {s : ByteArray} (hs : Uf.valid s = true) (k : Nat) (hk : k ≤ s.size) (hv : Uf.valid (s.extract k s.size) = true) : flat (Uf.runes (s.extract k s.size)) = true ↔ ∀ j, k ≤ j → j < s.size → Uf.b s j ≠ 47 := by
  rw [flat_mem, ← Uf.low_mem hv 47 (by omega), Uf.L_back]
  constructor
  · intro h j h1 h2 e
    apply h
    refine List.mem_of_getElem? (i := j - k) ?_
    rw [List.getElem?_drop, show k + (j - k) = j by omega, Uf.L_at s j h2, e]
  · intro h hin
    obtain ⟨j, hj, he⟩ := List.getElem_of_mem hin
    rw [List.length_drop, Uf.L_len] at hj
    rw [List.getElem_drop] at he
    have := Uf.L_at s (k + j) (by omega)
    rw [List.getElem?_eq_getElem (by rw [Uf.L_len]; omega), he] at this
    injection this with this
    exact h (k + j) (by omega) (by omega) this.symm
theorem front_path {s : ByteArray} (hs : Nm.path s = true) (k : Nat) (h1 : 1 ≤ k) (h2 : k ≤ s.size) (hv : Uf.valid (s.extract 0 k) = true) : Nm.path (s.extract 0 k) = true := by
  obtain ⟨a1, a2, a3, a4⟩ := (Nm.path_iff s).1 hs
  have z1 : (s.extract 0 k).size = k := by rw [ByteArray.size_extract]; omega
  exact path_mk (by omega) (by omega) (by rw [Uf.b_extract s 0 k 0 h2 (by omega)]; exact a3) hv
theorem mt_end {p s : ByteArray} (hp : Nm.path p = true) (hs : Nm.path s = true) (hz : p.size < 256) (h120 : Uf.b p 0 = 120) : mt (p ++ ⟨#[42]⟩) s = dn p s s.size := by
  obtain ⟨p1, p2⟩ := path_snoc 42 hp hz (by decide)
  have hsv := path_valid hs
  rw [mt_yes p1 hs, p2, Bool.eq_iff_iff, dn_iff]
  show gm (Uf.runes p ++ [42]) _ = true ↔ _
  rw [gm_end]
  constructor
  · rintro ⟨a, b, e, ha, hb⟩
    obtain ⟨i, i1, i2, i3, i4, i5, i6⟩ := Uf.front_of hsv e
    have hne : a ≠ [] := by
      rintro rfl
      have hv := path_valid hp
      have hpz := ((Nm.path_iff p).1 hp).1
      obtain ⟨_, q2⟩ := back_low hv hpz (by omega)
      rw [q2, h120, gm_cons_nil 120 (by decide)] at ha
      cases ha
    have hi := Uf.enc_pos a hne
    refine ⟨i, by omega, i1, ?_, ?_⟩
    · rw [mt_yes hp (front_path hs i (by omega) i1 i2), i4]; exact ha
    · rw [← back_flat hsv i i1 i3, i5]; exact hb
  · rintro ⟨k, h1, h2, h3, h4⟩
    obtain ⟨_, hk, hg⟩ := (mt_iff _ _).1 h3
    obtain ⟨hv, e⟩ := Uf.cut_valid hsv k h2 (path_valid hk)
    exact ⟨_, _, e, hg, (back_flat hsv k h2 hv).2 h4⟩
/-- From place i on, till a slash: is there a rest that the pattern matches? -/
def up (p s : ByteArray) : Nat → Nat → Bool
  | 0, _ => false
  | f + 1, i => ((decide (Uf.b s i < 128) || decide (192 ≤ Uf.b s i)) && mt p (s.extract i s.size)) || (Uf.b s i != 47 && up p s f (i + 1))
theorem up_iff (p s : ByteArray) : ∀ f i, i + f = s.size → (up p s f i = true ↔ ∃ k, i ≤ k ∧ k < s.size ∧ (Uf.b s k < 128 ∨ 192 ≤ Uf.b s k) ∧ mt p (s.extract k s.size) = true ∧ ∀ j, i ≤ j → j < k → Uf.b s j ≠ 47)
  | 0, i, hf => by
    simp only [up]
    exact ⟨fun h => (by cases h), fun ⟨k, h1, h2, _⟩ => by omega⟩
  | f + 1, i, hf => by
    rw [up, Bool.or_eq_true, Bool.and_eq_true, Bool.and_eq_true, up_iff p s f (i + 1) (by omega), bne_iff_ne, Bool.or_eq_true, decide_eq_true_eq, decide_eq_true_eq]
    constructor
    · rintro (⟨h1, h2⟩ | ⟨h, k, h1, h2, h3, h4, h5⟩)
      · exact ⟨i, Nat.le_refl _, by omega, h1, h2, fun j a b => by omega⟩
      · refine ⟨k, by omega, h2, h3, h4, fun j a b => ?_⟩
        by_cases e : j = i
        · subst e; exact h
        · exact h5 j (by omega) b
    · rintro ⟨k, h1, h2, h3, h4, h5⟩
      by_cases e : k = i
      · subst e; exact .inl ⟨h3, h4⟩
      · exact .inr ⟨h5 i (Nat.le_refl _) (by omega), k, by omega, h2, h3, h4, fun j a b => h5 j (by omega) b⟩
theorem front_flat {s : ByteArray} (k : Nat) (hk : k ≤ s.size) (hv : Uf.valid (s.extract 0 k) = true) : flat (Uf.runes (s.extract 0 k)) = true ↔ ∀ j, j < k → Uf.b s j ≠ 47 := by
  rw [flat_mem, ← Uf.low_mem hv 47 (by omega), Uf.L_front]
  constructor
  · intro h j h1 e
    apply h
    refine List.mem_of_getElem? (i := j) ?_
    rw [List.getElem?_take, if_pos h1, Uf.L_at s j (by omega), e]
  · intro h hin
    obtain ⟨j, hj, he⟩ := List.getElem_of_mem hin
    rw [List.length_take, Uf.L_len] at hj
    rw [List.getElem_take] at he
    have := Uf.L_at s j (by omega)
    rw [List.getElem?_eq_getElem (by rw [Uf.L_len]; omega), he] at this
    injection this with this
    exact h j (by omega) this.symm
theorem path_star {p : ByteArray} (h : Nm.path p = true) (hz : p.size < 256) : Nm.path (⟨#[42]⟩ ++ p) = true ∧ Uf.runes (⟨#[42]⟩ ++ p) = 42 :: Uf.runes p := by
  obtain ⟨a1, a2, a3, a4⟩ := (Nm.path_iff p).1 h
  obtain ⟨o1, o2⟩ := star_text
  obtain ⟨r1, r2⟩ := Uf.runes_app o1 a4
  have z3 : (⟨#[42]⟩ : ByteArray).size = 1 := rfl
  refine ⟨path_mk (by rw [ByteArray.size_append]; omega) (by rw [ByteArray.size_append]; omega) ?_ r1, by rw [r2, o2]; rfl⟩
  rw [Nm.b_app_left _ _ 0 (by omega)]
  decide
theorem row_head {s : ByteArray} (hs : Uf.valid s = true) (h0 : 0 < s.size) : ∃ c l, Uf.runes s = c :: l ∧ (c = 47 ↔ Uf.b s 0 = 47) := by
  obtain ⟨h1, h2⟩ := Uf.said s hs
  have hp := Uf.runes_pos s h0
  cases hr : Uf.runes s with
  | nil => rw [hr] at hp; simp at hp
  | cons c l =>
    refine ⟨c, l, rfl, ?_⟩
    rw [hr, List.flatMap_cons] at h1
    obtain ⟨x, m, he, hx, _⟩ := Uf.enc_head c
    have hb := Uf.L_at s 0 h0
    rw [h1, he] at hb
    simp at hb
    constructor
    · rintro rfl
      rw [Uf.enc1 (by omega)] at he
      injection he with he
      omega
    · intro h
      have : 47 ∈ Uf.enc c := by rw [he, hb, h]; simp
      exact ((Uf.enc_low c 47 (by omega)).1 this).symm
theorem back_path {s : ByteArray} (hs : Nm.path s = true) (k : Nat) (h2 : k < s.size) (hb : Uf.b s k ≠ 47) (hv : Uf.valid (s.extract k s.size) = true) : Nm.path (s.extract k s.size) = true := by
  obtain ⟨a1, a2, a3, a4⟩ := (Nm.path_iff s).1 hs
  have z1 : (s.extract k s.size).size = s.size - k := by rw [ByteArray.size_extract]; omega
  exact path_mk (by omega) (by omega) (by rw [Uf.b_extract s k s.size 0 (Nat.le_refl _) (by omega)]; exact hb) hv
theorem gm_last_nil {P : List Nat} (h : gm (P ++ [120]) [] = true) : False := by
  obtain ⟨t, r, e, _⟩ := (gm_snoc_one P [] 120 (by decide)).1 h
  simp at e
theorem mt_begin {p s : ByteArray} (hp : Nm.path p = true) (hs : Nm.path s = true) (hz : p.size < 256) (hx : ∃ P, Uf.runes p = P ++ [120]) : mt (⟨#[42]⟩ ++ p) s = up p s s.size 0 := by
  obtain ⟨p1, p2⟩ := path_star hp hz
  obtain ⟨s1, s2, s3, hsv⟩ := (Nm.path_iff s).1 hs
  obtain ⟨q1, q2, q3, hpv⟩ := (Nm.path_iff p).1 hp
  rw [mt_yes p1 hs, p2, Bool.eq_iff_iff, up_iff p s s.size 0 (by omega), gm_star]
  constructor
  · rintro ⟨a, b, e, ha, hb⟩
    have whole : gm (Uf.runes p) (Uf.runes s) = true → ∃ k, 0 ≤ k ∧ k < s.size ∧ (Uf.b s k < 128 ∨ 192 ≤ Uf.b s k) ∧ mt p (s.extract k s.size) = true ∧ ∀ j, 0 ≤ j → j < k → Uf.b s j ≠ 47 := fun hg => by
      refine ⟨0, Nat.le_refl _, by omega, ?_, ?_, fun j _ h => by omega⟩
      · obtain ⟨h1, h2⟩ := Uf.said s hsv
        have hr := Uf.runes_pos s (by omega)
        cases hr' : Uf.runes s with
        | nil => rw [hr'] at hr; simp at hr
        | cons c l =>
          rw [hr', List.flatMap_cons] at h1
          obtain ⟨x, m, he, hx, _⟩ := Uf.enc_head c
          have hb0 := Uf.L_at s 0 (by omega)
          rw [h1, he] at hb0
          simp at hb0
          omega
      · rw [show s.extract 0 s.size = s by simp, mt_yes hp hs]; exact hg
    obtain ⟨i, i1, i2, i3, i4, i5, i6⟩ := Uf.front_of hsv e
    by_cases hi : i < s.size
    · by_cases h47 : Uf.b s i = 47
      · -- the rest begins with a slash: then the pattern begins with a star
        apply whole
        have z1 : (s.extract i s.size).size = s.size - i := by rw [ByteArray.size_extract]; omega
        obtain ⟨c, l, hc, hc2⟩ := row_head i3 (by omega)
        rw [Uf.b_extract s i s.size 0 (Nat.le_refl _) (by omega), Nat.add_zero] at hc2
        obtain ⟨d, m, hd, hd2⟩ := row_head hpv (by omega)
        have hd47 : d ≠ 47 := fun e => q3 (hd2.1 e)
        have hc47 := hc2.2 h47
        rw [i5] at hc
        by_cases h42 : d = 42
        · rw [hd, h42] at hb ⊢
          rw [e]
          exact star_more ha hb
        · rw [hd, hc, hc47, gm_cons d 47 h42, Bool.and_eq_true] at hb
          exact absurd ((one_slash hb.1).2 rfl) hd47
      · refine ⟨i, Nat.zero_le _, hi, ?_, ?_, fun j _ hj => (front_flat i i1 i2).1 (by rw [i4]; exact ha) j hj⟩
        · have z1 : (s.extract i s.size).size = s.size - i := by rw [ByteArray.size_extract]; omega
          obtain ⟨h1, h2⟩ := Uf.said _ i3
          have hr := Uf.runes_pos (s.extract i s.size) (by omega)
          cases hr' : Uf.runes (s.extract i s.size) with
          | nil => rw [hr'] at hr; simp at hr
          | cons c l =>
            rw [hr', List.flatMap_cons] at h1
            obtain ⟨x, m, he, hx, _⟩ := Uf.enc_head c
            have hb0 := Uf.L_at (s.extract i s.size) 0 (by omega)
            rw [h1, he, Uf.b_extract s i s.size 0 (Nat.le_refl _) (by omega), Nat.add_zero] at hb0
            simp at hb0
            omega
        · rw [mt_yes hp (back_path hs i hi h47 i3), i5]; exact hb
    · have : b = [] := by
        rw [← i5, show i = s.size by omega]
        have : Uf.runes (s.extract s.size s.size) = [] := by
          unfold Uf.runes
          exact Uf.row_end _ _ (by rw [ByteArray.size_extract]; omega)
        exact this
      rw [this] at hb
      obtain ⟨P, hP⟩ := hx
      rw [hP] at hb
      exact (gm_last_nil hb).elim
  · rintro ⟨k, _, h2, h3, h4, h5⟩
    obtain ⟨_, hk, hg⟩ := (mt_iff _ _).1 h4
    obtain ⟨v1, v2, e⟩ := Uf.cut_at hsv k (by omega) (fun _ => h3)
    exact ⟨_, _, e, (front_flat k (by omega) v1).2 (fun j hj => h5 j (Nat.zero_le _) hj), hg⟩

/-! ### Part by part -/
/-- What is between the slashes. -/
def segs : List Nat → List (List Nat)
  | [] => [[]]
  | r :: l => if r = 47 then [] :: segs l else match segs l with
    | [] => [[r]]
    | a :: m => (r :: a) :: m
theorem segs_ne (l : List Nat) : segs l ≠ [] := by
  cases l with
  | nil => simp [segs]
  | cons r l =>
    rw [segs]
    split
    · simp
    · split <;> simp
theorem segs_flat : ∀ l : List Nat, flat l = true → segs l = [l]
  | [], _ => rfl
  | r :: l, h => by
    rw [flat, Bool.and_eq_true, bne_iff_ne] at h
    rw [segs, if_neg h.1, segs_flat l h.2]
theorem segs_slash : ∀ a l : List Nat, flat a = true → segs (a ++ 47 :: l) = a :: segs l
  | [], l, _ => by rw [List.nil_append, segs, if_pos rfl]
  | r :: a, l, h => by
    rw [flat, Bool.and_eq_true, bne_iff_ne] at h
    rw [List.cons_append, segs, if_neg h.1, segs_slash a l h.2]
theorem segs_pre : ∀ (u l : List Nat) (a : List Nat) (m : List (List Nat)), flat u = true → segs l = a :: m → segs (u ++ l) = (u ++ a) :: m
  | [], l, a, m, _, h => h
  | r :: u, l, a, m, h, e => by
    rw [flat, Bool.and_eq_true, bne_iff_ne] at h
    rw [List.cons_append, segs, if_neg h.1, segs_pre u l a m h.2 e]
    rfl
theorem first_slash : ∀ l : List Nat, flat l = true ∨ ∃ a b, l = a ++ 47 :: b ∧ flat a = true
  | [] => .inl rfl
  | r :: l => by
    by_cases h : r = 47
    · exact .inr ⟨[], l, by rw [h]; rfl, rfl⟩
    · have hr : (r != 47) = true := bne_iff_ne.2 h
      rcases first_slash l with h1 | ⟨a, b, rfl, h1⟩
      · exact .inl (by rw [flat, hr, h1]; rfl)
      · exact .inr ⟨r :: a, b, rfl, by rw [flat, hr, h1]; rfl⟩
theorem slash_inj : ∀ {a a' b b' : List Nat}, flat a = true → flat a' = true → a ++ 47 :: b = a' ++ 47 :: b' → a = a' ∧ b = b'
  | [], [], _, _, _, _, h => ⟨rfl, by injection h⟩
  | [], r :: a', _, _, _, h, e => by
    rw [flat, Bool.and_eq_true, bne_iff_ne] at h
    injection e with e1 e2
    exact absurd e1.symm h.1
  | r :: a, [], _, _, h, _, e => by
    rw [flat, Bool.and_eq_true, bne_iff_ne] at h
    injection e with e1 e2
    exact absurd e1 h.1
  | r :: a, r' :: a', _, _, h, h', e => by
    rw [flat, Bool.and_eq_true] at h h'
    injection e with e1 e2
    obtain ⟨h1, h2⟩ := slash_inj h.2 h'.2 e2
    exact ⟨by rw [e1, h1], h2⟩
theorem gm_flat : ∀ (P S : List Nat), flat P = true → gm P S = true → flat S = true
  | [], S, _, h => by rw [(gm_nil S).1 h]; rfl
  | c :: P, S, hp, h => by
    rw [flat, Bool.and_eq_true, bne_iff_ne] at hp
    by_cases h42 : c = 42
    · subst h42
      obtain ⟨a, b, rfl, ha, hb⟩ := (gm_star P S).1 h
      rw [flat_app, ha, gm_flat P b hp.2 hb]; rfl
    · obtain ⟨r, b, rfl, ho, hb⟩ := (gm_one c h42 P S).1 h
      have hr : (r != 47) = true := bne_iff_ne.2 fun e => hp.1 ((one_slash ho).2 e)
      rw [flat, hr, gm_flat P b hp.2 hb]; rfl
/-- Part by part. -/
def zipAll : List (List Nat) → List (List Nat) → Bool
  | [], [] => true
  | a :: l, b :: m => gm a b && zipAll l m
  | _, _ => false
theorem zip_nil_left (m : List (List Nat)) (h : m ≠ []) : zipAll [] m = false := by
  cases m with
  | nil => exact absurd rfl h
  | cons => rfl
theorem zip_nil_right (m : List (List Nat)) (h : m ≠ []) : zipAll m [] = false := by
  cases m with
  | nil => exact absurd rfl h
  | cons => rfl
theorem gm_segs : ∀ (n : Nat) (P S : List Nat), P.length ≤ n → gm P S = zipAll (segs P) (segs S)
  | n, P, S, hn => by
    rcases first_slash P with hP | ⟨P1, P2, rfl, hP⟩
    · rw [segs_flat P hP]
      rcases first_slash S with hS | ⟨S1, S2, rfl, hS⟩
      · rw [segs_flat S hS]
        simp [zipAll]
      · rw [segs_slash S1 S2 hS]
        show _ = (gm P S1 && zipAll [] (segs S2))
        rw [zip_nil_left _ (segs_ne S2), Bool.and_false]
        cases h : gm P (S1 ++ 47 :: S2) with
        | false => rfl
        | true =>
          have := gm_flat P _ hP h
          rw [flat_app, Bool.and_eq_true] at this
          have := this.2
          simp [flat] at this
    · rw [segs_slash P1 P2 hP]
      rcases first_slash S with hS | ⟨S1, S2, rfl, hS⟩
      · rw [segs_flat S hS]
        show _ = (gm P1 S && zipAll (segs P2) [])
        rw [zip_nil_right _ (segs_ne P2), Bool.and_false]
        cases h : gm (P1 ++ 47 :: P2) S with
        | false => rfl
        | true =>
          obtain ⟨a, b, rfl, _, hb⟩ := (gm_app P1 _ S).1 h
          obtain ⟨r, y, rfl, ho, _⟩ := (gm_one 47 (by decide) P2 b).1 hb
          have := (one_slash ho).1 rfl
          subst this
          rw [flat_app, Bool.and_eq_true] at hS
          have := hS.2
          simp [flat] at this
      · rw [segs_slash S1 S2 hS]
        show _ = (gm P1 S1 && zipAll (segs P2) (segs S2))
        cases n with
        | zero => simp at hn
        | succ n =>
          rw [← gm_segs n P2 S2 (by rw [List.length_append, List.length_cons] at hn; omega), Bool.eq_iff_iff, Bool.and_eq_true, gm_app]
          constructor
          · rintro ⟨a, b, e, ha, hb⟩
            obtain ⟨r, y, rfl, ho, hy⟩ := (gm_one 47 (by decide) P2 b).1 hb
            have := (one_slash ho).1 rfl
            subst this
            obtain ⟨rfl, rfl⟩ := slash_inj hS (gm_flat P1 a hP ha) e
            exact ⟨ha, hy⟩
          · rintro ⟨ha, hb⟩
            exact ⟨S1, 47 :: S2, rfl, ha, (gm_one 47 (by decide) P2 _).2 ⟨47, S2, rfl, rfl, hb⟩⟩
theorem enc_flat {r : Nat} (h : r ≠ 47) : flat (Uf.enc r) = true := by
  rw [flat_mem, Uf.enc_low r 47 (by omega)]
  exact fun e => h e.symm
theorem segs_enc : ∀ rs : List Nat, segs (rs.flatMap Uf.enc) = (segs rs).map fun a => a.flatMap Uf.enc
  | [] => rfl
  | r :: rs => by
    rw [List.flatMap_cons, segs]
    by_cases h : r = 47
    · subst h
      rw [if_pos rfl, Uf.enc1 (by omega), List.map_cons, ← segs_enc rs]
      rfl
    · rw [if_neg h]
      cases hs : segs rs with
      | nil => exact absurd hs (segs_ne rs)
      | cons a m =>
        have := segs_enc rs
        rw [hs, List.map_cons] at this
        rw [segs_pre _ _ _ _ (enc_flat h) this]
        rfl
theorem segs_snoc_slash : ∀ l : List Nat, segs (l ++ [47]) = segs l ++ [[]]
  | [] => rfl
  | r :: l => by
    rw [List.cons_append, segs, segs, segs_snoc_slash l]
    by_cases h : r = 47
    · rw [if_pos h, if_pos h]; rfl
    · rw [if_neg h, if_neg h]
      cases hs : segs l with
      | nil => exact absurd hs (segs_ne l)
      | cons a m => rfl
/-- A last one made longer. -/
def onLast (c : Nat) : List (List Nat) → List (List Nat)
  | [] => [[c]]
  | [a] => [a ++ [c]]
  | a :: b :: m => a :: onLast c (b :: m)
theorem segs_snoc : ∀ (l : List Nat) (c : Nat), c ≠ 47 → segs (l ++ [c]) = onLast c (segs l)
  | [], c, h => by simp [segs, h, onLast]
  | r :: l, c, h => by
    rw [List.cons_append, segs, segs, segs_snoc l c h]
    cases hs : segs l with
    | nil => exact absurd hs (segs_ne l)
    | cons a m =>
      by_cases hr : r = 47
      · rw [if_pos hr, if_pos hr]; rfl
      · rw [if_neg hr, if_neg hr]
        cases m with
        | nil => rfl
        | cons b m => rfl
/-- Of bytes a text. -/
def ofL (l : List Nat) : ByteArray := ⟨(l.map UInt8.ofNat).toArray⟩
theorem L_ofL {l : List Nat} (h : ∀ x ∈ l, x < 256) : Uf.L (ofL l) = l := by
  unfold Uf.L ofL
  show ((l.map UInt8.ofNat).toArray.toList).map UInt8.toNat = l
  rw [List.toList_toArray, List.map_map]
  conv => rhs; rw [← List.map_id l]
  apply List.map_congr_left
  intro x hx
  show (UInt8.ofNat x).toNat = x
  rw [UInt8.toNat_ofNat', Nat.mod_eq_of_lt (h x hx)]
/-- The parts of a text, each with an x ahead. -/
def parts (l : List Nat) : List ByteArray := (segs l).map fun a => ofL (120 :: a)
theorem segs_good : ∀ (rs : List Nat) (P : Nat → Prop), (∀ r ∈ rs, P r) → ∀ a ∈ segs rs, ∀ r ∈ a, P r
  | [], P, _, a, ha, r, hr => by simp [segs] at ha; subst ha; cases hr
  | c :: rs, P, h, a, ha, r, hr => by
    rw [segs] at ha
    have ih := segs_good rs P (fun r h' => h r (by simp [h']))
    split at ha
    · rcases List.mem_cons.1 ha with rfl | ha
      · cases hr
      · exact ih a ha r hr
    · cases hs : segs rs with
      | nil => exact absurd hs (segs_ne rs)
      | cons b m =>
        rw [hs] at ha ih
        rcases List.mem_cons.1 ha with rfl | ha
        · rcases List.mem_cons.1 hr with rfl | hr
          · exact h _ (by simp)
          · exact ih b (by simp) r hr
        · exact ih a (by simp [ha]) r hr
theorem segs_small : ∀ (l : List Nat), ∀ a ∈ segs l, a.length ≤ l.length
  | [], a, ha => by simp [segs] at ha; subst ha; simp
  | c :: rs, a, ha => by
    rw [segs] at ha
    have ih := segs_small rs
    split at ha
    · rcases List.mem_cons.1 ha with rfl | ha
      · simp
      · have := ih a ha; simp; omega
    · cases hs : segs rs with
      | nil => exact absurd hs (segs_ne rs)
      | cons b m =>
        rw [hs] at ha ih
        rcases List.mem_cons.1 ha with rfl | ha
        · have := ih b (by simp); simp; omega
        · have := ih a (by simp [ha]); simp; omega
theorem L_lt (s : ByteArray) : ∀ x ∈ Uf.L s, x < 256 := by
  intro x hx
  unfold Uf.L at hx
  obtain ⟨c, _, rfl⟩ := List.mem_map.1 hx
  exact c.toNat_lt
/-- A part, as a text: a path, and its runes. -/
theorem part_said {rs : List Nat} (hg : ∀ r ∈ rs, Uf.Good r) (hb : ∀ x ∈ rs.flatMap Uf.enc, x < 256) (hz : (rs.flatMap Uf.enc).length < 256) : Nm.path (ofL (120 :: rs.flatMap Uf.enc)) = true ∧ Uf.runes (ofL (120 :: rs.flatMap Uf.enc)) = 120 :: rs := by
  have hL : Uf.L (ofL (120 :: rs.flatMap Uf.enc)) = 120 :: rs.flatMap Uf.enc := L_ofL fun x hx => by
    rcases List.mem_cons.1 hx with rfl | hx
    · omega
    · exact hb x hx
  have hlen := Uf.L_len (ofL (120 :: rs.flatMap Uf.enc))
  rw [hL, List.length_cons] at hlen
  obtain ⟨v, r⟩ := Uf.of_said (s := ofL (120 :: rs.flatMap Uf.enc)) (rs := 120 :: rs) (fun r hr => by
    rcases List.mem_cons.1 hr with rfl | hr
    · unfold Uf.Good; omega
    · exact hg r hr) (by rw [hL, List.flatMap_cons, Uf.enc1 (by omega)]; rfl)
  refine ⟨path_mk (by omega) (by omega) ?_ v, r⟩
  have := Uf.L_at (ofL (120 :: rs.flatMap Uf.enc)) 0 (by omega)
  rw [hL] at this
  simp at this
  omega
/-- Part by part, as texts. -/
def zipMt : List ByteArray → List ByteArray → Bool
  | [], [] => true
  | a :: l, b :: m => mt a b && zipMt l m
  | _, _ => false
theorem zip_mt : ∀ (A B : List (List Nat)), (∀ a ∈ A, (∀ r ∈ a, Uf.Good r) ∧ (∀ x ∈ a.flatMap Uf.enc, x < 256) ∧ (a.flatMap Uf.enc).length < 256) → (∀ a ∈ B, (∀ r ∈ a, Uf.Good r) ∧ (∀ x ∈ a.flatMap Uf.enc, x < 256) ∧ (a.flatMap Uf.enc).length < 256) →
    zipMt (A.map fun a => ofL (120 :: a.flatMap Uf.enc)) (B.map fun a => ofL (120 :: a.flatMap Uf.enc)) = zipAll A B
  | [], [], _, _ => rfl
  | [], b :: B, _, _ => rfl
  | a :: A, [], _, _ => rfl
  | a :: A, b :: B, hA, hB => by
    obtain ⟨a1, a2, a3⟩ := hA a (by simp)
    obtain ⟨b1, b2, b3⟩ := hB b (by simp)
    obtain ⟨p1, p2⟩ := part_said a1 a2 a3
    obtain ⟨q1, q2⟩ := part_said b1 b2 b3
    show (mt _ _ && zipMt _ _) = (gm a b && zipAll A B)
    rw [zip_mt A B (fun a h => hA a (by simp [h])) (fun a h => hB a (by simp [h])), mt_yes p1 q1, p2, q2, gm_cons 120 120 (by decide)]
    rfl
theorem parts_said {s : ByteArray} (h : Nm.path s = true) (hz : s.size < 256) : parts (Uf.L s) = (segs (Uf.runes s)).map (fun a => ofL (120 :: a.flatMap Uf.enc)) ∧ ∀ a ∈ segs (Uf.runes s), (∀ r ∈ a, Uf.Good r) ∧ (∀ x ∈ a.flatMap Uf.enc, x < 256) ∧ (a.flatMap Uf.enc).length < 256 := by
  obtain ⟨h1, h2⟩ := Uf.said s (path_valid h)
  have hs := segs_enc (Uf.runes s)
  refine ⟨?_, fun a ha => ⟨segs_good _ _ h2 a ha, ?_, ?_⟩⟩
  · unfold parts
    rw [h1, hs, List.map_map]
    rfl
  · have := segs_good (Uf.L s) (fun x => x < 256) (L_lt s)
    rw [h1, hs] at this
    exact this _ (List.mem_map.2 ⟨a, ha, rfl⟩)
  · have := segs_small (Uf.L s)
    rw [h1, hs] at this
    have := this _ (List.mem_map.2 ⟨a, ha, rfl⟩)
    rw [← h1, Uf.L_len] at this
    omega
theorem mt_parts {p s : ByteArray} (hp : Nm.path p = true) (hs : Nm.path s = true) (hpz : p.size < 256) (hsz : s.size < 256) : mt p s = zipMt (parts (Uf.L p)) (parts (Uf.L s)) := by
  obtain ⟨p1, p2⟩ := parts_said hp hpz
  obtain ⟨s1, s2⟩ := parts_said hs hsz
  rw [mt_yes hp hs, p1, s1, zip_mt _ _ p2 s2]
  exact gm_segs _ _ _ (Nat.le_refl _)
end Go.Proofs.Ytcglfpgniifedaa.Gl
