/-
  Plain law on names and paths: a name with its ending, and back; byte by byte; joined; paths one behind the other. No program in sight.
-/
import Derived.Test.YtflfmacfodkedaaDoorName
namespace Go.Proofs.YtflfmacfodkedaaDoor.Nm
set_option linter.unusedSimpArgs false
set_option linter.unusedVariables false
open Go

theorem b_app_left (s t : ByteArray) (k : Nat) (h : k < s.size) : Uf.b (s ++ t) k = Uf.b s k := by
  rw [Uf.b_at (s ++ t) k (by rw [ByteArray.size_append]; omega), Uf.b_at s k h, ByteArray.getElem_append_left h]
theorem b_app_right (s t : ByteArray) (k : Nat) (h : k < t.size) : Uf.b (s ++ t) (s.size + k) = Uf.b t k := by
  rw [Uf.b_at (s ++ t) (s.size + k) (by rw [ByteArray.size_append]; omega), Uf.b_at t k h, ByteArray.getElem_append_right (by omega)]
  simp only [Nat.add_sub_cancel_left]
theorem b_beyond (s : ByteArray) (k : Nat) (h : s.size ≤ k) : Uf.b s k = 0 := by
  unfold Uf.b
  have : s.get! k = default := by
    show s.data[k]! = default
    exact getElem!_neg s.data k (Nat.not_lt.2 h)
  rw [this]; rfl
theorem ext_b {s t : ByteArray} (hs : s.size = t.size) (h : ∀ k, k < s.size → Uf.b s k = Uf.b t k) : s = t := by
  refine ByteArray.ext_getElem hs (fun k h1 h2 => ?_)
  have := h k h1
  rw [Uf.b_at s k h1, Uf.b_at t k h2] at this
  exact UInt8.toNat_inj.1 this
theorem toList_inj {s t : ByteArray} : (s.toList == t.toList) = true ↔ s = t := by
  rw [beq_iff_eq, ByteArray.toList_eq, ByteArray.toList_eq]
  constructor
  · intro h
    obtain ⟨⟨x⟩⟩ := s; obtain ⟨⟨y⟩⟩ := t; simp at h; subst h; rfl
  · intro h; rw [h]

theorem role_iff (s : ByteArray) : role s = true ↔ 1 ≤ s.size ∧ s.size ≤ 64 ∧ Uf.b s 0 ≠ 46 ∧ ∀ k, k < s.size → part (Uf.b s k) = true := by
  unfold role
  rw [Bool.and_eq_true, Bool.and_eq_true, Bool.and_eq_true, decide_eq_true_eq, decide_eq_true_eq, Bool.not_eq_true', beq_eq_false_iff_ne, partTo_iff]
  simp only [and_assoc]
theorem path_iff (s : ByteArray) : path s = true ↔ 1 ≤ s.size ∧ s.size ≤ 256 ∧ Uf.b s 0 ≠ 47 ∧ Uf.valid s = true := by
  unfold path
  rw [Bool.and_eq_true, Bool.and_eq_true, Bool.and_eq_true, decide_eq_true_eq, decide_eq_true_eq, Bool.not_eq_true', beq_eq_false_iff_ne]
  simp only [and_assoc]
theorem part_lt {c : Nat} (h : part c = true) : c < 128 ∧ c ≠ 47 := by
  unfold part at h
  simp only [Bool.or_eq_true, Bool.and_eq_true, decide_eq_true_eq, beq_iff_eq] at h
  omega

/-! ### The ending -/
theorem hasSuf_iff (s : ByteArray) : hasSuf s = true ↔ 5 ≤ s.size ∧ s = cut s ++ sufB := by
  unfold hasSuf cut
  rw [Bool.and_eq_true, decide_eq_true_eq, toList_inj]
  constructor
  · rintro ⟨h1, h2⟩
    refine ⟨h1, ?_⟩
    rw [← h2, ByteArray.extract_append_extract, show min 0 (s.size - 5) = 0 by omega, show max (s.size - 5) s.size = s.size by omega]
    exact ext_b (by rw [ByteArray.size_extract]; omega) (fun k hk => by rw [Uf.b_extract s 0 s.size k (Nat.le_refl _) (by omega), Nat.zero_add])
  · rintro ⟨h1, h2⟩
    refine ⟨h1, ?_⟩
    have hc : (s.extract 0 (s.size - 5)).size = s.size - 5 := by rw [ByteArray.size_extract]; omega
    have hs5 : sufB.size = 5 := rfl
    refine ext_b (by rw [ByteArray.size_extract, hs5]; omega) (fun k hk => ?_)
    rw [ByteArray.size_extract] at hk
    rw [Uf.b_extract s _ _ k (Nat.le_refl _) (by omega)]
    have := b_app_right (s.extract 0 (s.size - 5)) sufB k (by rw [hs5]; omega)
    rw [← h2, hc] at this
    exact this
theorem cut_app (s : ByteArray) : hasSuf (s ++ sufB) = true ∧ cut (s ++ sufB) = s := by
  have hz : (s ++ sufB).size = s.size + 5 := by rw [ByteArray.size_append]; rfl
  have hc : cut (s ++ sufB) = s := by
    unfold cut
    refine ext_b (by rw [ByteArray.size_extract, hz]; omega) (fun k hk => ?_)
    rw [ByteArray.size_extract, hz] at hk
    rw [Uf.b_extract _ 0 _ k (by omega) (by omega), Nat.zero_add, b_app_left s sufB k (by omega)]
  refine ⟨(hasSuf_iff _).2 ⟨by omega, by rw [hc]⟩, hc⟩
theorem isFile_app (s : ByteArray) (h : role s = true) : isFile (s ++ sufB) = true ∧ roleS (s ++ sufB) = s ∧ roleE (s ++ sufB) = 0 := by
  obtain ⟨h1, h2⟩ := cut_app s
  have : isFile (s ++ sufB) = true := by unfold isFile; rw [h1, h2, h]; rfl
  exact ⟨this, by unfold roleS; rw [if_pos this, h2], by unfold roleE; rw [if_pos this]⟩
theorem isFile_back (s : ByteArray) (h : isFile s = true) : role (cut s) = true ∧ cut s ++ sufB = s := by
  unfold isFile at h
  rw [Bool.and_eq_true] at h
  exact ⟨h.2, ((hasSuf_iff s).1 h.1).2.symm⟩
theorem app_suf_inj (s t : ByteArray) : s ++ sufB = t ++ sufB ↔ s = t :=
  ⟨fun h => by rw [← (cut_app s).2, ← (cut_app t).2, h], fun h => by rw [h]⟩

/-! ### Byte by byte -/
def oneB (c : UInt8) : ByteArray := ⟨#[c]⟩
theorem oneB_size (c : UInt8) : (oneB c).size = 1 := rfl
theorem oneB_b (c : UInt8) : Uf.b (oneB c) 0 = c.toNat := by rw [Uf.b_at (oneB c) 0 (by rw [oneB_size]; omega)]; rfl
theorem role_one (c : UInt8) : role (oneB c) = (!(c.toNat == 46) && part c.toNat) := by
  rw [Bool.eq_iff_iff, role_iff, oneB_size, oneB_b, Bool.and_eq_true, Bool.not_eq_true', beq_eq_false_iff_ne]
  exact ⟨fun h => ⟨h.2.2.1, by have := h.2.2.2 0 (by omega); rwa [oneB_b] at this⟩, fun h => ⟨by omega, by omega, h.1, fun k hk => by
    obtain rfl : k = 0 := by omega
    rw [oneB_b]; exact h.2⟩⟩
theorem role_front (s : ByteArray) (h : role s = true) (k : Nat) (h1 : 1 ≤ k) (h2 : k ≤ s.size) : role (s.extract 0 k) = true := by
  obtain ⟨a1, a2, a3, a4⟩ := (role_iff s).1 h
  have hz : (s.extract 0 k).size = k := by rw [ByteArray.size_extract]; omega
  rw [role_iff, hz]
  refine ⟨h1, by omega, ?_, fun j hj => ?_⟩
  · rw [Uf.b_extract s 0 k 0 h2 (by omega), Nat.zero_add]; exact a3
  · rw [Uf.b_extract s 0 k j h2 (by omega), Nat.zero_add]; exact a4 j (by omega)
/-- Another byte at the front. -/
theorem role_first (s : ByteArray) (c : UInt8) (h : role s = true) : role (oneB c ++ s.extract 1 s.size) = role (oneB c) := by
  obtain ⟨a1, a2, a3, a4⟩ := (role_iff s).1 h
  have hz : (oneB c ++ s.extract 1 s.size).size = s.size := by rw [ByteArray.size_append, ByteArray.size_extract, oneB_size]; omega
  have hb0 : Uf.b (oneB c ++ s.extract 1 s.size) 0 = c.toNat := by rw [b_app_left _ _ 0 (by rw [oneB_size]; omega), oneB_b]
  have hbk : ∀ k, 1 ≤ k → k < s.size → Uf.b (oneB c ++ s.extract 1 s.size) k = Uf.b s k := fun k h1 h2 => by
    have := b_app_right (oneB c) (s.extract 1 s.size) (k - 1) (by rw [ByteArray.size_extract]; omega)
    rw [oneB_size, show 1 + (k - 1) = k by omega] at this
    rw [this, Uf.b_extract s 1 s.size (k - 1) (Nat.le_refl _) (by omega), show 1 + (k - 1) = k by omega]
  rw [role_one, Bool.eq_iff_iff, role_iff, hz, hb0, Bool.and_eq_true, Bool.not_eq_true', beq_eq_false_iff_ne]
  constructor
  · rintro ⟨_, _, h1, h2⟩
    exact ⟨h1, by have := h2 0 (by omega); rwa [hb0] at this⟩
  · rintro ⟨h1, h2⟩
    refine ⟨a1, a2, h1, fun k hk => ?_⟩
    by_cases k0 : k = 0
    · subst k0; rw [hb0]; exact h2
    · rw [hbk k (by omega) hk]; exact a4 k hk
/-- Another byte within. -/
theorem role_within (s : ByteArray) (c : UInt8) (k : Nat) (h : role s = true) (h1 : 1 ≤ k) (h2 : k < s.size) : role (s.extract 0 k ++ oneB c ++ s.extract (k + 1) s.size) = part c.toNat := by
  obtain ⟨a1, a2, a3, a4⟩ := (role_iff s).1 h
  have hz0 : (s.extract 0 k).size = k := by rw [ByteArray.size_extract]; omega
  have hz1 : (s.extract 0 k ++ oneB c).size = k + 1 := by rw [ByteArray.size_append, hz0, oneB_size]
  have hz : (s.extract 0 k ++ oneB c ++ s.extract (k + 1) s.size).size = s.size := by rw [ByteArray.size_append, hz1, ByteArray.size_extract]; omega
  have hl : ∀ j, j < k → Uf.b (s.extract 0 k ++ oneB c ++ s.extract (k + 1) s.size) j = Uf.b s j := fun j hj => by
    rw [b_app_left _ _ j (by omega), b_app_left _ _ j (by omega), Uf.b_extract s 0 k j (by omega) (by omega), Nat.zero_add]
  have hm : Uf.b (s.extract 0 k ++ oneB c ++ s.extract (k + 1) s.size) k = c.toNat := by
    rw [b_app_left _ _ k (by omega)]
    have := b_app_right (s.extract 0 k) (oneB c) 0 (by rw [oneB_size]; omega)
    rw [hz0, Nat.add_zero] at this
    rw [this, oneB_b]
  have hr : ∀ j, k < j → j < s.size → Uf.b (s.extract 0 k ++ oneB c ++ s.extract (k + 1) s.size) j = Uf.b s j := fun j h3 h4 => by
    have := b_app_right (s.extract 0 k ++ oneB c) (s.extract (k + 1) s.size) (j - (k + 1)) (by rw [ByteArray.size_extract]; omega)
    rw [hz1, show k + 1 + (j - (k + 1)) = j by omega] at this
    rw [this, Uf.b_extract s _ _ _ (Nat.le_refl _) (by omega), show k + 1 + (j - (k + 1)) = j by omega]
  rw [Bool.eq_iff_iff, role_iff, hz, hl 0 (by omega)]
  constructor
  · rintro ⟨_, _, _, h3⟩
    have := h3 k h2
    rwa [hm] at this
  · intro h3
    refine ⟨a1, a2, a3, fun j hj => ?_⟩
    rcases Nat.lt_trichotomy j k with q | q | q
    · rw [hl j q]; exact a4 j hj
    · subst q; rw [hm]; exact h3
    · rw [hr j q hj]; exact a4 j hj
def aB : ByteArray := ⟨#[97]⟩
/-- Behind an a. -/
theorem role_a (t : ByteArray) (h : t.size = 1) : role (aB ++ t) = part (Uf.b t 0) := by
  have hz : (aB ++ t).size = 2 := by rw [ByteArray.size_append, h]; rfl
  have h0 : Uf.b (aB ++ t) 0 = 97 := by rw [b_app_left aB t 0 (by show 0 < 1; omega)]; rfl
  have h1 : Uf.b (aB ++ t) 1 = Uf.b t 0 := b_app_right aB t 0 (by omega)
  rw [Bool.eq_iff_iff, role_iff, hz, h0]
  constructor
  · rintro ⟨_, _, _, h3⟩
    have := h3 1 (by omega)
    rwa [h1] at this
  · intro h3
    refine ⟨by omega, by omega, by omega, fun k hk => ?_⟩
    have : k = 0 ∨ k = 1 := by omega
    rcases this with rfl | rfl
    · rw [h0]; rfl
    · rw [h1]; exact h3
/-- A name, and bytes behind it. -/
theorem role_app (s t : ByteArray) (h : role s = true) : role (s ++ t) = (partTo t t.size && decide (s.size + t.size ≤ 64)) := by
  obtain ⟨a1, a2, a3, a4⟩ := (role_iff s).1 h
  rw [Bool.eq_iff_iff, role_iff, ByteArray.size_append, b_app_left s t 0 (by omega), Bool.and_eq_true, decide_eq_true_eq, partTo_iff]
  constructor
  · rintro ⟨_, h1, _, h2⟩
    refine ⟨fun k hk => ?_, h1⟩
    have := h2 (s.size + k) (by omega)
    rwa [b_app_right s t k hk] at this
  · rintro ⟨h1, h2⟩
    refine ⟨by omega, h2, a3, fun k hk => ?_⟩
    by_cases hks : k < s.size
    · rw [b_app_left s t k hks]; exact a4 k hks
    · have := b_app_right s t (k - s.size) (by omega)
      rw [show s.size + (k - s.size) = k by omega] at this
      rw [this]; exact h1 _ (by omega)

/-! ### Paths -/
theorem slash_no (s : ByteArray) : path (⟨#[47]⟩ ++ s) = false := by
  cases h : path (⟨#[47]⟩ ++ s) with
  | false => rfl
  | true =>
    have := ((path_iff _).1 h).2.2.1
    rw [b_app_left _ _ 0 (by show 0 < 1; omega)] at this
    exact absurd rfl this
theorem cont_app (s t : ByteArray) (k : Nat) (h : Uf.cont s k = true) : Uf.cont (s ++ t) k = true := by
  rw [Uf.cont_iff] at h ⊢
  rw [b_app_left s t k h.1, ByteArray.size_append]
  omega
/-- A rune of the front one is one of both. -/
theorem okAt_app (s t : ByteArray) (i : Nat) (hi : i < s.size) (h : Uf.okAt s i = true) : Uf.okAt (s ++ t) i = true ∧ Uf.wid (s ++ t) i = Uf.wid s i := by
  have hb := b_app_left s t i hi
  have key : Utf8.decode (s ++ t) i = Utf8.decode s i := by
    rcases (Uf.okAt_iff s i).1 h with ⟨a1, _⟩ | ⟨a1, a2, c1, d, _⟩ | ⟨a1, a2, c1, c2, d, d2, _⟩ | ⟨a1, a2, c1, c2, c3, d, d2, _⟩
    · rw [Uf.dec1 s i a1, Uf.dec1 (s ++ t) i (by omega), hb]
    · have k1 := (Uf.cont_iff s _).1 c1
      have e2 : Uf.c2 (s ++ t) i = Uf.c2 s i := by unfold Uf.c2; rw [hb, b_app_left s t (i + 1) k1.1]
      rw [Uf.dec2 s i a1 a2 c1 d, Uf.dec2 (s ++ t) i (by omega) (by omega) (cont_app s t _ c1) (by omega), e2]
    · have k1 := (Uf.cont_iff s _).1 c1
      have k2 := (Uf.cont_iff s _).1 c2
      have e3 : Uf.c3 (s ++ t) i = Uf.c3 s i := by unfold Uf.c3; rw [hb, b_app_left s t (i + 1) k1.1, b_app_left s t (i + 2) k2.1]
      rw [Uf.dec3 s i a1 a2 c1 c2 d d2, Uf.dec3 (s ++ t) i (by omega) (by omega) (cont_app s t _ c1) (cont_app s t _ c2) (by omega) (by omega), e3]
    · have k1 := (Uf.cont_iff s _).1 c1
      have k2 := (Uf.cont_iff s _).1 c2
      have k3 := (Uf.cont_iff s _).1 c3
      have e4 : Uf.c4 (s ++ t) i = Uf.c4 s i := by unfold Uf.c4; rw [hb, b_app_left s t (i + 1) k1.1, b_app_left s t (i + 2) k2.1, b_app_left s t (i + 3) k3.1]
      rw [Uf.dec4 s i a1 a2 c1 c2 c3 d d2, Uf.dec4 (s ++ t) i (by omega) (by omega) (cont_app s t _ c1) (cont_app s t _ c2) (cont_app s t _ c3) (by omega) (by omega), e4]
  unfold Uf.okAt Uf.wid
  rw [key]
  unfold Uf.okAt at h
  exact ⟨h, rfl⟩
/-- A rune behind is one of both. -/
theorem b_shift (s t : ByteArray) (k : Nat) : Uf.b (s ++ t) (s.size + k) = Uf.b t k := by
  by_cases h : k < t.size
  · exact b_app_right s t k h
  · rw [b_beyond t k (by omega), b_beyond (s ++ t) (s.size + k) (by rw [ByteArray.size_append]; omega)]
theorem cont_shift (s t : ByteArray) (k : Nat) : Uf.cont (s ++ t) (s.size + k) = Uf.cont t k := by
  unfold Uf.cont
  rw [b_shift, ByteArray.size_append]
  congr 1
  exact decide_eq_decide.2 (by omega)
theorem decode_shift (s t : ByteArray) (i : Nat) : Utf8.decode (s ++ t) (s.size + i) = Utf8.decode t i := by
  rw [Uf.decode_eq, Uf.decode_eq]
  unfold Uf.c2 Uf.c3 Uf.c4
  simp only [Nat.add_assoc, b_shift, cont_shift]
theorem rest_shift (s t : ByteArray) : ∀ (f i : Nat), t.size - i ≤ f → Uf.rest (s ++ t) (s.size + i) = Uf.rest t i
  | f, i, hf => by
    by_cases hi : i < t.size
    · have hw := Uf.wid_pos t i hi
      cases f with
      | zero => omega
      | succ f =>
        rw [Uf.rest_step (s ++ t) (s.size + i) (by rw [ByteArray.size_append]; omega), Uf.rest_step t i hi]
        have e1 : Uf.okAt (s ++ t) (s.size + i) = Uf.okAt t i := by unfold Uf.okAt; rw [decode_shift]
        have e2 : Uf.wid (s ++ t) (s.size + i) = Uf.wid t i := by unfold Uf.wid; rw [decode_shift]
        rw [e1, e2, show s.size + i + Uf.wid t i = s.size + (i + Uf.wid t i) by omega, rest_shift s t f (i + Uf.wid t i) (by omega)]
    · rw [Uf.rest_end t i (by omega), Uf.rest_end (s ++ t) (s.size + i) (by rw [ByteArray.size_append]; omega)]
theorem rest_app (s t : ByteArray) : ∀ (f i : Nat), s.size - i ≤ f → i ≤ s.size → (Uf.rest s i).isSome = true → (Uf.rest (s ++ t) i).isSome = (Uf.rest t 0).isSome
  | f, i, hf, hi, h => by
    by_cases he : i = s.size
    · subst he
      have := rest_shift s t t.size 0 (by omega)
      rw [Nat.add_zero] at this
      rw [this]
    · have hlt : i < s.size := by omega
      have hw := Uf.wid_pos s i hlt
      cases f with
      | zero => omega
      | succ f =>
        rw [Uf.rest_step s i hlt] at h
        cases ho : Uf.okAt s i with
        | false => rw [ho] at h; cases h
        | true =>
          rw [ho, if_pos rfl, Option.isSome_map] at h
          obtain ⟨o1, o2⟩ := okAt_app s t i hlt ho
          rw [Uf.rest_step (s ++ t) i (by rw [ByteArray.size_append]; omega), o1, if_pos rfl, o2, Option.isSome_map]
          exact rest_app s t f (i + Uf.wid s i) (by omega) (Uf.wid_le s i hlt ho) h
theorem valid_app (s t : ByteArray) (h : Uf.valid s = true) : Uf.valid (s ++ t) = Uf.valid t := rest_app s t s.size 0 (by omega) (Nat.zero_le _) h
theorem valid_ascii (s : ByteArray) (h : ∀ k, k < s.size → Uf.b s k < 128) : Uf.valid s = true := by
  have : ∀ (f i : Nat), s.size - i ≤ f → (Uf.rest s i).isSome = true := by
    intro f
    induction f with
    | zero => intro i hi; rw [Uf.rest_end s i (by omega)]; rfl
    | succ f ih =>
      intro i hi
      by_cases hlt : i < s.size
      · obtain ⟨o1, o2, _⟩ := Uf.ok_low s i (h i hlt)
        rw [Uf.rest_step s i hlt, o1, if_pos rfl, o2, Option.isSome_map]
        exact ih (i + 1) (by omega)
      · rw [Uf.rest_end s i (by omega)]; rfl
  exact this s.size 0 (by omega)
theorem path_join (s t : ByteArray) (hs : path s = true) (ht : path t = true) : path (s ++ ⟨#[47]⟩ ++ t) = decide (s.size + 1 + t.size ≤ 256) := by
  obtain ⟨a1, a2, a3, a4⟩ := (path_iff s).1 hs
  obtain ⟨b1, b2, b3, b4⟩ := (path_iff t).1 ht
  have h1 : (⟨#[47]⟩ : ByteArray).size = 1 := rfl
  have v1 : Uf.valid (⟨#[47]⟩ : ByteArray) = true := valid_ascii _ (fun k hk => by
    rw [h1] at hk
    obtain rfl : k = 0 := by omega
    show 47 < 128; omega)
  have hv : Uf.valid (s ++ ⟨#[47]⟩ ++ t) = true := by rw [valid_app _ t (by rw [valid_app s _ a4]; exact v1)]; exact b4
  rw [Bool.eq_iff_iff, path_iff, decide_eq_true_eq, ByteArray.size_append, ByteArray.size_append, h1, hv, b_app_left _ t 0 (by rw [ByteArray.size_append, h1]; omega), b_app_left s _ 0 (by omega)]
  exact ⟨fun h => by omega, fun h => ⟨by omega, by omega, a3, rfl⟩⟩
theorem path_front (s : ByteArray) (k : Nat) (hs : path s = true) (hk : k < s.size) : path (s.extract 0 k) = (decide (0 < k) && Uf.valid (s.extract 0 k)) := by
  obtain ⟨a1, a2, a3, a4⟩ := (path_iff s).1 hs
  have hz : (s.extract 0 k).size = k := by rw [ByteArray.size_extract]; omega
  rw [Bool.eq_iff_iff, path_iff, hz, Bool.and_eq_true, decide_eq_true_eq]
  constructor
  · rintro ⟨h1, _, _, h2⟩; exact ⟨by omega, h2⟩
  · rintro ⟨h1, h2⟩
    refine ⟨by omega, by omega, ?_, h2⟩
    rw [Uf.b_extract s 0 k 0 (by omega) (by omega), Nat.zero_add]; exact a3
theorem role_path (s : ByteArray) (h : role s = true) : path s = true := by
  obtain ⟨a1, a2, a3, a4⟩ := (role_iff s).1 h
  refine (path_iff s).2 ⟨a1, by omega, (part_lt (a4 0 (by omega))).2, valid_ascii s fun k hk => (part_lt (a4 k hk)).1⟩
theorem top_role (s : ByteArray) (h : top s = true) : role s = true := by
  unfold top at h
  rw [Bool.or_eq_true, Bool.or_eq_true, toList_inj, toList_inj, toList_inj] at h
  rcases h with (rfl | rfl) | rfl <;> decide
end Go.Proofs.YtflfmacfodkedaaDoor.Nm
