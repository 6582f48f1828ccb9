/-
  A valid text is its runes, encoded one behind the other. Plain facts; no program in sight.
-/
import Derived.Test.YtmpbejiknejogaaDoorRunes
import Derived.Test.YtmpbejiknejogaaDoorNameLaw
import Derived.Lib.Strings
namespace Go.Proofs.YtmpbejiknejogaaDoor.Uf
set_option linter.unusedSimpArgs false
set_option linter.unusedVariables false
open Go

/-- The bytes of a text, as numbers. -/
def L (s : ByteArray) : List Nat := s.data.toList.map UInt8.toNat
theorem L_len (s : ByteArray) : (L s).length = s.size := by unfold L; rw [List.length_map, Array.length_toList]; rfl
theorem L_at (s : ByteArray) (k : Nat) (h : k < s.size) : (L s)[k]? = some (b s k) := by
  unfold L
  rw [b_at s k h, List.getElem?_map, Array.getElem?_toList]
  show Option.map _ (s.data[k]?) = _
  rw [Array.getElem?_eq_getElem (show k < s.data.size from h)]
  rfl
theorem L_app (s t : ByteArray) : L (s ++ t) = L s ++ L t := by unfold L; rw [ByteArray.data_append, Array.toList_append, List.map_append]
theorem L_inj {s t : ByteArray} (h : L s = L t) : s = t := by
  obtain ⟨⟨x⟩⟩ := s; obtain ⟨⟨y⟩⟩ := t
  unfold L at h
  have : x = y := by
    have e : ∀ (x y : List UInt8), x.map UInt8.toNat = y.map UInt8.toNat → x = y := by
      intro x
      induction x with
      | nil => intro y h; cases y with
        | nil => rfl
        | cons => simp at h
      | cons c x ih => intro y h; cases y with
        | nil => simp at h
        | cons d y =>
          simp only [List.map_cons, List.cons.injEq] at h
          rw [UInt8.toNat_inj.1 h.1, ih y h.2]
    exact e x y h
  rw [this]
theorem L_cut (s : ByteArray) (i j : Nat) : L (s.extract i j) = ((L s).drop i).take (j - i) := by
  unfold L; rw [Lib.extract_data, List.map_take, List.map_drop]
theorem L_front (s : ByteArray) (k : Nat) : L (s.extract 0 k) = (L s).take k := by rw [L_cut]; rfl
theorem L_back (s : ByteArray) (k : Nat) : L (s.extract k s.size) = (L s).drop k := by
  rw [L_cut, List.take_of_length_le (by rw [List.length_drop, L_len]; omega)]
theorem L_drop (s : ByteArray) (i : Nat) (h : i < s.size) : (L s).drop i = b s i :: (L s).drop (i + 1) := by
  have hl : i < (L s).length := by rw [L_len]; exact h
  rw [List.drop_eq_getElem_cons hl]
  have := L_at s i h
  rw [List.getElem?_eq_getElem hl] at this
  injection this with this
  rw [this]
theorem L_undrop {s : ByteArray} {i x : Nat} {l : List Nat} (h : (L s).drop i = x :: l) : i < s.size ∧ b s i = x ∧ (L s).drop (i + 1) = l := by
  have hi : i < s.size := by
    rcases Nat.lt_or_ge i s.size with h1 | h1
    · exact h1
    · rw [List.drop_of_length_le (by rw [L_len]; exact h1)] at h; cases h
  rw [L_drop s i hi] at h
  injection h with h1 h2
  exact ⟨hi, h1, h2⟩

/-- Is a number a rune? -/
def Good (r : Nat) : Prop := r < 55296 ∨ (57344 ≤ r ∧ r ≤ 1114111)
/-- A rune's bytes. -/
def enc (r : Nat) : List Nat :=
  if r < 128 then [r] else if r < 2048 then [192 + r / 64, 128 + r % 64] else if r < 65536 then [224 + r / 4096, 128 + r / 64 % 64, 128 + r % 64] else [240 + r / 262144, 128 + r / 4096 % 64, 128 + r / 64 % 64, 128 + r % 64]
theorem enc1 {r : Nat} (h : r < 128) : enc r = [r] := by unfold enc; rw [if_pos h]
theorem enc2 {r : Nat} (h0 : 128 ≤ r) (h : r < 2048) : enc r = [192 + r / 64, 128 + r % 64] := by unfold enc; rw [if_neg (by omega), if_pos h]
theorem enc3 {r : Nat} (h0 : 2048 ≤ r) (h : r < 65536) : enc r = [224 + r / 4096, 128 + r / 64 % 64, 128 + r % 64] := by unfold enc; rw [if_neg (by omega), if_neg (by omega), if_pos h]
theorem enc4 {r : Nat} (h0 : 65536 ≤ r) : enc r = [240 + r / 262144, 128 + r / 4096 % 64, 128 + r / 64 % 64, 128 + r % 64] := by unfold enc; rw [if_neg (by omega), if_neg (by omega), if_neg (by omega)]
theorem enc_cases (r : Nat) : (r < 128 ∧ enc r = [r]) ∨ (128 ≤ r ∧ r < 2048 ∧ enc r = [192 + r / 64, 128 + r % 64]) ∨ (2048 ≤ r ∧ r < 65536 ∧ enc r = [224 + r / 4096, 128 + r / 64 % 64, 128 + r % 64]) ∨ (65536 ≤ r ∧ enc r = [240 + r / 262144, 128 + r / 4096 % 64, 128 + r / 64 % 64, 128 + r % 64]) := by
  by_cases h1 : r < 128
  · exact .inl ⟨h1, enc1 h1⟩
  · by_cases h2 : r < 2048
    · exact .inr (.inl ⟨by omega, h2, enc2 (by omega) h2⟩)
    · by_cases h3 : r < 65536
      · exact .inr (.inr (.inl ⟨by omega, h3, enc3 (by omega) h3⟩))
      · exact .inr (.inr (.inr ⟨by omega, enc4 (by omega)⟩))
/-- Each byte of a rune of more than one is high; behind the first one they go on. -/
theorem enc_head (r : Nat) : ∃ x l, enc r = x :: l ∧ (x < 128 ∨ 192 ≤ x) ∧ ∀ y ∈ l, 128 ≤ y ∧ y < 192 := by
  rcases enc_cases r with ⟨h, e⟩ | ⟨h, h2, e⟩ | ⟨h, h2, e⟩ | ⟨h, e⟩ <;> rw [e] <;> refine ⟨_, _, rfl, by omega, fun y hy => ?_⟩ <;> simp at hy <;> omega
theorem enc_low (r x : Nat) (h : x < 128) : x ∈ enc r ↔ x = r := by
  rcases enc_cases r with ⟨h1, e⟩ | ⟨h1, h2, e⟩ | ⟨h1, h2, e⟩ | ⟨h1, e⟩ <;> rw [e] <;> simp <;> omega
theorem chunk (s : ByteArray) (i : Nat) (hi : i < s.size) (h : okAt s i = true) : (L s).drop i = enc (rune s i) ++ (L s).drop (i + wid s i) ∧ Good (rune s i) := by
  have h0 := b_lt s i
  rcases (okAt_iff s i).1 h with ⟨a1, a2, a3⟩ | ⟨a1, a2, c1, d, a3, a4⟩ | ⟨a1, a2, c1, c2', d, d2, a3, a4⟩ | ⟨a1, a2, c1, c2', c3', d, d2, a3, a4⟩
  · rw [a3, a2, enc1 a1, L_drop s i hi]
    exact ⟨rfl, by unfold Good; omega⟩
  · have k1 := (cont_iff s _).1 c1
    have hb : c2 s i < 2048 := by unfold c2; omega
    rw [a4, a3, enc2 d hb, L_drop s i hi, L_drop s (i + 1) k1.1]
    refine ⟨?_, by unfold Good; omega⟩
    have e1 : 192 + c2 s i / 64 = b s i := by unfold c2; omega
    have e2 : 128 + c2 s i % 64 = b s (i + 1) := by unfold c2; omega
    rw [e1, e2]; rfl
  · have k1 := (cont_iff s _).1 c1
    have k2 := (cont_iff s _).1 c2'
    have hb : c3 s i < 65536 := by unfold c3; omega
    rw [a4, a3, enc3 d hb, L_drop s i hi, L_drop s (i + 1) k1.1, L_drop s (i + 1 + 1) k2.1]
    refine ⟨?_, by unfold Good; omega⟩
    have e1 : 224 + c3 s i / 4096 = b s i := by unfold c3; omega
    have e2 : 128 + c3 s i / 64 % 64 = b s (i + 1) := by unfold c3; omega
    have e3 : 128 + c3 s i % 64 = b s (i + 2) := by unfold c3; omega
    rw [e1, e2, e3]; rfl
  · have k1 := (cont_iff s _).1 c1
    have k2 := (cont_iff s _).1 c2'
    have k3 := (cont_iff s _).1 c3'
    rw [a4, a3, enc4 d, L_drop s i hi, L_drop s (i + 1) k1.1, L_drop s (i + 1 + 1) k2.1, L_drop s (i + 1 + 1 + 1) k3.1]
    refine ⟨?_, by unfold Good; omega⟩
    have e1 : 240 + c4 s i / 262144 = b s i := by unfold c4; omega
    have e2 : 128 + c4 s i / 4096 % 64 = b s (i + 1) := by unfold c4; omega
    have e3 : 128 + c4 s i / 64 % 64 = b s (i + 2) := by unfold c4; omega
    have e4 : 128 + c4 s i % 64 = b s (i + 3) := by unfold c4; omega
    rw [e1, e2, e3, e4]; rfl
theorem said_row (s : ByteArray) : ∀ (f i : Nat), s.size - i ≤ f → (rest s i).isSome = true → (L s).drop i = (row s i).flatMap enc ∧ ∀ r ∈ row s i, Good r
  | f, i, hf, h => by
    by_cases hi : i < s.size
    · have hw := wid_pos s i hi
      cases f with
      | zero => omega
      | succ f =>
        rw [rest_step s i hi] at h
        cases ho : okAt s i with
        | false => rw [ho] at h; cases h
        | true =>
          rw [ho, if_pos rfl, Option.isSome_map] at h
          obtain ⟨h1, h2⟩ := chunk s i hi ho
          obtain ⟨h3, h4⟩ := said_row s f (i + wid s i) (by omega) h
          rw [h1, row_step s i hi, h3]
          refine ⟨rfl, fun r hr => ?_⟩
          rcases List.mem_cons.1 hr with rfl | hr
          · exact h2
          · exact h4 r hr
    · rw [row_end s i (by omega), List.drop_of_length_le (by rw [L_len]; omega)]
      exact ⟨rfl, fun r hr => by cases hr⟩
/-- A valid text's bytes are its runes' bytes. -/
theorem said (s : ByteArray) (h : valid s = true) : L s = (runes s).flatMap enc ∧ ∀ r ∈ runes s, Good r := by
  have := said_row s s.size 0 (by omega) h
  rw [List.drop_zero] at this
  exact this
theorem dec_enc (s : ByteArray) (i r : Nat) (l : List Nat) (hr : Good r) (h : (L s).drop i = enc r ++ l) : i < s.size ∧ Utf8.decode s i = (r, (enc r).length) ∧ (L s).drop (i + (enc r).length) = l := by
  unfold Good at hr
  rcases enc_cases r with ⟨h1, e⟩ | ⟨h1, h2, e⟩ | ⟨h1, h2, e⟩ | ⟨h1, e⟩ <;> rw [e] at h ⊢
  · obtain ⟨k0, b0, h⟩ := L_undrop h
    refine ⟨k0, ?_, h⟩
    rw [dec1 s i (by omega), b0]; rfl
  · obtain ⟨k0, b0, h⟩ := L_undrop h
    obtain ⟨k1, b1, h⟩ := L_undrop h
    have hc : c2 s i = r := by unfold c2; omega
    refine ⟨k0, ?_, h⟩
    rw [dec2 s i (by omega) (by omega) ((cont_iff s _).2 ⟨k1, by omega, by omega⟩) (by omega), hc]; rfl
  · obtain ⟨k0, b0, h⟩ := L_undrop h
    obtain ⟨k1, b1, h⟩ := L_undrop h
    obtain ⟨k2, b2, h⟩ := L_undrop h
    rw [show i + 1 + 1 = i + 2 from rfl] at k2 b2
    have hc : c3 s i = r := by unfold c3; omega
    refine ⟨k0, ?_, h⟩
    rw [dec3 s i (by omega) (by omega) ((cont_iff s _).2 ⟨k1, by omega, by omega⟩) ((cont_iff s _).2 ⟨k2, by omega, by omega⟩) (by omega) (by omega), hc]; rfl
  · obtain ⟨k0, b0, h⟩ := L_undrop h
    obtain ⟨k1, b1, h⟩ := L_undrop h
    obtain ⟨k2, b2, h⟩ := L_undrop h
    obtain ⟨k3, b3, h⟩ := L_undrop h
    rw [show i + 1 + 1 = i + 2 from rfl] at k2 b2
    rw [show i + 1 + 1 + 1 = i + 3 from rfl] at k3 b3
    have hc : c4 s i = r := by unfold c4; omega
    refine ⟨k0, ?_, h⟩
    rw [dec4 s i (by omega) (by omega) ((cont_iff s _).2 ⟨k1, by omega, by omega⟩) ((cont_iff s _).2 ⟨k2, by omega, by omega⟩) ((cont_iff s _).2 ⟨k3, by omega, by omega⟩) (by omega) (by omega), hc]; rfl
theorem row_of (s : ByteArray) : ∀ (rs : List Nat) (i : Nat), (∀ r ∈ rs, Good r) → (L s).drop i = rs.flatMap enc → (rest s i).isSome = true ∧ row s i = rs
  | [], i, _, h => by
    have hi : s.size ≤ i := by
      rcases Nat.lt_or_ge i s.size with h1 | h1
      · rw [L_drop s i h1] at h; cases h
      · exact h1
    rw [rest_end s i hi, row_end s i hi]
    exact ⟨rfl, rfl⟩
  | r :: rs, i, hg, h => by
    obtain ⟨h1, h2, h3⟩ := dec_enc s i r (rs.flatMap enc) (hg r (by simp)) h
    have hr : rune s i = r := by unfold rune; rw [h2]
    have hw : wid s i = (enc r).length := by unfold wid; rw [h2]
    have ho : okAt s i = true := by
      unfold okAt
      rw [h2]
      rcases enc_cases r with ⟨a, e⟩ | ⟨a, a2, e⟩ | ⟨a, a2, e⟩ | ⟨a, e⟩ <;> rw [e] <;> simp
      omega
    obtain ⟨h4, h5⟩ := row_of s rs (i + (enc r).length) (fun r hr => hg r (by simp [hr])) h3
    rw [rest_step s i h1, ho, if_pos rfl, row_step s i h1, hr, hw, Option.isSome_map, h5]
    exact ⟨h4, rfl⟩
/-- What is put together of runes' bytes is a valid text, and these are its runes. -/
theorem of_said {s : ByteArray} {rs : List Nat} (hg : ∀ r ∈ rs, Good r) (h : L s = rs.flatMap enc) : valid s = true ∧ runes s = rs := row_of s rs 0 hg (by rw [List.drop_zero]; exact h)
theorem runes_inj {s t : ByteArray} (hs : valid s = true) (ht : valid t = true) (h : runes s = runes t) : s = t := L_inj (by rw [(said s hs).1, (said t ht).1, h])
theorem runes_app {s t : ByteArray} (hs : valid s = true) (ht : valid t = true) : valid (s ++ t) = true ∧ runes (s ++ t) = runes s ++ runes t := by
  refine of_said (fun r hr => ?_) (by rw [L_app, (said s hs).1, (said t ht).1, List.flatMap_append])
  rcases List.mem_append.1 hr with h | h
  · exact (said s hs).2 r h
  · exact (said t ht).2 r h
theorem app_valid {s t : ByteArray} (hs : valid s = true) : valid (s ++ t) = valid t := Nm.valid_app s t hs
/-- A byte below 128. -/
theorem low_mem {s : ByteArray} (hs : valid s = true) (x : Nat) (hx : x < 128) : x ∈ L s ↔ x ∈ runes s := by
  rw [(said s hs).1, List.mem_flatMap]
  constructor
  · rintro ⟨r, hr, h⟩
    rw [(enc_low r x hx).1 h]; exact hr
  · intro h
    exact ⟨x, h, (enc_low x x hx).2 rfl⟩
theorem one_low (c : UInt8) (h : c.toNat < 128) : valid ⟨#[c]⟩ = true ∧ runes ⟨#[c]⟩ = [c.toNat] := by
  refine of_said (fun r hr => ?_) ?_
  · simp at hr; unfold Good; omega
  · show [c.toNat] = _
    simp [enc1 h]
/-- The places between runes. -/
theorem split_at : ∀ (rs : List Nat) (i : Nat), i ≤ (rs.flatMap enc).length → (∀ x, (rs.flatMap enc)[i]? = some x → x < 128 ∨ 192 ≤ x) → ∃ r1 r2, rs = r1 ++ r2 ∧ (r1.flatMap enc).length = i
  | [], i, h, _ => ⟨[], [], rfl, by simp at h; simp [h]⟩
  | r :: rs, i, h, hx => by
    by_cases h0 : i = 0
    · exact ⟨[], r :: rs, rfl, by rw [h0]; rfl⟩
    · obtain ⟨x, l, he, _, hl⟩ := enc_head r
      rw [List.flatMap_cons] at h hx
      rw [List.length_append] at h
      by_cases hi : i < (enc r).length
      · have hxi : (enc r ++ rs.flatMap enc)[i]? = (enc r)[i]? := List.getElem?_append_left hi
        rw [he] at hi hxi
        have hi' : i - 1 < l.length := by simp at hi; omega
        have e : (x :: l)[i]? = some l[i - 1] := by
          rw [List.getElem?_cons, if_neg h0, List.getElem?_eq_getElem hi']
        have h1 := hx l[i - 1] (by rw [he, hxi, e])
        have h2 := hl l[i - 1] (List.getElem_mem _)
        omega
      · obtain ⟨r1, r2, h1, h2⟩ := split_at rs (i - (enc r).length) (by omega) (fun x h => hx x (by rw [List.getElem?_append_right (by omega)]; exact h))
        refine ⟨r :: r1, r2, by rw [h1]; rfl, ?_⟩
        rw [List.flatMap_cons, List.length_append, h2]
        omega
/-- A valid text in two, at a byte that begins a rune, or at its end. -/
theorem cut_at {s : ByteArray} (hs : valid s = true) (i : Nat) (hi : i ≤ s.size) (hb : i < s.size → b s i < 128 ∨ 192 ≤ b s i) :
    valid (s.extract 0 i) = true ∧ valid (s.extract i s.size) = true ∧ runes s = runes (s.extract 0 i) ++ runes (s.extract i s.size) := by
  obtain ⟨h1, h2⟩ := said s hs
  have hl : ((runes s).flatMap enc).length = s.size := by rw [← h1, L_len]
  obtain ⟨r1, r2, e1, e2⟩ := split_at (runes s) i (by omega) (fun x hx => by
    rw [← h1] at hx
    have hlt : i < s.size := by
      have := (List.getElem?_eq_some_iff.1 hx).1
      rwa [L_len] at this
    rw [L_at s i hlt] at hx
    injection hx with hx
    rw [← hx]; exact hb hlt)
  rw [e1, List.flatMap_append] at h1
  rw [e1] at h2
  obtain ⟨a1, a2⟩ := of_said (s := s.extract 0 i) (rs := r1) (fun r hr => h2 r (by simp [hr])) (by rw [L_front, h1, List.take_left' e2])
  obtain ⟨c1, c2⟩ := of_said (s := s.extract i s.size) (rs := r2) (fun r hr => h2 r (by simp [hr])) (by rw [L_back, h1, List.drop_left' e2])
  exact ⟨a1, c1, by rw [e1, a2, c2]⟩
/-- A text in two. -/
theorem extract_two (s : ByteArray) (i : Nat) (hi : i ≤ s.size) : s.extract 0 i ++ s.extract i s.size = s := L_inj (by rw [L_app, L_front, L_back, List.take_append_drop])
/-- .. a valid one whose front is valid. -/
theorem cut_valid {s : ByteArray} (hs : valid s = true) (i : Nat) (hi : i ≤ s.size) (h : valid (s.extract 0 i) = true) : valid (s.extract i s.size) = true ∧ runes s = runes (s.extract 0 i) ++ runes (s.extract i s.size) := by
  have e := extract_two s i hi
  have hv : valid (s.extract i s.size) = true := by rw [← app_valid h, e]; exact hs
  exact ⟨hv, by rw [← (runes_app h hv).2, e]⟩
/-- Some first runes of a valid text are a valid text. -/
theorem front_of {s : ByteArray} (hs : valid s = true) {r1 r2 : List Nat} (h : runes s = r1 ++ r2) : ∃ i, i ≤ s.size ∧ valid (s.extract 0 i) = true ∧ valid (s.extract i s.size) = true ∧ runes (s.extract 0 i) = r1 ∧ runes (s.extract i s.size) = r2 ∧ i = (r1.flatMap enc).length := by
  obtain ⟨h1, h2⟩ := said s hs
  rw [h, List.flatMap_append] at h1
  rw [h] at h2
  have hl : (r1.flatMap enc).length ≤ s.size := by rw [← L_len, h1, List.length_append]; omega
  obtain ⟨a1, a2⟩ := of_said (s := s.extract 0 (r1.flatMap enc).length) (rs := r1) (fun r hr => h2 r (by simp [hr])) (by rw [L_front, h1, List.take_left' rfl])
  obtain ⟨c1, c2⟩ := of_said (s := s.extract (r1.flatMap enc).length s.size) (rs := r2) (fun r hr => h2 r (by simp [hr])) (by rw [L_back, h1, List.drop_left' rfl])
  exact ⟨_, hl, a1, c1, a2, c2, rfl⟩
theorem enc_pos (rs : List Nat) (h : rs ≠ []) : 0 < (rs.flatMap enc).length := by
  cases rs with
  | nil => exact absurd rfl h
  | cons r rs =>
    obtain ⟨x, l, he, _⟩ := enc_head r
    rw [List.flatMap_cons, he]
    simp
end Go.Proofs.YtmpbejiknejogaaDoor.Uf
