/-
  Plain law on hexadecimal digits: what is encoded decodes to itself, and the other way about; texts one behind the other; the order. No program in sight.
-/
import Derived.Test.YtflfmacfodkedaaDoorHexPlain
import Derived.Laws.Strings
namespace Go.Proofs.YtflfmacfodkedaaDoor.Hx
set_option linter.unusedSimpArgs false
set_option linter.unusedVariables false

theorem bytes_ext {a b : ByteArray} (h : a.data.toList = b.data.toList) : a = b := by
  obtain ⟨⟨x⟩⟩ := a; obtain ⟨⟨y⟩⟩ := b; simp at h; subst h; rfl
theorem byteAt_list (s : ByteArray) (k : Nat) : s.data.toList[k]? = if k < s.size then some (byteAt s k) else none := by
  by_cases h : k < s.size
  · have h' : k < s.data.toList.length := by rw [Array.length_toList]; exact h
    rw [if_pos h, List.getElem?_eq_getElem h', byteAt_lt s k h]; rfl
  · rw [if_neg h, List.getElem?_eq_none (by rw [Array.length_toList]; exact Nat.le_of_not_lt h)]
theorem byteAt_of (s : ByteArray) (k : Nat) (c : UInt8) (h : s.data.toList[k]? = some c) : k < s.size ∧ byteAt s k = c := by
  rw [byteAt_list] at h
  split at h
  · rename_i hk
    exact ⟨hk, Option.some.inj h⟩
  · cases h
theorem val_hexd (n : Nat) (h : n < 16) : val (hexd n) = n := by
  have : ∀ j : Fin 16, val (hexd j) = (j.val : Int) := by decide
  exact this ⟨n, h⟩
theorem hexd_val (c : UInt8) (h : 0 ≤ val c) : hexd (val c).toNat = c := by
  have hb := c.toNat_lt
  unfold val at h ⊢
  split
  · rename_i h1
    unfold hexd
    rw [if_pos (by omega), show 48 + ((c.toNat : Int) - 48).toNat = c.toNat by omega]
    simp
  · rename_i h1
    rw [if_neg h1] at h
    split
    · rename_i h2
      unfold hexd
      rw [if_neg (by omega), show 87 + ((c.toNat : Int) - 87).toNat = c.toNat by omega]
      simp
    · rename_i h2
      rw [if_neg h2] at h
      omega
theorem enc_size (s : ByteArray) : (enc s).size = 2 * s.size := by
  show (encTo s s.size).toArray.size = _
  rw [List.size_toArray, encTo_length]
theorem encTo_at (s : ByteArray) : ∀ n k, k < n → (encTo s n)[2 * k]? = some (hexd ((byteAt s k).toNat / 16)) ∧ (encTo s n)[2 * k + 1]? = some (hexd ((byteAt s k).toNat % 16))
  | 0, k, h => by omega
  | n + 1, k, h => by
    by_cases hk : k < n
    · obtain ⟨h1, h2⟩ := encTo_at s n k hk
      simp only [encTo]
      rw [List.getElem?_append_left (by rw [encTo_length]; omega), List.getElem?_append_left (by rw [encTo_length]; omega)]
      exact ⟨h1, h2⟩
    · obtain rfl : k = n := by omega
      simp only [encTo]
      rw [List.getElem?_append_right (by rw [encTo_length]; omega), List.getElem?_append_right (by rw [encTo_length]; omega), encTo_length, Nat.sub_self, show 2 * k + 1 - 2 * k = 1 by omega]
      exact ⟨rfl, rfl⟩
theorem enc_at (s : ByteArray) (k : Nat) (h : k < s.size) : byteAt (enc s) (2 * k) = hexd ((byteAt s k).toNat / 16) ∧ byteAt (enc s) (2 * k + 1) = hexd ((byteAt s k).toNat % 16) := by
  obtain ⟨h1, h2⟩ := encTo_at s s.size k h
  exact ⟨(byteAt_of (enc s) _ _ h1).2, (byteAt_of (enc s) _ _ h2).2⟩
theorem enc_dg (s : ByteArray) (k : Nat) (h : k < s.size) :
    (dgB (enc s) ((2 * k : Nat) : Int) = true ∧ dgV (enc s) ((2 * k : Nat) : Int) = ((byteAt s k).toNat / 16 : Nat)) ∧ (dgB (enc s) ((2 * k + 1 : Nat) : Int) = true ∧ dgV (enc s) ((2 * k + 1 : Nat) : Int) = ((byteAt s k).toNat % 16 : Nat)) := by
  have hb := (byteAt s k).toNat_lt
  obtain ⟨h1, h2⟩ := enc_at s k h
  have hs := enc_size s
  have k1 : 2 * k < (enc s).size := by omega
  have k2 : 2 * k + 1 < (enc s).size := by omega
  rw [byteAt_lt _ _ k1] at h1
  rw [byteAt_lt _ _ k2] at h2
  have v1 := val_hexd ((byteAt s k).toNat / 16) (by omega)
  have v2 := val_hexd ((byteAt s k).toNat % 16) (by omega)
  rw [← h1] at v1
  rw [← h2] at v2
  obtain ⟨a1, a2⟩ := dg_yes (enc s) (2 * k) k1 (by rw [v1]; omega)
  obtain ⟨b1, b2⟩ := dg_yes (enc s) (2 * k + 1) k2 (by rw [v2]; omega)
  exact ⟨⟨a1, by rw [a2, v1]⟩, ⟨b1, by rw [b2, v2]⟩⟩
theorem isTo_of (s : ByteArray) : ∀ n : Nat, (∀ k : Nat, k < n → dgB s k = true) → isTo s n = true
  | 0, _ => rfl
  | n + 1, h => by simp only [isTo, Bool.and_eq_true]; exact ⟨isTo_of s n fun k hk => h k (by omega), h n (by omega)⟩
/-- What is encoded are digits. -/
theorem enc_isHex (s : ByteArray) : isHex (enc s) = true := by
  refine isTo_of _ _ fun k hk => ?_
  rw [enc_size] at hk
  obtain ⟨h1, h2⟩ := enc_dg s (k / 2) (by omega)
  rcases Nat.mod_two_eq_zero_or_one k with h | h
  · rw [show 2 * (k / 2) = k by omega] at h1; exact h1.1
  · rw [show 2 * (k / 2) + 1 = k by omega] at h2; exact h2.1
theorem list_take_succ (s : ByteArray) (k : Nat) (h : k < s.size) : s.data.toList.take (k + 1) = s.data.toList.take k ++ [byteAt s k] := by
  rw [List.take_add_one, byteAt_list, if_pos h]; rfl
theorem decTo_enc (s : ByteArray) : ∀ k, k ≤ s.size → decTo (enc s) k = s.data.toList.take k
  | 0, _ => rfl
  | k + 1, h => by
    have hb := (byteAt s k).toNat_lt
    obtain ⟨⟨_, h1⟩, ⟨_, h2⟩⟩ := enc_dg s k (by omega)
    rw [list_take_succ s k (by omega), decTo, decTo_enc s k (by omega), show (2 * (k : Int)) = ((2 * k : Nat) : Int) by omega, show (((2 * k : Nat) : Int) + 1) = ((2 * k + 1 : Nat) : Int) by omega, h1, h2]
    congr 2
    rw [show (16 * (((byteAt s k).toNat / 16 : Nat) : Int) + (((byteAt s k).toNat % 16 : Nat) : Int)).toNat = (byteAt s k).toNat by omega]
    simp
theorem dec_enc (s : ByteArray) : dec (enc s) = s ∧ decE (enc s) = 0 := by
  have e2 : (enc s).size % 2 = 0 := by rw [enc_size]; omega
  refine ⟨?_, by unfold decE; rw [enc_isHex, if_pos rfl, e2]; rfl⟩
  unfold dec
  rw [enc_isHex, e2, show (enc s).size / 2 = s.size by rw [enc_size]; omega, decTo_enc s _ (Nat.le_refl _)]
  refine bytes_ext ?_
  show List.take s.size s.data.toList = _
  exact List.take_of_length_le (by rw [Array.length_toList]; exact Nat.le_refl _)
theorem decTo_at (t : ByteArray) : ∀ n k, k < n → (decTo t n)[k]? = some (UInt8.ofNat (16 * dgV t (2 * (k : Int)) + dgV t (2 * (k : Int) + 1)).toNat)
  | 0, k, h => by omega
  | n + 1, k, h => by
    simp only [decTo]
    by_cases hk : k < n
    · rw [List.getElem?_append_left (by rw [decTo_length]; omega)]
      exact decTo_at t n k hk
    · obtain rfl : k = n := by omega
      rw [List.getElem?_append_right (by rw [decTo_length]; omega), decTo_length, Nat.sub_self]; rfl
theorem dec_of (t : ByteArray) (h : decE t = 0) : isHex t = true ∧ t.size % 2 = 0 ∧ dec t = ⟨(decTo t (t.size / 2)).toArray⟩ := by
  unfold decE at h
  cases hh : isHex t with
  | false => rw [hh] at h; simp at h
  | true =>
    rw [hh] at h
    by_cases h2 : t.size % 2 = 0
    · refine ⟨rfl, h2, ?_⟩
      unfold dec
      rw [hh, h2]; rfl
    · rw [if_pos rfl, if_neg (by simpa using h2)] at h
      omega
theorem dec_no (t : ByteArray) (h : decE t ≠ 0) : dec t = ByteArray.empty := by
  unfold decE at h
  unfold dec
  cases hh : isHex t with
  | false => rfl
  | true =>
    rw [hh] at h
    by_cases h2 : t.size % 2 = 0
    · rw [if_pos rfl, if_pos (by simpa using h2)] at h
      exact absurd rfl h
    · rw [if_neg (by simpa using h2)]
theorem dec_size (t : ByteArray) (h : decE t = 0) : (dec t).size = t.size / 2 := by
  rw [(dec_of t h).2.2]
  show (decTo t (t.size / 2)).toArray.size = _
  rw [List.size_toArray, decTo_length]
theorem nib (t : ByteArray) (k : Nat) (h : k < t.size) (hh : isHex t = true) : hexd (dgV t (k : Int)).toNat = byteAt t k := by
  have e := isTo_at t t.size k h hh
  have hv : 0 ≤ val t[k] := by rw [dg_in t k h] at e; exact of_decide_eq_true e
  rw [(dg_yes t k h hv).2, byteAt_lt t k h, hexd_val _ hv]
theorem encTo_dec (t : ByteArray) (h : decE t = 0) : ∀ k, 2 * k ≤ t.size → encTo (dec t) k = t.data.toList.take (2 * k)
  | 0, _ => rfl
  | k + 1, hk => by
    obtain ⟨hh, h2, hd⟩ := dec_of t h
    have r1 := dgV_range t (2 * k : Nat)
    have r2 := dgV_range t (2 * k + 1 : Nat)
    have hb : byteAt (dec t) k = UInt8.ofNat (16 * dgV t (2 * (k : Int)) + dgV t (2 * (k : Int) + 1)).toNat := by
      refine (byteAt_of (dec t) k _ ?_).2
      rw [hd]
      exact decTo_at t _ k (by omega)
    rw [show (2 * (k : Int)) = ((2 * k : Nat) : Int) by omega, show (((2 * k : Nat) : Int) + 1) = ((2 * k + 1 : Nat) : Int) by omega] at hb
    have hn : (byteAt (dec t) k).toNat = (16 * dgV t (2 * k : Nat) + dgV t (2 * k + 1 : Nat)).toNat := by
      rw [hb, UInt8.toNat_ofNat', Nat.mod_eq_of_lt (by omega)]
    rw [show 2 * (k + 1) = 2 * k + 1 + 1 by omega, list_take_succ t (2 * k + 1) (by omega), list_take_succ t (2 * k) (by omega), encTo, encTo_dec t h k (by omega), hn,
      show (16 * dgV t (2 * k : Nat) + dgV t (2 * k + 1 : Nat)).toNat / 16 = (dgV t (2 * k : Nat)).toNat by omega,
      show (16 * dgV t (2 * k : Nat) + dgV t (2 * k + 1 : Nat)).toNat % 16 = (dgV t (2 * k + 1 : Nat)).toNat by omega, nib t _ (by omega) hh, nib t _ (by omega) hh]
    simp
theorem enc_dec (t : ByteArray) (h : decE t = 0) : enc (dec t) = t := by
  obtain ⟨_, h2, _⟩ := dec_of t h
  unfold enc
  rw [dec_size t h, encTo_dec t h _ (by omega)]
  refine bytes_ext ?_
  show List.take (2 * (t.size / 2)) t.data.toList = _
  exact List.take_of_length_le (by rw [Array.length_toList]; show t.size ≤ _; omega)

/-! ### One behind the other -/
theorem app_size (s t : ByteArray) : (s ++ t).size = s.size + t.size := by simp
theorem byteAt_app (s t : ByteArray) (k : Nat) : byteAt (s ++ t) k = if k < s.size then byteAt s k else byteAt t (k - s.size) := by
  have e : (s ++ t).data.toList = s.data.toList ++ t.data.toList := by rw [ByteArray.data_append, Array.toList_append]
  by_cases hk : k < s.size + t.size
  · refine (byteAt_of (s ++ t) k _ ?_).2
    rw [e]
    by_cases h : k < s.size
    · rw [if_pos h, List.getElem?_append_left (by rw [Array.length_toList]; exact h), byteAt_list, if_pos h]
    · rw [if_neg h, List.getElem?_append_right (by rw [Array.length_toList]; exact Nat.le_of_not_lt h), byteAt_list, Array.length_toList]
      exact if_pos (by show k - s.size < t.size; omega)
  · have h1 : byteAt (s ++ t) k = 0 := by unfold byteAt; rw [dif_neg (by rw [app_size]; exact hk)]
    rw [h1, if_neg (by omega)]
    unfold byteAt
    rw [dif_neg (by omega)]
theorem encTo_app1 (s t : ByteArray) : ∀ k, k ≤ s.size → encTo (s ++ t) k = encTo s k
  | 0, _ => rfl
  | k + 1, h => by simp only [encTo, encTo_app1 s t k (by omega), byteAt_app s t k, if_pos (show k < s.size by omega)]
theorem encTo_app2 (s t : ByteArray) : ∀ k, encTo (s ++ t) (s.size + k) = encTo s s.size ++ encTo t k
  | 0 => by rw [Nat.add_zero, encTo_app1 s t _ (Nat.le_refl _)]; simp [encTo]
  | k + 1 => by
    rw [show s.size + (k + 1) = (s.size + k) + 1 by omega]
    simp only [encTo, encTo_app2 s t k, byteAt_app s t (s.size + k), if_neg (show ¬ s.size + k < s.size by omega), show s.size + k - s.size = k by omega, List.append_assoc]
theorem enc_app (s t : ByteArray) : enc (s ++ t) = enc s ++ enc t := by
  refine bytes_ext ?_
  rw [ByteArray.data_append, Array.toList_append]
  show encTo (s ++ t) (s ++ t).size = encTo s s.size ++ encTo t t.size
  rw [app_size, encTo_app2]
theorem dgB_app (s t : ByteArray) (k : Nat) : dgB (s ++ t) k = if k < s.size then dgB s k else dgB t ((k - s.size : Nat) : Int) := by
  unfold dgB
  rw [Int.toNat_natCast, Int.toNat_natCast, byteAt_app, app_size]
  by_cases h : k < s.size
  · rw [if_pos h, if_pos h, decide_eq_true (p := (k : Int) < ((s.size + t.size : Nat) : Int)) (by omega), decide_eq_true (p := (k : Int) < (s.size : Int)) (by omega)]
  · rw [if_neg h, if_neg h, decide_eq_true (p := (0 : Int) ≤ (k : Int)) (by omega), decide_eq_true (p := (0 : Int) ≤ ((k - s.size : Nat) : Int)) (by omega)]
    congr 2
    exact decide_eq_decide.2 (by omega)
theorem isTo_app1 (s t : ByteArray) : ∀ k, k ≤ s.size → isTo (s ++ t) k = isTo s k
  | 0, _ => rfl
  | k + 1, h => by simp only [isTo, isTo_app1 s t k (by omega), dgB_app s t k, if_pos (show k < s.size by omega)]
theorem isTo_app2 (s t : ByteArray) : ∀ k, isTo (s ++ t) (s.size + k) = (isTo s s.size && isTo t k)
  | 0 => by rw [Nat.add_zero, isTo_app1 s t _ (Nat.le_refl _)]; simp [isTo]
  | k + 1 => by
    rw [show s.size + (k + 1) = (s.size + k) + 1 by omega]
    simp only [isTo, isTo_app2 s t k]
    have := dgB_app s t (s.size + k)
    rw [if_neg (show ¬ s.size + k < s.size by omega), show s.size + k - s.size = k by omega] at this
    rw [this, Bool.and_assoc]
theorem isHex_app (s t : ByteArray) : isHex (s ++ t) = (isHex s && isHex t) := by
  unfold isHex
  rw [app_size, isTo_app2]

/-! ### The order -/
def e2 (c : UInt8) : List UInt8 := [hexd (c.toNat / 16), hexd (c.toNat % 16)]
theorem encTo_flat (s : ByteArray) : ∀ k, k ≤ s.size → encTo s k = (s.data.toList.take k).flatMap e2
  | 0, _ => rfl
  | k + 1, h => by rw [list_take_succ s k (by omega), List.flatMap_append, ← encTo_flat s k (by omega)]; rfl
theorem enc_flat (s : ByteArray) : (enc s).data.toList = s.data.toList.flatMap e2 := by
  show encTo s s.size = _
  rw [encTo_flat s _ (Nat.le_refl _), List.take_of_length_le (by rw [Array.length_toList]; exact Nat.le_refl _)]
theorem hexd_lt (m n : Nat) (hm : m < 16) (hn : n < 16) : (decide (hexd m < hexd n) = decide (m < n)) ∧ ((hexd m == hexd n) = (m == n)) := by
  have : ∀ i j : Fin 16, (decide (hexd i < hexd j) = decide (i.val < j.val)) ∧ ((hexd i == hexd j) = (i.val == j.val)) := by decide
  exact this ⟨m, hm⟩ ⟨n, hn⟩
theorem less_step (a b : UInt8) (X Y : List UInt8) :
    Go.Op.bytesLess (hexd (a.toNat / 16) :: hexd (a.toNat % 16) :: X) (hexd (b.toNat / 16) :: hexd (b.toNat % 16) :: Y) = (decide (a < b) || (a == b && Go.Op.bytesLess X Y)) := by
  have ha := a.toNat_lt
  have hb := b.toNat_lt
  obtain ⟨p1, p2⟩ := hexd_lt (a.toNat / 16) (b.toNat / 16) (by omega) (by omega)
  obtain ⟨q1, q2⟩ := hexd_lt (a.toNat % 16) (b.toNat % 16) (by omega) (by omega)
  simp only [Go.Op.bytesLess, p1, p2, q1, q2]
  have e1 : decide (a < b) = decide (a.toNat < b.toNat) := decide_eq_decide.2 UInt8.lt_iff_toNat_lt
  have e2 : (a == b) = (a.toNat == b.toNat) := by
    rw [Bool.eq_iff_iff, beq_iff_eq, beq_iff_eq]
    exact ⟨fun h => by rw [h], fun h => UInt8.toNat_inj.1 h⟩
  rw [e1, e2]
  rcases Nat.lt_trichotomy a.toNat b.toNat with h | h | h
  · rw [decide_eq_true h]
    rcases Nat.lt_or_ge (a.toNat / 16) (b.toNat / 16) with h1 | h1
    · rw [decide_eq_true h1]; rfl
    · rw [show (a.toNat / 16 == b.toNat / 16) = true from beq_iff_eq.2 (by omega), decide_eq_true (p := a.toNat % 16 < b.toNat % 16) (by omega)]; simp
  · rw [h]; simp
  · rw [decide_eq_false (p := a.toNat < b.toNat) (by omega), show (a.toNat == b.toNat) = false from beq_eq_false_iff_ne.2 (by omega), decide_eq_false (p := a.toNat / 16 < b.toNat / 16) (by omega)]
    by_cases h1 : a.toNat / 16 = b.toNat / 16
    · rw [decide_eq_false (p := a.toNat % 16 < b.toNat % 16) (by omega), show (a.toNat % 16 == b.toNat % 16) = false from beq_eq_false_iff_ne.2 (by omega)]; simp
    · rw [show (a.toNat / 16 == b.toNat / 16) = false from beq_eq_false_iff_ne.2 h1]; simp
theorem less_flat : ∀ x y : List UInt8, Go.Op.bytesLess (x.flatMap e2) (y.flatMap e2) = Go.Op.bytesLess x y
  | [], [] => rfl
  | [], b :: y => rfl
  | a :: x, [] => rfl
  | a :: x, b :: y => by
    show Go.Op.bytesLess (hexd (a.toNat / 16) :: hexd (a.toNat % 16) :: x.flatMap e2) (hexd (b.toNat / 16) :: hexd (b.toNat % 16) :: y.flatMap e2) = _
    rw [less_step, less_flat x y]; rfl
theorem enc_less (s t : ByteArray) : Go.Op.bytesLess (enc s).toList (enc t).toList = Go.Op.bytesLess s.toList t.toList := by
  rw [ByteArray.toList_eq, ByteArray.toList_eq, ByteArray.toList_eq, ByteArray.toList_eq, enc_flat, enc_flat, less_flat]
theorem enc_inj (s t : ByteArray) : ((enc s).toList == (enc t).toList) = (s.toList == t.toList) := by
  rw [Bool.eq_iff_iff, beq_iff_eq, beq_iff_eq, ByteArray.toList_eq, ByteArray.toList_eq, ByteArray.toList_eq, ByteArray.toList_eq]
  exact ⟨fun h => by rw [← (dec_enc s).1, ← (dec_enc t).1, bytes_ext h], fun h => by rw [bytes_ext h]⟩

end Go.Proofs.YtflfmacfodkedaaDoor.Hx
