/-
  The program's way (one star at a time, back to the last one) and the document's way (all places at once) of matching, as plain facts on rows of runes. No program in sight.
-/
import Derived.Test.YtcglfpgniifedaaGlob
namespace Go.Proofs.Ytcglfpgniifedaa.Gl
set_option linter.unusedSimpArgs false
set_option linter.unusedVariables false

theorem drop_at {P : List Nat} {t c : Nat} (h : P[t]? = some c) : P.drop t = c :: P.drop (t + 1) := by
  obtain ⟨hl, e⟩ := List.getElem?_eq_some_iff.1 h
  rw [List.drop_eq_getElem_cons hl, e]
theorem gm_cons (c r : Nat) (h : c ≠ 42) (p s : List Nat) : gm (c :: p) (r :: s) = (one c r && gm p s) := by
  rw [gm, if_neg (by simpa using h)]; rfl
theorem gm_cons_nil (c : Nat) (h : c ≠ 42) (p : List Nat) : gm (c :: p) [] = false := by
  rw [gm, if_neg (by simpa using h)]; rfl
theorem gm_star_cons (p s : List Nat) (r : Nat) : gm (42 :: p) (r :: s) = (gm p (r :: s) || (r != 47 && gm (42 :: p) s)) := by
  show star (gm p) (r :: s) = _
  rw [star]; rfl
theorem gm_star_nil (p : List Nat) : gm (42 :: p) [] = gm p [] := rfl
theorem one_slash {c r : Nat} (h : one c r = true) : c = 47 ↔ r = 47 := by
  unfold one at h
  split at h
  · rename_i hc
    simp at h hc
    omega
  · simp at h
    omega
theorem flat_iff : ∀ l : List Nat, flat l = true ↔ ∀ (k r : Nat), l[k]? = some r → r ≠ 47
  | [] => by simp [flat]
  | x :: l => by
    rw [flat, Bool.and_eq_true, flat_iff l]
    constructor
    · rintro ⟨h1, h2⟩ k r h
      cases k with
      | zero => simp at h h1; omega
      | succ k => exact h2 k r (by simpa using h)
    · intro h
      exact ⟨by simpa using h 0 x rfl, fun k r hk => h (k + 1) r (by simpa using hk)⟩
/-- From a and b on, m runes of the pattern, no star among them, stand one by one for runes of the path. -/
def Beside (P S : List Nat) (a b m : Nat) : Prop := ∀ k, k < m → ∃ c r, P[a + k]? = some c ∧ S[b + k]? = some r ∧ c ≠ 42 ∧ one c r = true
theorem Beside.gm {P S : List Nat} {a b : Nat} : ∀ {m : Nat}, Beside P S a b m → gm (P.drop a) (S.drop b) = gm (P.drop (a + m)) (S.drop (b + m))
  | 0, _ => rfl
  | m + 1, h => by
    rw [Beside.gm (m := m) fun k hk => h k (by omega)]
    obtain ⟨c, r, hc, hr, h1, h2⟩ := h m (by omega)
    rw [drop_at hc, drop_at hr, gm_cons c r h1, h2, Bool.true_and]
    rfl
/-- What a match of a pattern whose first m runes are no stars says. -/
theorem lead {P y : List Nat} {a : Nat} : ∀ {m : Nat}, (∀ k, k < m → ∃ c, P[a + k]? = some c ∧ c ≠ 42) → gm (P.drop a) y = true →
    (∀ k, k < m → ∃ c r, P[a + k]? = some c ∧ y[k]? = some r ∧ one c r = true) ∧ gm (P.drop (a + m)) (y.drop m) = true
  | 0, _, h => ⟨fun k hk => by omega, by simpa using h⟩
  | m + 1, hp, h => by
    obtain ⟨h1, h2⟩ := lead (m := m) (fun k hk => hp k (by omega)) h
    obtain ⟨c, hc, hne⟩ := hp m (by omega)
    rw [drop_at hc] at h2
    obtain ⟨r, b, hy, ho, hg⟩ := (gm_one c hne _ _).1 h2
    have hym : y[m]? = some r := by
      have := congrArg (fun l => l[0]?) hy
      simpa using this
    refine ⟨fun k hk => ?_, ?_⟩
    · rcases Nat.lt_or_ge k m with hlt | hge
      · exact h1 k hlt
      · obtain rfl : k = m := by omega
        exact ⟨c, r, hc, hym, ho⟩
    · have hb : y.drop (m + 1) = b := by
        rw [← List.drop_drop, hy]; rfl
      rw [hb]; exact hg

/-- What holds at every round's head. -/
def Inv (P S : List Nat) (i j : Nat) (st : Int) (f : Nat) : Prop :=
  i ≤ P.length ∧ j ≤ S.length ∧
  ((st = -1 ∧ f = 0 ∧ gm P S = gm (P.drop i) (S.drop j)) ∨
   ∃ t : Nat, st = (t : Int) ∧ P[t]? = some 42 ∧ t + 1 ≤ i ∧ f ≤ j ∧ i = t + 1 + (j - f) ∧ gm P S = gm (P.drop t) (S.drop f) ∧ Beside P S (t + 1) f (j - f))
theorem Inv.start (P S : List Nat) : Inv P S 0 0 (-1) 0 := ⟨Nat.zero_le _, Nat.zero_le _, .inl ⟨rfl, rfl, rfl⟩⟩
/-- Neither the end, nor a star, nor a rune that stands for the other one. -/
def Stuck (P S : List Nat) (i j : Nat) : Prop :=
  ¬ (i = P.length ∧ j = S.length) ∧ P[i]? ≠ some 42 ∧ ∀ c r, P[i]? = some c → S[j]? = some r → one c r = false
theorem Stuck.gm {P S : List Nat} {i j : Nat} (h : Stuck P S i j) (hi : i ≤ P.length) (hj : j ≤ S.length) : gm (P.drop i) (S.drop j) = false := by
  obtain ⟨h1, h2, h3⟩ := h
  by_cases hp : i = P.length
  · have hjl : j < S.length := by
      rcases Nat.lt_or_ge j S.length with h | h
      · exact h
      · exact absurd ⟨hp, by omega⟩ h1
    rw [hp, List.drop_length, List.drop_eq_getElem_cons hjl]
    rfl
  · have hil : i < P.length := by omega
    have hc : P[i]? = some P[i] := List.getElem?_eq_getElem hil
    have hne : P[i] ≠ 42 := fun e => h2 (by rw [hc, e])
    rw [drop_at hc]
    by_cases hs : j < S.length
    · have hr : S[j]? = some S[j] := List.getElem?_eq_getElem hs
      rw [drop_at hr, gm_cons _ _ hne, h3 _ _ hc hr]
      rfl
    · have e : S.drop j = [] := List.drop_of_length_le (by omega)
      rw [e, gm_cons_nil _ hne]
theorem Inv.done {P S : List Nat} {st : Int} {f : Nat} (h : Inv P S P.length S.length st f) : Gl.gm P S = true := by
  obtain ⟨_, _, ⟨_, _, h⟩ | ⟨t, _, ht, h1, h2, h3, h, hb⟩⟩ := h
  · rw [h, List.drop_length, List.drop_length]; rfl
  · rw [h, drop_at ht, gm_star]
    refine ⟨[], _, rfl, rfl, ?_⟩
    rw [hb.gm, ← h3, show f + (S.length - f) = S.length by omega, List.drop_length, List.drop_length]
    rfl
theorem Inv.one {P S : List Nat} {i j : Nat} {st : Int} {f c r : Nat} (h : Inv P S i j st f) (hc : P[i]? = some c) (hr : S[j]? = some r) (hne : c ≠ 42) (ho : Gl.one c r = true) : Inv P S (i + 1) (j + 1) st f := by
  have hil : i < P.length := (List.getElem?_eq_some_iff.1 hc).1
  have hjl : j < S.length := (List.getElem?_eq_some_iff.1 hr).1
  obtain ⟨_, _, h⟩ := h
  refine ⟨by omega, by omega, ?_⟩
  rcases h with ⟨h1, h2, h⟩ | ⟨t, e, ht, h1, h2, h3, h, hb⟩
  · refine .inl ⟨h1, h2, ?_⟩
    rw [h, drop_at hc, drop_at hr, gm_cons c r hne, ho, Bool.true_and]
  · refine .inr ⟨t, e, ht, by omega, by omega, by omega, h, fun k hk => ?_⟩
    rcases Nat.lt_or_ge k (j - f) with hlt | hge
    · exact hb k hlt
    · obtain rfl : k = j - f := by omega
      refine ⟨c, r, ?_, ?_, hne, ho⟩
      · rw [← hc, h3]
      · rw [← hr, show f + (j - f) = j by omega]
theorem star_more {q x y : List Nat} (hx : flat x = true) (h : gm (42 :: q) y = true) : gm (42 :: q) (x ++ y) = true := by
  obtain ⟨a, b, rfl, ha, hb⟩ := (gm_star q y).1 h
  exact (gm_star q _).2 ⟨x ++ a, b, by rw [List.append_assoc], by rw [flat_app, hx, ha]; rfl, hb⟩
/-- A new star takes the old one's place. -/
theorem shift {P S : List Nat} {t f m : Nat} (ht : P[t]? = some 42) (hb : Beside P S (t + 1) f m) (hi : P[t + 1 + m]? = some 42) :
    gm (P.drop t) (S.drop f) = gm (P.drop (t + 1 + m)) (S.drop (f + m)) := by
  rw [Bool.eq_iff_iff]
  constructor
  · intro h
    rw [drop_at ht] at h
    obtain ⟨a, b, hS, ha, hg⟩ := (gm_star _ _).1 h
    obtain ⟨h1, h2⟩ := lead (m := m) (fun k hk => by
      obtain ⟨c, _, hc, _, hne, _⟩ := hb k hk
      exact ⟨c, hc, hne⟩) hg
    rw [flat_iff] at ha
    have hSa : ∀ k, k < a.length → S[f + k]? = a[k]? := fun k hk => by
      have := congrArg (fun l => l[k]?) hS
      simpa [List.getElem?_append_left hk] using this
    have hSb : ∀ k, S[f + a.length + k]? = b[k]? := fun k => by
      have := congrArg (fun l => l[a.length + k]?) hS
      simpa [List.getElem?_append_right, Nat.add_assoc] using this
    have hbd : b.drop m = S.drop (f + m + a.length) := by
      apply List.ext_getElem?
      intro k
      rw [List.getElem?_drop, List.getElem?_drop, ← hSb]
      congr 1
      omega
    have hno : ∀ n x, x ≤ n → f ≤ x → x < f + m + a.length → 0 < a.length → S[x]? ≠ some 47 := by
      intro n
      induction n with
      | zero =>
        intro x h0 hf hx hp e
        have := hSa 0 (by omega)
        rw [show f + 0 = x by omega, e] at this
        exact ha 0 47 this.symm rfl
      | succ n ih =>
        intro x h0 hf hx hp e
        rcases Nat.lt_or_ge x (f + a.length) with hlt | hge
        · have := hSa (x - f) (by omega)
          rw [show f + (x - f) = x by omega, e] at this
          exact ha (x - f) 47 this.symm rfl
        · obtain ⟨c, r, hc, hr, ho⟩ := h1 (x - a.length - f) (by omega)
          obtain ⟨c', r', hc', hr', _, ho'⟩ := hb (x - a.length - f) (by omega)
          rw [hc] at hc'
          obtain rfl : c = c' := by injection hc'
          rw [← hSb, show f + a.length + (x - a.length - f) = x by omega, e] at hr
          obtain rfl : 47 = r := by injection hr
          have h47 := (one_slash ho').1 ((one_slash ho).2 rfl)
          subst h47
          exact ih (f + (x - a.length - f)) (by omega) (by omega) (by omega) hp hr'
    rw [hbd] at h2
    have hsp : S.drop (f + m) = (S.drop (f + m)).take a.length ++ S.drop (f + m + a.length) := by
      rw [show S.drop (f + m + a.length) = (S.drop (f + m)).drop a.length by rw [List.drop_drop], List.take_append_drop]
    rw [hsp, drop_at hi]
    rw [drop_at hi] at h2
    refine star_more ((flat_iff _).2 fun k r hk e => ?_) h2
    subst e
    rw [List.getElem?_take] at hk
    split at hk
    · rename_i hlt
      rw [List.getElem?_drop] at hk
      exact hno _ _ (Nat.le_refl _) (by omega) (by omega) (by omega) hk
    · cases hk
  · intro h
    rw [drop_at ht, gm_star]
    exact ⟨[], _, rfl, rfl, by rw [hb.gm]; exact h⟩
theorem Inv.star {P S : List Nat} {i j : Nat} {st : Int} {f : Nat} (h : Inv P S i j st f) (hc : P[i]? = some 42) : Inv P S (i + 1) j i j := by
  have hil : i < P.length := (List.getElem?_eq_some_iff.1 hc).1
  obtain ⟨_, hj, h⟩ := h
  refine ⟨by omega, hj, .inr ⟨i, rfl, hc, Nat.le_refl _, Nat.le_refl _, by omega, ?_, fun k hk => by omega⟩⟩
  rcases h with ⟨h1, h2, h⟩ | ⟨t, e, ht, h1, h2, h3, h, hb⟩
  · exact h
  · have e2 : f + (j - f) = j := by omega
    rw [h, shift ht hb (by rw [← h3]; exact hc), ← h3, e2]
theorem Inv.no {P S : List Nat} {i j f : Nat} (h : Inv P S i j (-1) f) (hs : Stuck P S i j) : Gl.gm P S = false := by
  obtain ⟨h1, h2, ⟨_, _, h⟩ | ⟨t, e, _⟩⟩ := h
  · rw [h, hs.gm h1 h2]
  · omega
theorem Inv.fail {P S : List Nat} {i j t f : Nat} (h : Inv P S i j t f) (hs : Stuck P S i j) : Gl.gm (P.drop (t + 1)) (S.drop f) = false ∧ Gl.gm P S = Gl.gm (42 :: P.drop (t + 1)) (S.drop f) ∧ P[t]? = some 42 ∧ t < P.length ∧ f ≤ j ∧ t + 1 ≤ i := by
  obtain ⟨h1, h2, ⟨e, _⟩ | ⟨t', e, ht, h3, h4, h5, h, hb⟩⟩ := h
  · omega
  · obtain rfl : t = t' := by omega
    refine ⟨?_, by rw [h, drop_at ht], ht, by omega, h4, h3⟩
    rw [hb.gm, ← h5, show f + (j - f) = j by omega, hs.gm h1 h2]
theorem Inv.last {P S : List Nat} {i j t f : Nat} (h : Inv P S i j t f) (hs : Stuck P S i j) (he : f = S.length ∨ S[f]? = some 47) : Gl.gm P S = false := by
  obtain ⟨h1, h2, _⟩ := h.fail hs
  rw [h2]
  rcases he with he | he
  · rw [he, List.drop_length, gm_star_nil, ← List.drop_length (l := S), ← he, h1]
  · rw [drop_at he, gm_star_cons, ← drop_at he, h1]
    rfl
theorem Inv.back {P S : List Nat} {i j t f r : Nat} (h : Inv P S i j t f) (hs : Stuck P S i j) (hr : S[f]? = some r) (hne : r ≠ 47) : Inv P S (t + 1) (f + 1) t (f + 1) := by
  obtain ⟨h1, h2, h3, h4, _⟩ := h.fail hs
  have hfl : f < S.length := (List.getElem?_eq_some_iff.1 hr).1
  refine ⟨by omega, by omega, .inr ⟨t, rfl, h3, Nat.le_refl _, Nat.le_refl _, by omega, ?_, fun k hk => by omega⟩⟩
  have hn : (r != 47) = true := by simpa using hne
  rw [h2, drop_at hr, gm_star_cons, ← drop_at hr, h1, hn, Bool.false_or, Bool.true_and, drop_at h3]
theorem Inv.bd {P S : List Nat} {i j f : Nat} {st : Int} (h : Inv P S i j st f) : i ≤ P.length ∧ j ≤ S.length ∧ -1 ≤ st ∧ st < i ∧ f ≤ j := by
  obtain ⟨h1, h2, ⟨e, e2, _⟩ | ⟨t', e, ht, h3, h4, _⟩⟩ := h <;> omega

/-! ### All places at once -/
/-- May it be at place k, behind s? (At a star: before it, or within.) -/
def A (P s : List Nat) (k : Nat) : Bool := gm (P.take (if P[k]? = some 42 then k + 1 else k)) s
/-- The places behind stars, too. -/
def onF (b : Nat → Bool) (P : List Nat) : Nat → Bool
  | 0 => b 0
  | k + 1 => b (k + 1) || (decide (P[k]? = some 42) && onF b P k)
/-- The places behind a rune more, out of the first k ones. -/
def nxF (a : Nat → Bool) (P : List Nat) (r k j : Nat) : Bool :=
  (decide (j < k) && a j && decide (P[j]? = some 42) && r != 47) || (decide (1 ≤ j ∧ j ≤ k) && a (j - 1) && !decide (P[j - 1]? = some 42) && one (P.getD (j - 1) 0) r)
theorem take_snoc {P : List Nat} {k c : Nat} (h : P[k]? = some c) : P.take (k + 1) = P.take k ++ [c] := by
  obtain ⟨hl, e⟩ := List.getElem?_eq_some_iff.1 h
  rw [List.take_succ_eq_append_getElem hl, e]
theorem gm_take_star {P : List Nat} {k : Nat} (h : P[k]? = some 42) : gm (P.take (k + 1)) [] = gm (P.take k) [] := by
  rw [take_snoc h, Bool.eq_iff_iff, gm_snoc_star]
  constructor
  · rintro (h | ⟨t, r, h, _⟩)
    · exact h
    · simp at h
  · exact .inl
theorem A_nil (P : List Nat) (k : Nat) : A P [] k = gm (P.take k) [] := by
  unfold A
  split
  · rename_i h; exact gm_take_star h
  · rfl
theorem on_start (P : List Nat) : ∀ j, j ≤ P.length → onF (fun j => j == 0) P j = A P [] j
  | 0, _ => by rw [A_nil]; rfl
  | k + 1, h => by
    rw [onF, on_start P k (by omega), A_nil, A_nil]
    have hc : P[k]? = some P[k] := List.getElem?_eq_getElem (by omega)
    by_cases h42 : P[k] = 42
    · rw [h42] at hc
      rw [gm_take_star hc, hc]
      simp
    · have : gm (P.take (k + 1)) [] = false := by
        rw [take_snoc hc]
        cases hg : gm (P.take k ++ [P[k]]) [] with
        | false => rfl
        | true =>
          obtain ⟨t, r, h, _⟩ := (gm_snoc_one _ _ _ h42).1 hg
          simp at h
      rw [this, hc]
      simp [h42]
theorem gm_star_snoc (P s : List Nat) (k r : Nat) (h : P[k]? = some 42) : gm (P.take (k + 1)) (s ++ [r]) = (gm (P.take k) (s ++ [r]) || (r != 47 && gm (P.take (k + 1)) s)) := by
  rw [take_snoc h, Bool.eq_iff_iff, gm_snoc_star, Bool.or_eq_true, Bool.and_eq_true]
  constructor
  · rintro (h | ⟨t, x, e, hx, hg⟩)
    · exact .inl h
    · obtain ⟨rfl, e2⟩ := List.append_inj' e rfl
      obtain rfl : r = x := by simpa using e2
      exact .inr ⟨by simpa using hx, hg⟩
  · rintro (h | ⟨hr, hg⟩)
    · exact .inl h
    · exact .inr ⟨s, r, rfl, by simpa using hr, hg⟩
theorem gm_one_snoc (P s : List Nat) (k r c : Nat) (h : P[k]? = some c) (hne : c ≠ 42) : gm (P.take (k + 1)) (s ++ [r]) = (gm (P.take k) s && one c r) := by
  rw [take_snoc h, Bool.eq_iff_iff, gm_snoc_one _ _ _ hne, Bool.and_eq_true]
  constructor
  · rintro ⟨t, x, e, hx, hg⟩
    obtain ⟨rfl, e2⟩ := List.append_inj' e rfl
    obtain rfl : r = x := by simpa using e2
    exact ⟨hg, hx⟩
  · rintro ⟨hg, hr⟩
    exact ⟨s, r, rfl, hr, hg⟩
theorem A_star {P s : List Nat} {k : Nat} (h : P[k]? = some 42) : A P s k = gm (P.take (k + 1)) s := by unfold A; rw [if_pos h]
theorem A_else {P s : List Nat} {k : Nat} (h : P[k]? ≠ some 42) : A P s k = gm (P.take k) s := by unfold A; rw [if_neg h]
theorem gm_nil_snoc (s : List Nat) (r : Nat) : gm [] (s ++ [r]) = false := by
  rw [gm]; simp
theorem on_step (P s : List Nat) (r : Nat) (a : Nat → Bool) (ha : ∀ j, j ≤ P.length → a j = A P s j) : ∀ j, j ≤ P.length → onF (nxF a P r P.length) P j = A P (s ++ [r]) j
  | 0, _ => by
    rw [onF]
    unfold nxF
    rw [ha 0 (Nat.zero_le _)]
    by_cases h : P[0]? = some 42
    · have hl : 0 < P.length := (List.getElem?_eq_some_iff.1 h).1
      have e : decide (0 < P.length) = true := decide_eq_true hl
      rw [A_star h, A_star h, gm_star_snoc P s 0 r h, h, e, List.take_zero, gm_nil_snoc]
      simp [Bool.and_comm]
    · rw [A_else h, A_else h]
      simp [gm_nil_snoc, h]
  | k + 1, hk => by
    have hc : P[k]? = some P[k] := List.getElem?_eq_getElem (by omega)
    have base : (nxF a P r P.length (k + 1) || (decide (P[k]? = some 42) && A P (s ++ [r]) k)) =
        ((decide (k + 1 < P.length) && a (k + 1) && decide (P[k + 1]? = some 42) && r != 47) || gm (P.take (k + 1)) (s ++ [r])) := by
      unfold nxF
      rw [Nat.add_sub_cancel, ha k (by omega)]
      have hg : P.getD k 0 = P[k] := by rw [List.getD_eq_getElem?_getD, hc]; rfl
      rw [hg, Bool.or_assoc]
      congr 1
      by_cases h42 : P[k] = 42
      · rw [h42] at hc
        rw [A_star hc, A_star hc, hc]
        simp
      · have hn : P[k]? ≠ some 42 := by rw [hc]; simpa using h42
        rw [A_else hn, gm_one_snoc P s k r _ hc h42, decide_eq_false hn]
        simp [show k + 1 ≤ P.length by omega]
    rw [onF, on_step P s r a ha k (by omega), base, ha (k + 1) hk]
    by_cases h : P[k + 1]? = some 42
    · have hl : k + 1 < P.length := (List.getElem?_eq_some_iff.1 h).1
      have e : decide (k + 1 < P.length) = true := decide_eq_true hl
      rw [A_star h, A_star h, gm_star_snoc P s (k + 1) r h, h, e]
      simp [Bool.or_comm, Bool.and_comm]
    · rw [A_else h, A_else h]
      simp [h]
theorem A_all (P s : List Nat) : A P s P.length = gm P s := by
  rw [A_else (by simp), List.take_length]
theorem nx_zero (a : Nat → Bool) (P : List Nat) (r j : Nat) : nxF a P r 0 j = false := by
  unfold nxF
  have e1 : decide (j < 0) = false := decide_eq_false (by omega)
  have e2 : decide (1 ≤ j ∧ j ≤ 0) = false := decide_eq_false (by omega)
  rw [e1, e2]
  rfl
theorem nx_out {a : Nat → Bool} {P : List Nat} {r k : Nat} (h : a k = false) (j : Nat) : nxF a P r (k + 1) j = nxF a P r k j := by
  unfold nxF
  by_cases h1 : j = k
  · subst h1
    rw [h]
    have e : decide (1 ≤ j ∧ j ≤ j + 1) = decide (1 ≤ j ∧ j ≤ j) := by rw [decide_eq_decide]; omega
    rw [e]
    simp
  · have e : decide (j < k + 1) = decide (j < k) := by rw [decide_eq_decide]; omega
    rw [e]
    by_cases h2 : j = k + 1
    · subst h2
      rw [Nat.add_sub_cancel, h]
      simp
    · have e : decide (1 ≤ j ∧ j ≤ k + 1) = decide (1 ≤ j ∧ j ≤ k) := by rw [decide_eq_decide]; omega
      rw [e]
theorem nx_star {a : Nat → Bool} {P : List Nat} {r k : Nat} (h : a k = true) (hp : P[k]? = some 42) (j : Nat) : nxF a P r (k + 1) j = ((decide (j = k) && r != 47) || nxF a P r k j) := by
  unfold nxF
  by_cases h1 : j = k
  · subst h1
    have e : decide (1 ≤ j ∧ j ≤ j + 1) = decide (1 ≤ j ∧ j ≤ j) := by rw [decide_eq_decide]; omega
    rw [e, h, hp]
    simp
  · have e : decide (j < k + 1) = decide (j < k) := by rw [decide_eq_decide]; omega
    rw [e, decide_eq_false h1]
    by_cases h2 : j = k + 1
    · subst h2
      rw [Nat.add_sub_cancel, hp]
      simp
    · have e : decide (1 ≤ j ∧ j ≤ k + 1) = decide (1 ≤ j ∧ j ≤ k) := by rw [decide_eq_decide]; omega
      rw [e]
      simp
theorem nx_one {a : Nat → Bool} {P : List Nat} {r k c : Nat} (h : a k = true) (hp : P[k]? = some c) (hne : c ≠ 42) (j : Nat) : nxF a P r (k + 1) j = ((decide (j = k + 1) && one c r) || nxF a P r k j) := by
  have hn : P[k]? ≠ some 42 := by rw [hp]; simpa using hne
  have hg : P.getD k 0 = c := by rw [List.getD_eq_getElem?_getD, hp]; rfl
  unfold nxF
  by_cases h1 : j = k
  · subst h1
    have e : decide (1 ≤ j ∧ j ≤ j + 1) = decide (1 ≤ j ∧ j ≤ j) := by rw [decide_eq_decide]; omega
    rw [e, decide_eq_false hn]
    simp
  · have e : decide (j < k + 1) = decide (j < k) := by rw [decide_eq_decide]; omega
    rw [e]
    by_cases h2 : j = k + 1
    · subst h2
      rw [Nat.add_sub_cancel, hg, h, decide_eq_false hn]
      have e3 : decide (k + 1 < k) = false := by rw [decide_eq_false]; omega
      have e4 : decide (1 ≤ k + 1 ∧ k + 1 ≤ k) = false := by rw [decide_eq_false]; omega
      rw [e3, e4]
      simp
    · have e : decide (1 ≤ j ∧ j ≤ k + 1) = decide (1 ≤ j ∧ j ≤ k) := by rw [decide_eq_decide]; omega
      rw [e, decide_eq_false h2]
      simp
/-- As the document writes it. -/
theorem one_doc (c r : Nat) : one c r = ((c == r) || ((c == 63) && (r != 47))) := by
  unfold one
  by_cases h : c = 63
  · subst h
    rw [if_pos (by rfl), Bool.eq_iff_iff]
    simp
    omega
  · have : (c == 63) = false := by simpa using h
    rw [this]
    simp
end Go.Proofs.Ytcglfpgniifedaa.Gl
