/-
  The plain laws on moments: order, the next day, 400 years on. No program in sight.
-/
import Derived.Test.YtmpbejiknejogaaDoorWhenLoc
namespace Go.Proofs.YtmpbejiknejogaaDoor.Wh
set_option linter.unusedSimpArgs false
set_option linter.unusedVariables false
open Go

/-- Is a row of bytes the lesser one? -/
def ltN : List Nat → List Nat → Bool
  | _, [] => false
  | [], _ :: _ => true
  | a :: x, b :: y => decide (a < b) || (a == b && ltN x y)
theorem less_L (s t : ByteArray) : Op.bytesLess s.toList t.toList = ltN (Uf.L s) (Uf.L t) := by
  rw [ByteArray.toList_eq, ByteArray.toList_eq]
  unfold Uf.L
  generalize s.data.toList = x
  generalize t.data.toList = y
  induction x generalizing y with
  | nil => cases y <;> rfl
  | cons a x ih =>
    cases y with
    | nil => rfl
    | cons b y =>
      show (decide (a < b) || (a == b && Op.bytesLess x y)) = (decide (a.toNat < b.toNat) || (a.toNat == b.toNat && ltN (x.map UInt8.toNat) (y.map UInt8.toNat)))
      have e : (a == b) = (a.toNat == b.toNat) := by
        rw [Bool.eq_iff_iff, beq_iff_eq, beq_iff_eq]
        exact ⟨fun h => by rw [h], fun h => UInt8.toNat_inj.1 h⟩
      have e2 : decide (a < b) = decide (a.toNat < b.toNat) := by
        rw [decide_eq_decide]; exact UInt8.lt_iff_toNat_lt
      rw [ih y, e, e2]
theorem lt_irr : ∀ x : List Nat, ltN x x = false
  | [] => rfl
  | a :: x => by rw [ltN, lt_irr x]; simp
theorem lt_asym : ∀ {x y : List Nat}, ltN x y = true → ltN y x = false
  | [], [], h => by cases h
  | [], b :: y, _ => rfl
  | a :: x, [], h => by cases h
  | a :: x, b :: y, h => by
    rw [ltN, Bool.or_eq_true, Bool.and_eq_true, decide_eq_true_eq, beq_iff_eq] at h
    rw [ltN, Bool.or_eq_false_iff, decide_eq_false_iff_not]
    rcases h with h | ⟨rfl, h⟩
    · exact ⟨by omega, by rw [beq_eq_false_iff_ne.2 (by omega)]; rfl⟩
    · exact ⟨by omega, by rw [lt_asym h, Bool.and_false]⟩
theorem lt_same : ∀ (p r r' : List Nat), ltN (p ++ r) (p ++ r') = ltN r r'
  | [], r, r' => rfl
  | a :: p, r, r' => by
    rw [List.cons_append, List.cons_append, ltN, lt_same p r r']
    simp
theorem lt_two {k k' : Int} (h0 : 0 ≤ k) (h : k < k') (h1 : k' ≤ 99) (r r' : List Nat) : ltN ([(48 + k / 10 % 10).toNat, (48 + k % 10).toNat] ++ r) ([(48 + k' / 10 % 10).toNat, (48 + k' % 10).toNat] ++ r') = true := by
  show (decide _ || (_ == _ && (decide _ || (_ == _ && ltN r r')))) = true
  simp only [Bool.or_eq_true, Bool.and_eq_true, decide_eq_true_eq, beq_iff_eq]
  by_cases h3 : k / 10 < k' / 10
  · left; omega
  · right
    refine ⟨by omega, ?_⟩
    left; omega
/-- The later one has the greater text. -/
theorem tx_lt {y m d h mi s y' m' d' h' mi' s' : Int} (a : VD y m d) (b : VD y' m' d') (p : VT h mi s) (q : VT h' mi' s')
    (hl : y < y' ∨ y = y' ∧ (m < m' ∨ m = m' ∧ (d < d' ∨ d = d' ∧ (h < h' ∨ h = h' ∧ (mi < mi' ∨ mi = mi' ∧ s < s'))))) : ltN (Uf.L (tx y m d h mi s)) (Uf.L (tx y' m' d' h' mi' s')) = true := by
  have x1 := a.y1; have x2 := a.y2; have x3 := a.m1; have x4 := a.m2; have x5 := a.d1; have x6 := a.d2; have x7 := dim_bd y m
  have z1 := b.y1; have z2 := b.y2; have z3 := b.m1; have z4 := b.m2; have z5 := b.d1; have z6 := b.d2; have z7 := dim_bd y' m'
  have u1 := p.h1; have u2 := p.h2; have u3 := p.m1; have u4 := p.m2; have u5 := p.s1; have u6 := p.s2
  have v1 := q.h1; have v2 := q.h2; have v3 := q.m1; have v4 := q.m2; have v5 := q.s1; have v6 := q.s2
  unfold tx
  simp only [Uf.L_app, d2_L, List.append_assoc]
  rcases hl with hl | ⟨rfl, hl | ⟨rfl, hl | ⟨rfl, hl | ⟨rfl, hl | ⟨rfl, hl⟩⟩⟩⟩⟩
  · by_cases h100 : y / 100 < y' / 100
    · exact lt_two (by omega) h100 (by omega) _ _
    · rw [show y / 100 = y' / 100 by omega, lt_same]
      exact lt_two (by omega) (by omega) (by omega) _ _
  · rw [lt_same, lt_same, lt_same]
    exact lt_two (by omega) hl (by omega) _ _
  · rw [lt_same, lt_same, lt_same, lt_same, lt_same]
    exact lt_two (by omega) hl (by omega) _ _
  · rw [lt_same, lt_same, lt_same, lt_same, lt_same, lt_same, lt_same]
    exact lt_two (by omega) hl (by omega) _ _
  · rw [lt_same, lt_same, lt_same, lt_same, lt_same, lt_same, lt_same, lt_same, lt_same]
    exact lt_two (by omega) hl (by omega) _ _
  · rw [lt_same, lt_same, lt_same, lt_same, lt_same, lt_same, lt_same, lt_same, lt_same, lt_same, lt_same]
    exact lt_two (by omega) hl (by omega) _ _
theorem dn_lex {y m d y' m' d' : Int} (a : VD y m d) (b : VD y' m' d') (h : dn y m d < dn y' m' d') : y < y' ∨ y = y' ∧ (m < m' ∨ m = m' ∧ d < d') := by
  have h1 := dn_lt b a
  by_cases hy : y = y'
  · by_cases hm : m = m'
    · by_cases hd : d = d'
      · subst hy hm hd; omega
      · omega
    · omega
  · omega
theorem txn_lt {y m d y' m' d' n n' : Int} (a : VD y m d) (b : VD y' m' d') (hn : dn y m d = n / 86400) (hn' : dn y' m' d' = n' / 86400) (h0 : 0 ≤ n) (h0' : 0 ≤ n') (h : n < n') : ltN (Uf.L (txn y m d n)) (Uf.L (txn y' m' d' n')) = true := by
  have t := (sec_back a h0 hn).1
  have t' := (sec_back b h0' hn').1
  refine tx_lt a b t t' ?_
  by_cases hd : n / 86400 < n' / 86400
  · have := dn_lex a b (by omega)
    omega
  · obtain ⟨e1, e2, e3⟩ := dn_inj a b (by omega)
    have : n % 86400 < n' % 86400 := by omega
    omega
/-- Of two moments: which text is the lesser one, and whether they are one. -/
theorem txn_order {y m d y' m' d' n n' : Int} (a : VD y m d) (b : VD y' m' d') (hn : dn y m d = n / 86400) (hn' : dn y' m' d' = n' / 86400) (h0 : 0 ≤ n) (h0' : 0 ≤ n') :
    Op.bytesLess (txn y m d n).toList (txn y' m' d' n').toList = decide (n < n') ∧ ((txn y m d n).toList == (txn y' m' d' n').toList) = (n == n') := by
  rw [less_L]
  rcases Int.lt_trichotomy n n' with h | h | h
  · have hl := txn_lt a b hn hn' h0 h0' h
    refine ⟨by rw [hl, decide_eq_true h], ?_⟩
    rw [beq_eq_false_iff_ne.2 (show n ≠ n' by omega)]
    rw [Bool.eq_false_iff]
    intro e
    rw [Nm.toList_inj] at e
    rw [e, lt_irr] at hl
    cases hl
  · subst h
    obtain ⟨rfl, rfl, rfl⟩ := dn_inj a b (by omega)
    refine ⟨by rw [lt_irr, decide_eq_false (by omega)], ?_⟩
    rw [beq_self_eq_true, beq_self_eq_true]
  · have hl := txn_lt b a hn' hn h0' h0 h
    refine ⟨by rw [lt_asym hl, decide_eq_false (by omega)], ?_⟩
    rw [beq_eq_false_iff_ne.2 (show n ≠ n' by omega)]
    rw [Bool.eq_false_iff]
    intro e
    rw [Nm.toList_inj] at e
    rw [e, lt_irr] at hl
    cases hl

/-! ### Further on -/
theorem leap_400 (y : Int) : leap (y + 400) = leap y := by
  rw [Bool.eq_iff_iff, leap_iff, leap_iff]; omega
theorem lp_400 (y : Int) : lp (y + 400) = lp y := by unfold lp; rw [leap_400]
theorem start_400 (y : Int) : start (y + 400) = start y + 146097 := by unfold start lps; omega
theorem cm_400 (y m : Int) : cm (y + 400) m = cm y m := by unfold cm; rw [lp_400]
theorem dim_400 {y m : Int} (h1 : 1970 ≤ y) (h2 : y + 400 ≤ 9999) (h3 : 1 ≤ m) (h4 : m ≤ 12) : dim (y + 400) m = dim y m := by
  rw [dim_in (by omega) h2 h3 h4, dim_in h1 (by omega) h3 h4, lp_400]
theorem vd_400 {y m d : Int} (h : VD y m d) (hb : dn y m d + 146097 ≤ 2932896) : VD (y + 400) m d ∧ dn (y + 400) m d = dn y m d + 146097 := by
  have hw := h.within
  have hy : y + 400 ≤ 9999 := by
    rcases Int.lt_or_le 9999 (y + 400) with h1 | h1
    · have := start_mono 10000 (y + 400) (by omega)
      rw [start_400, start_end] at this
      omega
    · exact h1
  refine ⟨⟨by have := h.y1; omega, hy, h.m1, h.m2, h.d1, by rw [dim_400 h.y1 hy h.m1 h.m2]; exact h.d2⟩, ?_⟩
  unfold dn
  rw [start_400, cm_400]
  omega
theorem vd_next {y m d : Int} (h : VD y m d) (hb : dn y m d + 1 ≤ 2932896) :
    (d < dim y m ∧ VD y m (d + 1) ∧ dn y m (d + 1) = dn y m d + 1) ∨ (d = dim y m ∧ m < 12 ∧ VD y (m + 1) 1 ∧ dn y (m + 1) 1 = dn y m d + 1) ∨ (d = dim y m ∧ m = 12 ∧ VD (y + 1) 1 1 ∧ dn (y + 1) 1 1 = dn y m d + 1) := by
  have q1 := h.y1; have q2 := h.y2; have q3 := h.m1; have q4 := h.m2; have q5 := h.d1; have q6 := h.d2
  by_cases h1 : d < dim y m
  · exact .inl ⟨h1, ⟨q1, q2, q3, q4, by omega, by omega⟩, by unfold dn; omega⟩
  · right
    by_cases h2 : m < 12
    · have hc := cm_succ q1 q2 q3 (by omega)
      have hl := dim_lo q1 q2 (m := m + 1) (by omega) (by omega)
      exact .inl ⟨by omega, h2, ⟨q1, q2, by omega, by omega, by omega, by omega⟩, by unfold dn; omega⟩
    · obtain rfl : m = 12 := by omega
      have hc := cm_succ q1 q2 (m := 12) (by omega) (by omega)
      have h13 := cm_13 y
      have hs := start_succ y
      have hdn : dn y 12 d = start y + cm y 12 + d - 1 := rfl
      rw [show (12 : Int) + 1 = 13 by omega] at hc
      have hy : y + 1 ≤ 9999 := by
        rcases Int.lt_or_le 9999 (y + 1) with h3 | h3
        · have := start_mono 10000 (y + 1) (by omega)
          rw [start_end] at this
          omega
        · exact h3
      have hl := dim_lo (y := y + 1) (m := 1) (by omega) hy (by omega) (by omega)
      exact .inr ⟨by omega, rfl, ⟨by omega, hy, by omega, by omega, by omega, by omega⟩, by unfold dn; rw [cm_1]; omega⟩
theorem nb2 {s : ByteArray} {i : Nat} {k : Int} (h0 : 0 ≤ k) (h1 : k ≤ 99) (e1 : Uf.b s i = (48 + k / 10 % 10).toNat) (e2 : Uf.b s (i + 1) = (48 + k % 10).toNat) : nb s i 2 = k := by
  simp only [nb]
  rw [Nat.add_zero, e1, e2]
  omega
theorem nb4 {s : ByteArray} {y : Int} (h0 : 0 ≤ y) (h1 : y ≤ 9999) (e0 : Uf.b s 0 = (48 + y / 100 / 10 % 10).toNat) (e1 : Uf.b s 1 = (48 + y / 100 % 10).toNat) (e2 : Uf.b s 2 = (48 + y % 100 / 10 % 10).toNat) (e3 : Uf.b s 3 = (48 + y % 100 % 10).toNat) : nb s 0 4 = y := by
  simp only [nb, Nat.zero_add]
  rw [e0, e1, e2, e3]
  omega
theorem tx_nb {y m d h mi s : Int} (hd : VD y m d) (ht : VT h mi s) : nb (tx y m d h mi s) 0 4 = y ∧ nb (tx y m d h mi s) 5 2 = m ∧ nb (tx y m d h mi s) 8 2 = d ∧ nb (tx y m d h mi s) 11 2 = h ∧ nb (tx y m d h mi s) 14 2 = mi ∧ nb (tx y m d h mi s) 17 2 = s := by
  have hL := tx_L y m d h mi s
  have hdb := dim_bd y m
  have q1 := hd.y1; have q2 := hd.y2; have q3 := hd.m1; have q4 := hd.m2; have q5 := hd.d1; have q6 := hd.d2
  have q7 := ht.h1; have q8 := ht.h2; have q9 := ht.m1; have q10 := ht.m2; have q11 := ht.s1; have q12 := ht.s2
  exact ⟨nb4 (by omega) (by omega) (b_of_L hL 0 _ rfl) (b_of_L hL 1 _ rfl) (b_of_L hL 2 _ rfl) (b_of_L hL 3 _ rfl), nb2 (by omega) (by omega) (b_of_L hL 5 _ rfl) (b_of_L hL 6 _ rfl), nb2 (by omega) (by omega) (b_of_L hL 8 _ rfl) (b_of_L hL 9 _ rfl), nb2 (by omega) (by omega) (b_of_L hL 11 _ rfl) (b_of_L hL 12 _ rfl), nb2 (by omega) (by omega) (b_of_L hL 14 _ rfl) (b_of_L hL 15 _ rfl), nb2 (by omega) (by omega) (b_of_L hL 17 _ rfl) (b_of_L hL 18 _ rfl)⟩
/-- What stands behind a text's year, and behind its day. -/
theorem tx_tail4 (y m d h mi s y' : Int) : tx y' m d h mi s = dg y' 4 ++ (tx y m d h mi s).extract 4 (tx y m d h mi s).size := by
  apply Uf.L_inj
  rw [Uf.L_app, Uf.L_back, tx_L, tx_L, dg4, Uf.L_app, d2_L, d2_L]
  rfl
theorem tx_tail10 (y m d h mi s y' m' d' : Int) : tx y' m' d' h mi s = dg y' 4 ++ ⟨#[45]⟩ ++ dg m' 2 ++ ⟨#[45]⟩ ++ dg d' 2 ++ (tx y m d h mi s).extract 10 (tx y m d h mi s).size := by
  apply Uf.L_inj
  rw [Uf.L_app, Uf.L_app, Uf.L_app, Uf.L_app, Uf.L_app, Uf.L_back, tx_L, tx_L, dg4, dg2, dg2, Uf.L_app, d2_L, d2_L, d2_L, d2_L]
  rfl
/-- The first and the last second of a year. -/
theorem year_text (y : Int) : dg y 4 ++ ⟨#[45, 48, 49, 45, 48, 49, 84, 48, 48, 58, 48, 48, 58, 48, 48, 90]⟩ = tx y 1 1 0 0 0 ∧ dg y 4 ++ ⟨#[45, 49, 50, 45, 51, 49, 84, 50, 51, 58, 53, 57, 58, 53, 57, 90]⟩ = tx y 12 31 23 59 59 := by
  constructor
  · apply Uf.L_inj
    rw [Uf.L_app, tx_L, dg4, Uf.L_app, d2_L, d2_L]
    rfl
  · apply Uf.L_inj
    rw [Uf.L_app, tx_L, dg4, Uf.L_app, d2_L, d2_L]
    rfl
theorem rd_tx {y m d h mi s : Int} (hd : VD y m d) (ht : VT h mi s) : rdV (tx y m d h mi s) = sec y m d h mi s ∧ rdE (tx y m d h mi s) = 0 := by
  obtain ⟨g, e4, e5, e8, e11, e14, e17⟩ := tx_good hd ht
  unfold rdV rdE
  rw [g, if_pos rfl, if_pos rfl, e4, e5, e8, e11, e14, e17]
  exact ⟨rfl, rfl⟩
/-- The days of the first months of any year. -/
def sumM (y : Int) : Nat → Int
  | 0 => 0
  | k + 1 => sumM y k + dim y ((k : Int) + 1)
def mostM (y : Int) : Nat → Int
  | 0 => 0
  | k + 1 => max (mostM y k) (dim y ((k : Int) + 1))
theorem sum_out {y : Int} (h : y < 1970 ∨ 9999 < y) : ∀ k, sumM y k = 0 ∧ mostM y k = 0
  | 0 => ⟨rfl, rfl⟩
  | k + 1 => by
    obtain ⟨h1, h2⟩ := sum_out h k
    rw [sumM, mostM, h1, h2, dim_out (by omega)]
    exact ⟨rfl, rfl⟩
theorem sum_in {y : Int} (h1 : 1970 ≤ y) (h2 : y ≤ 9999) : sumM y 12 = 365 + lp y ∧ mostM y 12 = 31 := by
  have hl := lp_01 y
  have d : ∀ m : Int, 1 ≤ m → m ≤ 12 → dim y m = if m = 2 then 28 + lp y else if m = 4 ∨ m = 6 ∨ m = 9 ∨ m = 11 then 30 else 31 := fun m a b => dim_in h1 h2 a b
  simp only [sumM, mostM]
  rw [d _ (by decide) (by decide), d _ (by decide) (by decide), d _ (by decide) (by decide), d _ (by decide) (by decide), d _ (by decide) (by decide), d _ (by decide) (by decide), d _ (by decide) (by decide), d _ (by decide) (by decide), d _ (by decide) (by decide), d _ (by decide) (by decide), d _ (by decide) (by decide), d _ (by decide) (by decide)]
  simp
  omega
theorem sum_bd (y : Int) : ∀ k, 0 ≤ sumM y k ∧ sumM y k ≤ 31 * k ∧ 0 ≤ mostM y k ∧ mostM y k ≤ 31
  | 0 => by simp [sumM, mostM]
  | k + 1 => by
    have := sum_bd y k
    have := dim_bd y ((k : Int) + 1)
    rw [sumM, mostM]
    omega
end Go.Proofs.YtmpbejiknejogaaDoor.Wh
