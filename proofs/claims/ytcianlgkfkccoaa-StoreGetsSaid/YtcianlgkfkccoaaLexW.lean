/-
  A region that draws its order: what is quiet up to operation n; operation n (a call); behind it what is quiet, in any order. One walk in the order of the text serves every order.
  After XLex and XFirst.
-/
import Derived.Test.YtcianlgkfkccoaaLex
import Derived.Test.YtcianlgkfkccoaaFirst
namespace Go.Proofs.Ytcianlgkfkccoaa.LexW
set_option linter.unusedSimpArgs false
set_option linter.unusedVariables false
open Go Go.RowKit Go.Sort Go.Proofs.Ytcianlgkfkccoaa.Lex

section
variable {P : Program} {ops : Array Oper} {md : Region.Mode} {C : World → Prop}

/-- Each operation behind n waits for one from n on. -/
def chainW (md : Region.Mode) (ops : Array Oper) (n : Nat) : Bool :=
  (List.range ops.size).all fun t => decide (t ≤ n) || (List.range ops.size).any fun u => decide (n ≤ u) && Region.waitsFor md ops t u

theorem tail_waits {p n : Nat} {listed : Array Bool} (hs : sinkB md ops p n = true) (hc : chainW md ops n = true) (hn : n < ops.size) (inv : HeadInv md ops n listed) (hpre : ∀ j, j < p → listed.getD j false = true) :
    ∀ (d i : Nat), n - i = d → i < n → listed.getD i true = false → ∀ t, n ≤ t → t ∉ Region.ready md ops listed := by
  intro d
  induction d using Nat.strongRecOn with
  | _ d ih =>
    intro i hd hi hun t ht hr
    obtain ⟨_, ot, hot, hall⟩ := mem_ready.1 hr
    have htlt : t < ops.size := (Array.getElem?_eq_some_iff.1 hot).1
    by_cases htn : t = n
    · subst htn
      have h1 := List.all_eq_true.1 hs i (List.mem_range.2 hi)
      simp only [Bool.or_eq_true, decide_eq_true_eq] at h1
      rcases h1 with h1 | h1
      · have := hpre i h1
        rw [getD_both hun] at this
        cases this
      obtain ⟨j, hj, hj2⟩ := List.any_eq_true.1 h1
      simp only [Bool.and_eq_true, decide_eq_true_eq] at hj2
      obtain ⟨oj, hoj, e, he, hb, hon⟩ := Region.waitsFor_spec hj2.2
      have hjle : j ≤ t := by have := List.mem_range.1 hj; omega
      by_cases hjt : j = t
      · subst hjt
        have : oj = ot := Option.some.inj (hoj.symm.trans hot)
        subst this
        have h2 := hall e he hb
        rw [hon, getD_both hun] at h2
        cases h2
      · cases hl : listed.getD j false with
        | true =>
          have h2 := inv.closed j oj hoj hl e he hb
          rw [hon, getD_both hun] at h2
          cases h2
        | false =>
          have hjs : j < listed.size := by rw [inv.size]; omega
          exact ih (t - j) (by omega) j rfl (by omega) (getD_in hjs hl) t (Nat.le_refl _) hr
    · have h1 := List.all_eq_true.1 hc t (List.mem_range.2 htlt)
      simp only [Bool.or_eq_true, decide_eq_true_eq] at h1
      rcases h1 with h1 | h1
      · omega
      · obtain ⟨u, hu, hu2⟩ := List.any_eq_true.1 h1
        simp only [Bool.and_eq_true, decide_eq_true_eq] at hu2
        have hus := List.mem_range.1 hu
        obtain ⟨o', ho', e, he, hb, hon⟩ := Region.waitsFor_spec hu2.2
        have : o' = ot := Option.some.inj (ho'.symm.trans hot)
        subst this
        have h2 := hall e he hb
        rw [hon, getD_both (inv.tail u hu2.1 hus)] at h2
        cases h2

theorem anyL_first {p n i : Nat} {oi : Oper} {v : Value} {L : Array Bool → Act → Prop} (hi : ops[i]? = some oi) (hsel : ∀ (j : Nat) (o : Oper) cs b, ops[j]? = some o → o.op ≠ .select cs b)
    (hs : sinkB md ops p n = true) (hc : chainW md ops n = true) (hn : n < ops.size) (hin : i < n)
    (hdone : ∀ listed a, L listed a → ∀ j ∈ Region.ready md ops listed, n ≤ j) :
    ∀ (f : Nat) (listed : Array Bool) (a : Act), HeadInv md ops n listed → (∀ j, j < p → listed.getD j false = true) →
      (∀ j oj, ops[j]? = some oj → j ≠ i → listed.getD j true = false → (∀ e ∈ oj.after, Region.binds md e = true → e.on ≠ i) → oi.apart ops oj = true) →
      i ∈ Region.ready md ops listed → YieldsIn P ops C oi v a →
      anyL P md ops C n L f (listed.setIfInBounds i true) (a.put oi.dst v) → anyL P md ops C n L (f + 1) listed a := by
  intro f
  induction f with
  | zero =>
    intro listed a inv hpre _ hr hy H
    have hun := (mem_ready.1 hr).1
    refine ⟨fun h => (by rw [h] at hr; cases hr), fun j hj => ?_⟩
    have hjn : j < n := by
      rcases Nat.lt_or_ge j n with h | h
      · exact h
      · exact absurd hj (tail_waits hs hc hn inv hpre _ i rfl hin hun j h)
    refine ⟨hjn, ?_⟩
    by_cases hji : j = i
    · subst hji; exact hy.qOp hi H
    · have := hdone _ _ H j (ready_mono hj hji)
      omega
  | succ f ih =>
    intro listed a inv hpre hfree hr hy H
    have hun := (mem_ready.1 hr).1
    refine ⟨fun h => (by rw [h] at hr; cases hr), fun j hj => ?_⟩
    have hjn : j < n := by
      rcases Nat.lt_or_ge j n with h | h
      · exact h
      · exact absurd hj (tail_waits hs hc hn inv hpre _ i rfl hin hun j h)
    refine ⟨hjn, ?_⟩
    by_cases hji : j = i
    · subst hji; exact hy.qOp hi H
    · have h1 := (H.2 j (ready_mono hj hji)).2
      obtain ⟨hjun, oj, hoj, hall⟩ := mem_ready.1 hj
      have hnot : ∀ e ∈ oj.after, Region.binds md e = true → e.on ≠ i := fun e he hb heq => by
        have h1 := hall e he hb
        rw [heq, getD_both hun] at h1
        cases h1
      have h2 := qOp_put hoj (hfree j oj hoj hji hjun hnot) (fun cs b => hsel i oi cs b hi) (fun cs b => hsel j oj cs b hoj) hy h1
      have hfree' : ∀ k ok, ops[k]? = some ok → k ≠ i → (listed.setIfInBounds j true).getD k true = false →
          (∀ e ∈ ok.after, Region.binds md e = true → e.on ≠ i) → oi.apart ops ok = true := fun k ok hk hki hun hno => by
        refine hfree k ok hk hki ?_ hno
        by_cases hjk : j = k
        · subst hjk; exact hjun
        · rw [getD_set_ne true hjk] at hun; exact hun
      refine qOp_mono (fun a' h3 => ih (listed.setIfInBounds j true) a' (inv.set hj hjn) (fun q hq => getD_set_true (hpre q hq)) hfree' (ready_mono hr (Ne.symm hji)) h3.1 ?_) h2
      rw [Array.setIfInBounds_comm _ _ hji]
      exact h3.2

/-- When the first n are through, the n-th alone is ready; behind it the rest come in any order. -/
def endB (md : Region.Mode) (ops : Array Oper) (n : Nat) (listed : Array Bool) : Bool :=
  decide (Region.ready md ops listed = [n]) && Region.lexFrom md ops (ops.size - (n + 1)) (n + 1) (listed.setIfInBounds n true)
def headW (md : Region.Mode) (ops : Array Oper) (n : Nat) : Nat → Nat → Array Bool → Bool
  | 0, _, listed => endB md ops n listed
  | f + 1, k, listed => (Region.ready md ops listed).contains k && Region.free md ops listed k && headW md ops n f (k + 1) (listed.setIfInBounds k true)
theorem anyL_lexW {n : Nat} {Lq : Act → Prop} (hsel : Region.noSelect ops = true) (hs : sinkB md ops 0 n = true) (hc : chainW md ops n = true) (hn : n < ops.size) :
    ∀ (l : List Oper) (k : Nat) (listed : Array Bool) (a : Act), (∀ j, j < l.length → l[j]? = ops[k + j]?) → k + l.length = n → HeadInv md ops n listed →
    headW md ops n l.length k listed = true → wpQuiet P ops C Lq l a →
    anyL P md ops C n (fun listed' a' => endB md ops n listed' = true ∧ Lq a') l.length listed a
  | [], k, listed, a, _, hk, _, hB, h => ⟨by simpa [headW] using hB, h⟩
  | o :: l, k, listed, a, hl, hk, inv, hB, h => by
    have h0 : ops[k]? = some o := by simpa using (hl 0 (by simp)).symm
    simp only [List.length_cons, headW, Bool.and_eq_true] at hB
    obtain ⟨⟨hr, hf⟩, hB'⟩ := hB
    have hkn : k < n := by simp only [List.length_cons] at hk; omega
    have hr' : k ∈ Region.ready md ops listed := by simpa using hr
    have hst : qOp P ops C k (wpQuiet P ops C Lq l) a := by unfold qOp; simp only [h0]; exact h
    obtain ⟨v, hy, hK⟩ := yieldsIn_of_qOp h0 hst
    exact anyL_first h0 (Region.noSelect_spec hsel) hs hc hn hkn (fun listed' a' hL j hj => by
        have h1 := hL.1
        simp only [endB, Bool.and_eq_true, decide_eq_true_eq] at h1
        rw [h1.1] at hj
        have : j = n := by simpa using hj
        omega) l.length listed a inv (fun j hj => by omega) (Region.free_spec h0 hf) hr' hy
      (anyL_lexW hsel hs hc hn l (k + 1) _ _ (fun j hj => by have := hl (j + 1) (by simp; omega); simpa [Nat.add_assoc, Nat.add_comm 1 j] using this) (by simp only [List.length_cons] at hk; omega) (inv.set hr' hkn) hB' hK)
def regionW (ops : Array Oper) (n : Nat) : Bool :=
  Region.noSelect ops && decide (n < ops.size) && sinkB .any ops 0 n && chainW .any ops n && headW .any ops n n 0 (Array.replicate ops.size false)
/-- THE REGION: what is quiet, in the order of the text, up to n; then operation n; then what is quiet again. -/
theorem wp_region_call {id : Nat} {Q : Exit → Act → World → Prop} {a : Act} {w : World} {l : List Oper} (n : Nat) (hm : P.follows .mixedOrders = true) (hB : regionW l.toArray n = true)
    (h : wpQuiet P l.toArray (fun w' => ∃ n, w' = w.drewN n) (fun a' => ∀ w', (∃ n, w' = w.drewN n) →
      wpList P l.toArray (NoPanic (Fst.after Q fun a2 w2 => wpQuiet P l.toArray (fun w3 => ∃ n, w3 = w2.drewN n) (fun a3 => ∀ w3, (∃ n, w3 = w2.drewN n) → Q .normal a3 w3) (l.drop (n + 1)) a2)) [l.getD n Fst.o0] a' w') (l.take n) a) : (Code.region id l.toArray true).wp P Q a w := by
  simp only [regionW, Bool.and_eq_true, decide_eq_true_eq] at hB
  obtain ⟨⟨⟨⟨hsel, hn⟩, hs⟩, hc⟩, hlex⟩ := hB
  have hn' : n < l.length := by simpa using hn
  refine wp_region_noPanic ?_
  refine wp_region_any hm ?_
  have inv0 : HeadInv .any l.toArray n (Array.replicate l.toArray.size false) :=
    ⟨by simp, fun j oj _ hl => (by rw [getD_replicate_false] at hl; cases hl), fun t _ ht => getD_in (by simpa using ht) (getD_replicate_false _ _)⟩
  have hlen : (l.take n).length = n := by simp; omega
  have H := anyL_lexW (md := .any) hsel hs hc hn (l.take n) 0 _ a (fun j hj => by rw [hlen] at hj; rw [List.getElem?_take, if_pos hj, Nat.zero_add, List.getElem?_toArray]) (by rw [hlen]; omega) inv0 (by rw [hlen]; exact hlex) h
  rw [hlen] at H
  have R := any_of_head (Q' := NoPanic Q) (g := (l.drop (n + 1)).length + 1) (fun listed a' w' hw' hL => by
    have h1 := hL.1
    simp only [endB, Bool.and_eq_true, decide_eq_true_eq] at h1
    have h2 := hL.2 w' hw'
    refine ⟨fun h3 => (by rw [h1.1] at h3; cases h3), fun j hj => ?_⟩
    rw [h1.1] at hj
    obtain rfl : j = n := by simpa using hj
    have h0 : l.toArray[j]? = some (l.getD j Fst.o0) := by
      rw [List.getElem?_toArray, List.getD_eq_getElem?_getD, List.getElem?_eq_getElem hn']
      rfl
    have hw : wpOp P l.toArray (NoPanic (Fst.after Q fun a2 w2 => wpQuiet P l.toArray (fun w3 => ∃ n, w3 = w2.drewN n) (fun a3 => ∀ w3, (∃ n, w3 = w2.drewN n) → Q .normal a3 w3) (l.drop (j + 1)) a2)) j (wpList P l.toArray (NoPanic (Fst.after Q fun a2 w2 => wpQuiet P l.toArray (fun w3 => ∃ n, w3 = w2.drewN n) (fun a3 => ∀ w3, (∃ n, w3 = w2.drewN n) → Q .normal a3 w3) (l.drop (j + 1)) a2)) []) a' w' := by
      unfold wpOp; simp only [h0]; exact h2
    refine wpOp_mono (fun a2 w2 h3 => ?_) (Fst.wpOp_other ?_ hw)
    · have h4 : wpQuiet P l.toArray (fun w3 => ∃ n, w3 = w2.drewN n) (fun a3 => ∀ w3, (∃ n, w3 = w2.drewN n) → Q .normal a3 w3) (l.drop (j + 1)) a2 := h3
      have hsz : l.toArray.size - (j + 1) = (l.drop (j + 1)).length := by simp
      refine wpAny_of_quiet (C := fun w3 => ∃ n, w3 = w2.drewN n) (Q := fun a3 => ∀ w3, (∃ n, w3 = w2.drewN n) → Q .normal a3 w3) (fun a w hw' h => NoPanic.normal (h w hw')) _ _ _ _ ⟨0, rfl⟩ (wpAnyQ_lex hsel (l.drop (j + 1)) (j + 1) _ _ (fun j => by rw [List.getElem?_drop, List.getElem?_toArray]) ?_ h4)
      rw [← hsz]
      exact h1.2
    · intro e a' w' he hh
      cases e <;> first | exact absurd rfl he | exact hh) n (Array.replicate l.toArray.size false) a { w with drawn := w.drawn + 1 } ⟨1, rfl⟩ H
  have hz : n + ((l.drop (n + 1)).length + 1) = l.toArray.size := by simp; omega
  rw [hz] at R
  exact R
end
end Go.Proofs.Ytcianlgkfkccoaa.LexW
