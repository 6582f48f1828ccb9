/-
  A region that draws its order: its first p operations are moves; those up to n are quiet in a class of worlds (they read, or call what leaves a world of the class); those from n on are forced, one behind the other. One walk in the order of the text serves every order.
  After the library's Derived/StillTail.lean and Derived/Deep/Quiet.lean, whose two theorems are joined here.
-/
import Derived.StillTail
import Derived.Lib.QuietBelow
import Derived.Deep.RegionHeld3
import Derived.BigRegion
namespace Go.Proofs.Ytcianlgkfkccoaa.Lex
set_option linter.unusedSimpArgs false
set_option linter.unusedVariables false
open Go Go.RowKit Go.Sort

section
variable {P : Program} {ops : Array Oper} {md : Region.Mode} {C : World → Prop}

/-- Whichever of the first n comes up, till L holds. -/
def anyL (P : Program) (md : Region.Mode) (ops : Array Oper) (C : World → Prop) (n : Nat) (L : Array Bool → Act → Prop) : Nat → Array Bool → Act → Prop
  | 0, listed, a => L listed a
  | f + 1, listed, a => Region.ready md ops listed ≠ [] ∧ ∀ i ∈ Region.ready md ops listed, i < n ∧ qOp P ops C i (anyL P md ops C n L f (listed.setIfInBounds i true)) a

theorem any_of_head {n g : Nat} {L : Array Bool → Act → Prop} {Q' : Exit → Act → World → Prop} (hL : ∀ listed a w, C w → L listed a → wpAny P md ops Q' g listed a w) :
    ∀ (f : Nat) (listed : Array Bool) (a : Act) (w : World), C w → anyL P md ops C n L f listed a → wpAny P md ops Q' (f + g) listed a w
  | 0, listed, a, w, hw, h => by rw [Nat.zero_add]; exact hL _ _ _ hw h
  | f + 1, listed, a, w, hw, h => by
    rw [show f + 1 + g = (f + g) + 1 by omega]
    exact ⟨fun h0 => absurd h0 h.1, fun i hi => wpOp_of_qOp hw (fun a' w' hw' h' => any_of_head hL f _ a' w' hw' h') (h.2 i hi).2⟩

/-- Each of the operations p .. n-1 is waited for by a later one up to n. -/
def sinkB (md : Region.Mode) (ops : Array Oper) (p n : Nat) : Bool :=
  (List.range n).all fun i => decide (i < p) || (List.range (n + 1)).any fun j => decide (i < j) && Region.waitsFor md ops j i

theorem tail_waits {p n : Nat} {listed : Array Bool} (hs : sinkB md ops p n = true) (hc : Region.chainB md ops n = true) (hn : n < ops.size) (inv : HeadInv md ops n listed) (hpre : ∀ j, j < p → listed.getD j false = true) :
    ∀ (d i : Nat), n - i = d → i < n → listed.getD i true = false → ∀ t, n ≤ t → t ∉ Region.ready md ops listed := by
  intro d
  induction d using Nat.strongRecOn with
  | _ d ih =>
    intro i hd hi hun t ht hr
    obtain ⟨_, ot, hot, hall⟩ := mem_ready.1 hr
    have htlt : t < ops.size := (Array.getElem?_eq_some_iff.1 hot).1
    by_cases htn : t = n
    · subst htn
      have h1 := List.all_eq_true.1 hs i (List.mem_range.2 hi)
      simp only [Bool.or_eq_true, decide_eq_true_eq] at h1
      rcases h1 with h1 | h1
      · have := hpre i h1
        rw [getD_both hun] at this
        cases this
      obtain ⟨j, hj, hj2⟩ := List.any_eq_true.1 h1
      simp only [Bool.and_eq_true, decide_eq_true_eq] at hj2
      obtain ⟨oj, hoj, e, he, hb, hon⟩ := Region.waitsFor_spec hj2.2
      have hjle : j ≤ t := by have := List.mem_range.1 hj; omega
      by_cases hjt : j = t
      · subst hjt
        have : oj = ot := Option.some.inj (hoj.symm.trans hot)
        subst this
        have h2 := hall e he hb
        rw [hon, getD_both hun] at h2
        cases h2
      · cases hl : listed.getD j false with
        | true =>
          have h2 := inv.closed j oj hoj hl e he hb
          rw [hon, getD_both hun] at h2
          cases h2
        | false =>
          have hjs : j < listed.size := by rw [inv.size]; omega
          exact ih (t - j) (by omega) j rfl (by omega) (getD_in hjs hl) t (Nat.le_refl _) hr
    · have h1 := List.all_eq_true.1 hc t (List.mem_range.2 htlt)
      simp only [Bool.or_eq_true, decide_eq_true_eq] at h1
      rcases h1 with h1 | h1
      · omega
      · obtain ⟨o', ho', e, he, hb, hon⟩ := Region.waitsFor_spec h1
        have : o' = ot := Option.some.inj (ho'.symm.trans hot)
        subst this
        have h2 := hall e he hb
        rw [hon, getD_both (inv.tail (t - 1) (by omega) (by omega))] at h2
        cases h2

theorem anyL_first {p n i : Nat} {oi : Oper} {v : Value} {L : Array Bool → Act → Prop} (hi : ops[i]? = some oi) (hsel : ∀ (j : Nat) (o : Oper) cs b, ops[j]? = some o → o.op ≠ .select cs b)
    (hs : sinkB md ops p n = true) (hc : Region.chainB md ops n = true) (hn : n < ops.size) (hin : i < n)
    (hdone : ∀ listed a, L listed a → ∀ j ∈ Region.ready md ops listed, n ≤ j) :
    ∀ (f : Nat) (listed : Array Bool) (a : Act), HeadInv md ops n listed → (∀ j, j < p → listed.getD j false = true) →
      (∀ j oj, ops[j]? = some oj → j ≠ i → listed.getD j true = false → (∀ e ∈ oj.after, Region.binds md e = true → e.on ≠ i) → oi.apart ops oj = true) →
      i ∈ Region.ready md ops listed → YieldsIn P ops C oi v a →
      anyL P md ops C n L f (listed.setIfInBounds i true) (a.put oi.dst v) → anyL P md ops C n L (f + 1) listed a := by
  intro f
  induction f with
  | zero =>
    intro listed a inv hpre _ hr hy H
    have hun := (mem_ready.1 hr).1
    refine ⟨fun h => (by rw [h] at hr; cases hr), fun j hj => ?_⟩
    have hjn : j < n := by
      rcases Nat.lt_or_ge j n with h | h
      · exact h
      · exact absurd hj (tail_waits hs hc hn inv hpre _ i rfl hin hun j h)
    refine ⟨hjn, ?_⟩
    by_cases hji : j = i
    · subst hji; exact hy.qOp hi H
    · have := hdone _ _ H j (ready_mono hj hji)
      omega
  | succ f ih =>
    intro listed a inv hpre hfree hr hy H
    have hun := (mem_ready.1 hr).1
    refine ⟨fun h => (by rw [h] at hr; cases hr), fun j hj => ?_⟩
    have hjn : j < n := by
      rcases Nat.lt_or_ge j n with h | h
      · exact h
      · exact absurd hj (tail_waits hs hc hn inv hpre _ i rfl hin hun j h)
    refine ⟨hjn, ?_⟩
    by_cases hji : j = i
    · subst hji; exact hy.qOp hi H
    · have h1 := (H.2 j (ready_mono hj hji)).2
      obtain ⟨hjun, oj, hoj, hall⟩ := mem_ready.1 hj
      have hnot : ∀ e ∈ oj.after, Region.binds md e = true → e.on ≠ i := fun e he hb heq => by
        have h1 := hall e he hb
        rw [heq, getD_both hun] at h1
        cases h1
      have h2 := qOp_put hoj (hfree j oj hoj hji hjun hnot) (fun cs b => hsel i oi cs b hi) (fun cs b => hsel j oj cs b hoj) hy h1
      have hfree' : ∀ k ok, ops[k]? = some ok → k ≠ i → (listed.setIfInBounds j true).getD k true = false →
          (∀ e ∈ ok.after, Region.binds md e = true → e.on ≠ i) → oi.apart ops ok = true := fun k ok hk hki hun hno => by
        refine hfree k ok hk hki ?_ hno
        by_cases hjk : j = k
        · subst hjk; exact hjun
        · rw [getD_set_ne true hjk] at hun; exact hun
      refine qOp_mono (fun a' h3 => ih (listed.setIfInBounds j true) a' (inv.set hj hjn) (fun q hq => getD_set_true (hpre q hq)) hfree' (ready_mono hr (Ne.symm hji)) h3.1 ?_) h2
      rw [Array.setIfInBounds_comm _ _ hji]
      exact h3.2

theorem anyL_lex {p n g : Nat} {Lq : Act → Prop} (hsel : Region.noSelect ops = true) (hs : sinkB md ops p n = true) (hc : Region.chainB md ops n = true) (hn : n < ops.size) :
    ∀ (l : List Oper) (k : Nat) (listed : Array Bool) (a : Act), (∀ j, j < l.length → l[j]? = ops[k + j]?) → k + l.length = n → HeadInv md ops n listed → (∀ j, j < p → listed.getD j false = true) →
    Region.lexHead md ops g l.length k listed = true → wpQuiet P ops C Lq l a →
    anyL P md ops C n (fun listed' a' => Region.seqB md ops g n listed' = true ∧ Lq a') l.length listed a
  | [], k, listed, a, _, hk, _, _, hB, h => by
    have : k = n := by simpa using hk
    subst this
    exact ⟨by simpa [Region.lexHead] using hB, h⟩
  | o :: l, k, listed, a, hl, hk, inv, hpre, hB, h => by
    have h0 : ops[k]? = some o := by simpa using (hl 0 (by simp)).symm
    simp only [List.length_cons, Region.lexHead, Bool.and_eq_true] at hB
    obtain ⟨⟨hr, hf⟩, hB'⟩ := hB
    have hkn : k < n := by simp only [List.length_cons] at hk; omega
    have hr' : k ∈ Region.ready md ops listed := by simpa using hr
    have hst : qOp P ops C k (wpQuiet P ops C Lq l) a := by unfold qOp; simp only [h0]; exact h
    obtain ⟨v, hy, hK⟩ := yieldsIn_of_qOp h0 hst
    exact anyL_first h0 (Region.noSelect_spec hsel) hs hc hn hkn (fun listed' a' hL => seqB_ready hL.1) l.length listed a inv hpre (Region.free_spec h0 hf) hr' hy
      (anyL_lex hsel hs hc hn l (k + 1) _ _ (fun j hj => by have := hl (j + 1) (by simp; omega); simpa [Nat.add_assoc, Nat.add_comm 1 j] using this) (by simp only [List.length_cons] at hk; omega) (inv.set hr' hkn) (fun q hq => getD_set_true (hpre q hq)) hB' hK)

theorem getD_zero (v : Value) (l : List Value) (d : Value) : (v :: l).toArray.getD 0 d = v := by simp
theorem getD_succ (v : Value) (l : List Value) (n : Nat) (d : Value) : (v :: l).toArray.getD (n + 1) d = l.toArray.getD n d := by simp
/-- The operand of a move that always runs. -/
def movOf (o : Oper) : Option Operand :=
  match o.guard, o.op with
  | none, .move x => some x
  | _, _ => none
theorem movOf_spec {o : Oper} {x : Operand} (h : movOf o = some x) : o.guard = none ∧ o.op = .move x := by
  unfold movOf at h
  split at h
  · rename_i h1 h2
    cases h
    exact ⟨h1, h2⟩
  · cases h

/-- The first p operations: moves, each ready and free at its time; then the quiet ones; then the forced ones. -/
def preB (md : Region.Mode) (ops : Array Oper) (n g : Nat) : Nat → Nat → Array Bool → Bool
  | 0, k, listed => Region.lexHead md ops g (n - k) k listed
  | f + 1, k, listed => decide (k < n) && (Region.ready md ops listed).contains k && Region.free md ops listed k && ((ops[k]?).bind movOf).isSome && preB md ops n g f (k + 1) (listed.setIfInBounds k true)

/-- What the moves leave. -/
def moved : List Oper → Act → Act
  | [], a => a
  | o :: l, a => moved l (a.put o.dst (match movOf o with | some x => a.eval x | none => undef))

def regionB (md : Region.Mode) (ops : Array Oper) (p n : Nat) : Bool :=
  Region.noSelect ops && decide (n < ops.size) && sinkB md ops p n && Region.chainB md ops n && preB md ops n (ops.size - n) p 0 (Array.replicate ops.size false)

theorem any_pre {p n : Nat} {Q : Exit → Act → World → Prop} (hsel : Region.noSelect ops = true) (hs : sinkB md ops p n = true) (hc : Region.chainB md ops n = true) (hn : n < ops.size)
    (l : List Oper) (hl : ∀ j, j < n → l[j]? = ops[j]?) (hll : n ≤ l.length) (tl : List Oper) (htl : ∀ j, tl[j]? = ops[n + j]?) (htn : tl.length = ops.size - n)
    (hQ : ∀ c a a' w, Q (.panic c) a w → Q (.panic c) a' w) (w : World) (hw : C w) :
    ∀ (f k : Nat) (listed : Array Bool) (a : Act), k + f = p → k ≤ n → HeadInv md ops n listed → (∀ j, j < k → listed.getD j false = true) →
    preB md ops n (ops.size - n) f k listed = true → wpQuiet P ops C (fun a' => ∀ w', C w' → wpList P ops Q tl a' w') ((l.take n).drop p) (moved (((l.take n).drop k).take f) a) →
    wpAny P md ops Q (ops.size - k) listed a w
  | 0, k, listed, a, hk, hkn, inv, hpre, hB, h => by
    obtain rfl : k = p := by omega
    have hlen : ((l.take n).drop k).length = n - k := by simp; omega
    simp only [List.take_zero, moved] at h
    have H := anyL_lex (md := md) (p := k) (g := ops.size - n) hsel hs hc hn ((l.take n).drop k) k listed a (fun j hj => by
      rw [hlen] at hj
      rw [List.getElem?_drop, List.getElem?_take, if_pos (by omega)]
      exact hl _ (by omega)) (by rw [hlen]; omega) inv hpre (by rw [hlen]; exact hB) h
    rw [hlen] at H
    have := any_of_head (Q' := Q) (g := ops.size - n) (fun listed a' w' hw' hL => by
      have := wpAny_of_seq (md := md) (Q' := Q) tl n listed a' w' htl (by rw [htn]; exact hL.1) (hL.2 w' hw')
      rwa [htn] at this) _ _ _ w hw H
    rwa [show n - k + (ops.size - n) = ops.size - k by omega] at this
  | f + 1, k, listed, a, hk, hkn, inv, hpre, hB, h => by
    simp only [preB, Bool.and_eq_true, decide_eq_true_eq] at hB
    obtain ⟨⟨⟨⟨hlt, hr⟩, hf⟩, hm⟩, hB'⟩ := hB
    have hr' : k ∈ Region.ready md ops listed := by simpa using hr
    obtain ⟨x, hx⟩ := Option.isSome_iff_exists.1 hm
    obtain ⟨o, ho, hx⟩ := Option.bind_eq_some_iff.1 hx
    obtain ⟨hg, hop⟩ := movOf_spec hx
    have hlk : l[k]? = some o := by rw [hl k hlt]; exact ho
    have hd : (l.take n).drop k = o :: (l.take n).drop (k + 1) := by
      have : (l.take n)[k]? = some o := by rw [List.getElem?_take, if_pos hlt]; exact hlk
      obtain ⟨hlt', he⟩ := List.getElem?_eq_some_iff.1 this
      rw [List.drop_eq_getElem_cons hlt', he]
    rw [hd, List.take_succ_cons] at h
    simp only [moved, hx] at h
    rw [show ops.size - k = (ops.size - (k + 1)) + 1 by omega]
    refine wpAny_first ho (Region.noSelect_spec hsel) (fun c a w h => hQ c _ _ w h) _ listed a w (Region.free_spec ho hf) hr' (v := a.eval x) ?_ ?_
    · exact .inl ⟨by simp [Region.wanted, hg], fun w => BigFrame.run_move x hop w⟩
    · refine any_pre hsel hs hc hn l hl hll tl htl htn hQ w hw f (k + 1) _ _ (by omega) (by omega) (inv.set hr' hlt) (fun j hj => ?_) hB' h
      by_cases hjk : j = k
      · subst hjk
        have : j < listed.size := by rw [inv.size]; omega
        simp [this]
      · exact getD_set_true (hpre j (by omega))

/-- **THE REGION**: moves, then what is quiet in the class, then what is forced. -/
theorem wp_region {id : Nat} {Q : Exit → Act → World → Prop} {a : Act} {w : World} {l : List Oper} (p n : Nat) (hm : P.follows .mixedOrders = true) (hB : regionB .any l.toArray p n = true)
    (hC : C { w with drawn := w.drawn + 1 })
    (h : wpQuiet P l.toArray C (fun a' => ∀ w', C w' → wpList P l.toArray (NoPanic Q) (l.drop n) a' w') ((l.take n).drop p) (moved ((l.take n).take p) a)) : (Code.region id l.toArray true).wp P Q a w := by
  simp only [regionB, Bool.and_eq_true, decide_eq_true_eq] at hB
  obtain ⟨⟨⟨⟨hsel, hn⟩, hs⟩, hc⟩, hlex⟩ := hB
  have hn' : n < l.length := by simpa using hn
  refine wp_region_noPanic ?_
  refine wp_region_any hm ?_
  have inv0 : HeadInv .any l.toArray n (Array.replicate l.toArray.size false) :=
    ⟨by simp, fun j oj _ hl => (by rw [getD_replicate_false] at hl; cases hl), fun t _ ht => getD_in (by simpa using ht) (getD_replicate_false _ _)⟩
  have := any_pre (P := P) (C := C) (md := .any) (Q := NoPanic Q) (p := p) hsel hs hc hn l (fun j _ => by simp) (by omega) (l.drop n) (fun j => by simp [List.getElem?_drop]) (by simp) (fun _ _ _ _ h => False.elim h) _ hC p 0 _ a (by omega) (by omega) inv0 (fun j hj => by omega) hlex (by simpa using h)
  simpa using this

/-- The same at the class 'below the heap's size all is as it was'. -/
theorem wp_region_below {id : Nat} {Q : Exit → Act → World → Prop} {a : Act} {w : World} {l : List Oper} (p n : Nat) (hm : P.follows .mixedOrders = true) (hB : regionB .any l.toArray p n = true)
    (h : wpQuiet P l.toArray (fun w' => ∃ p : Regrown, w' = grow (redrawn w p.d) p.os) (fun a' => ∀ w', (∃ p : Regrown, w' = grow (redrawn w p.d) p.os) → wpList P l.toArray (NoPanic Q) (l.drop n) a' w') ((l.take n).drop p) (moved ((l.take n).take p) a)) : (Code.region id l.toArray true).wp P Q a w :=
  wp_region p n hm hB ⟨⟨w.drawn + 1, #[]⟩, by rw [grow_empty]; rfl⟩ h
/-- The same at the class 'some draws on'. -/
theorem wp_region_drawn {id : Nat} {Q : Exit → Act → World → Prop} {a : Act} {w : World} {l : List Oper} (p n : Nat) (hm : P.follows .mixedOrders = true) (hB : regionB .any l.toArray p n = true)
    (h : wpQuiet P l.toArray (fun w' => ∃ n, w' = w.drewN n) (fun a' => ∀ w', (∃ n, w' = w.drewN n) → wpList P l.toArray (NoPanic Q) (l.drop n) a' w') ((l.take n).drop p) (moved ((l.take n).take p) a)) : (Code.region id l.toArray true).wp P Q a w :=
  wp_region p n hm hB ⟨1, rfl⟩ h
end
end Go.Proofs.Ytcianlgkfkccoaa.Lex
