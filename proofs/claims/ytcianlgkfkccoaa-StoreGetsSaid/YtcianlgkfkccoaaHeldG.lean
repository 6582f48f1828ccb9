/-
  A region that draws its order, under a condition on the world that holds behind every operation but the last: that one waits for all that was taken first. After the library's Derived/OrdersHeld.lean.
-/
import Derived.Test.YtcianlgkfkccoaaFirst
namespace Go.Proofs.Ytcianlgkfkccoaa.HG
set_option linter.unusedSimpArgs false
set_option linter.unusedVariables false
open Go Go.RowKit Go.Sort Go.Proofs.Ytcianlgkfkccoaa.Fst

section
variable {P : Program} {ops : Array Oper} {md : Region.Mode} {Q : Exit → Act → World → Prop} {S : World → Prop}
def wpAnyG (P : Program) (md : Region.Mode) (ops : Array Oper) (Q : Exit → Act → World → Prop) (S : World → Prop) (last : Nat) : Nat → Array Bool → Act → World → Prop
  | 0, listed, a, w => Region.ready md ops listed = [] ∧ Q .normal a w
  | fuel + 1, listed, a, w =>
    (Region.ready md ops listed = [] → Q .normal a w) ∧
    ∀ i ∈ Region.ready md ops listed, wpOp P ops Q i (fun a' w' => (i ≠ last → S w') ∧ wpAnyG P md ops Q S last fuel (listed.setIfInBounds i true) a' w') a w
theorem wpAny_of_G {last : Nat} : ∀ (fuel : Nat) (listed : Array Bool) (a : Act) (w : World), wpAnyG P md ops Q S last fuel listed a w → wpAny P md ops Q fuel listed a w
  | 0, _, _, _, h => h
  | fuel + 1, _, _, _, h => ⟨h.1, fun i hi => wpOp_mono (fun a' w' h' => wpAny_of_G fuel _ a' w' h'.2) (h.2 i hi)⟩
theorem anyG_first {last i : Nat} {oi : Oper} {v : Value} (hi : ops[i]? = some oi) (hsel : ∀ (j : Nat) (o : Oper) cs b, ops[j]? = some o → o.op ≠ .select cs b) (hl : Region.waitsFor md ops last i = true) (hil : i ≠ last)
    (hQ : ∀ c a w, Q (.panic c) (a.put oi.dst v) w → Q (.panic c) a w) :
    ∀ (fuel : Nat) (listed : Array Bool) (a : Act) (w : World),
      (∀ j oj, ops[j]? = some oj → j ≠ i → listed.getD j true = false → (∀ e ∈ oj.after, Region.binds md e = true → e.on ≠ i) → oi.apart ops oj = true) →
      i ∈ Region.ready md ops listed → YieldsIf P ops S oi v a → S w →
      wpAnyG P md ops Q S last fuel (listed.setIfInBounds i true) (a.put oi.dst v) w → wpAnyG P md ops Q S last (fuel + 1) listed a w := by
  intro fuel
  induction fuel with
  | zero =>
    intro listed a w _ hr hy hS H
    refine ⟨fun h => (by rw [h] at hr; cases hr), fun j hj => ?_⟩
    by_cases hji : j = i
    · subst hji; exact hy.wpOp hi hS ⟨fun _ => hS, H⟩
    · have := ready_mono hj hji
      rw [H.1] at this
      cases this
  | succ fuel ih =>
    intro listed a w hfree hr hy hS H
    refine ⟨fun h => (by rw [h] at hr; cases hr), fun j hj => ?_⟩
    by_cases hji : j = i
    · subst hji; exact hy.wpOp hi hS ⟨fun _ => hS, H⟩
    · have h1 := H.2 j (ready_mono hj hji)
      obtain ⟨hjun, oj, hoj, hall⟩ := mem_ready.1 hj
      have hcon : listed.getD i false = true → False := fun h1 => by
        have h0 := (mem_ready.1 hr).1
        rcases Nat.lt_or_ge i listed.size with h' | h'
        · simp [h'] at h0 h1; rw [h0] at h1; cases h1
        · simp [Array.getElem?_eq_none h'] at h1
      have hnot : ∀ e ∈ oj.after, Region.binds md e = true → e.on ≠ i := fun e he hb heq => hcon (heq ▸ hall e he hb)
      have hjl : j ≠ last := fun heq => by
        obtain ⟨o', ho', e, he, hb, hon⟩ := Region.waitsFor_spec hl
        rw [← heq] at ho'
        have : o' = oj := Option.some.inj (ho'.symm.trans hoj)
        subst this
        exact hnot e he hb hon
      have h2 := wpOp_putIf hoj (hfree j oj hoj hji hjun hnot) (fun cs b => hsel i oi cs b hi) (fun cs b => hsel j oj cs b hoj) hQ hy h1
      have hfree' : ∀ k ok, ops[k]? = some ok → k ≠ i → (listed.setIfInBounds j true).getD k true = false →
          (∀ e ∈ ok.after, Region.binds md e = true → e.on ≠ i) → oi.apart ops ok = true := fun k ok hk hki hun hno => by
        refine hfree k ok hk hki ?_ hno
        by_cases hjk : j = k
        · subst hjk; exact hjun
        · rw [getD_set_ne true hjk] at hun; exact hun
      refine wpOp_mono (fun a' w' h3 => ⟨fun _ => h3.2.1 hjl, ih (listed.setIfInBounds j true) a' w' hfree' (ready_mono hr (Ne.symm hji)) h3.1 (h3.2.1 hjl) ?_⟩) h2
      rw [Array.setIfInBounds_comm _ _ hji]
      exact h3.2.2
def ckG (md : Region.Mode) (ops : Array Oper) (last : Nat) : List Nat → Array Bool → Bool
  | [], _ => true
  | i :: r, L => (Region.ready md ops L).contains i && Region.free md ops L i && decide (i < ops.size) && Region.waitsFor md ops last i && decide (i ≠ last) && ckG md ops last r (L.setIfInBounds i true)
theorem G_first {last : Nat} {l : List Oper} (hsel : Region.noSelect l.toArray = true) (hQ : ∀ c a a' w, Q (.panic c) a w → Q (.panic c) a' w) (m : Nat) (w : World) (hS : S w) : ∀ (pl : List Nat) (L : Array Bool) (a : Act), ckG md l.toArray last pl L = true →
    wpFstS P S l pl (fun a' => wpAnyG P md l.toArray Q S last m (setL pl L) a' w) a → wpAnyG P md l.toArray Q S last (m + pl.length) L a w
  | [], L, a, _, h => h
  | i :: r, L, a, hB, h => by
    simp only [ckG, Bool.and_eq_true, decide_eq_true_eq] at hB
    obtain ⟨⟨⟨⟨⟨hr, hf⟩, hi⟩, hwt⟩, hne⟩, hB'⟩ := hB
    obtain ⟨v, hy, h'⟩ := h
    have ho : l.toArray[i]? = some (l.getD i o0) := by
      have hi' : i < l.length := by simpa using hi
      rw [List.getElem?_toArray, List.getD_eq_getElem?_getD, List.getElem?_eq_getElem hi']
      rfl
    exact anyG_first ho (Region.noSelect_spec hsel) hwt hne (fun c a w h => hQ c _ _ w h) _ L a w (Region.free_spec ho hf) (by simpa using hr) hy hS (G_first hsel hQ m w hS r _ _ hB' h')
theorem G_op {last : Nat} {l : List Oper} {m i : Nat} {L : Array Bool} {a : Act} {w : World} (hi : i < l.length)
    (h : wpList P l.toArray (NoPanic (after Q fun a' w' => (i ≠ last → S w') ∧ wpAnyG P md l.toArray (NoPanic Q) S last m (L.setIfInBounds i true) a' w')) [l.getD i o0] a w) :
    wpOp P l.toArray (NoPanic Q) i (fun a' w' => (i ≠ last → S w') ∧ wpAnyG P md l.toArray (NoPanic Q) S last m (L.setIfInBounds i true) a' w') a w := by
  have h0 : l.toArray[i]? = some (l.getD i o0) := by
    rw [List.getElem?_toArray, List.getD_eq_getElem?_getD, List.getElem?_eq_getElem hi]
    rfl
  have hw : wpOp P l.toArray (NoPanic (after Q fun a' w' => (i ≠ last → S w') ∧ wpAnyG P md l.toArray (NoPanic Q) S last m (L.setIfInBounds i true) a' w')) i (wpList P l.toArray (NoPanic (after Q fun a' w' => (i ≠ last → S w') ∧ wpAnyG P md l.toArray (NoPanic Q) S last m (L.setIfInBounds i true) a' w')) []) a w := by
    unfold wpOp; simp only [h0]; exact h
  refine wpOp_mono (fun a' w' h' => h') (wpOp_other ?_ hw)
  intro e a' w' he hh
  cases e <;> first | exact absurd rfl he | exact hh
theorem one {last : Nat} {l : List Oper} {m i : Nat} {L : Array Bool} {a : Act} {w : World} (hr : Region.ready md l.toArray L = [i]) (hi : decide (i < l.length) = true)
    (h : wpList P l.toArray (NoPanic (after Q fun a' w' => (i ≠ last → S w') ∧ wpAnyG P md l.toArray (NoPanic Q) S last m (L.setIfInBounds i true) a' w')) [l.getD i o0] a w) : wpAnyG P md l.toArray (NoPanic Q) S last (m + 1) L a w := by
  refine ⟨fun h0 => (by rw [hr] at h0; cases h0), fun j hj => ?_⟩
  rw [hr] at hj
  obtain rfl : j = i := by simpa using hj
  exact G_op (by simpa using hi) h
theorem two {last : Nat} {l : List Oper} {m i j : Nat} {L : Array Bool} {a : Act} {w : World} (hr : Region.ready md l.toArray L = [i, j]) (hi : (decide (i < l.length) && decide (j < l.length)) = true)
    (h1 : wpList P l.toArray (NoPanic (after Q fun a' w' => (i ≠ last → S w') ∧ wpAnyG P md l.toArray (NoPanic Q) S last m (L.setIfInBounds i true) a' w')) [l.getD i o0] a w)
    (h2 : wpList P l.toArray (NoPanic (after Q fun a' w' => (j ≠ last → S w') ∧ wpAnyG P md l.toArray (NoPanic Q) S last m (L.setIfInBounds j true) a' w')) [l.getD j o0] a w) : wpAnyG P md l.toArray (NoPanic Q) S last (m + 1) L a w := by
  refine ⟨fun h0 => (by rw [hr] at h0; cases h0), fun k hk => ?_⟩
  rw [hr] at hk
  simp only [Bool.and_eq_true, decide_eq_true_eq] at hi
  rcases List.mem_cons.1 hk with rfl | hk
  · exact G_op hi.1 h1
  · obtain rfl : k = j := by simpa using hk
    exact G_op hi.2 h2
theorem end_ {last : Nat} {ops : Array Oper} {L : Array Bool} {a : Act} {w : World} (hr : Region.ready md ops L = []) (h : Q .normal a w) : wpAnyG P md ops (NoPanic Q) S last 0 L a w := ⟨hr, NoPanic.normal h⟩
def regB (ops : Array Oper) (last : Nat) (pl : List Nat) (m : Nat) : Bool := Region.noSelect ops && ckG .any ops last pl (Array.replicate ops.size false) && decide (m + pl.length = ops.size)
/-- THE REGION, under S till its last operation. -/
theorem wp_region_G {id : Nat} {a : Act} {w : World} {l : List Oper} (S : World → Prop) (last : Nat) (pl : List Nat) (m : Nat) (hm : P.follows .mixedOrders = true) (hB : regB l.toArray last pl m = true) (hS : S { w with drawn := w.drawn + 1 })
    (h : wpFstS P S l pl (fun a' => wpAnyG P .any l.toArray (NoPanic Q) S last m (setL pl (Array.replicate l.toArray.size false)) a' { w with drawn := w.drawn + 1 }) a) : (Code.region id l.toArray true).wp P Q a w := by
  simp only [regB, Bool.and_eq_true, decide_eq_true_eq] at hB
  obtain ⟨⟨hsel, hp⟩, hz⟩ := hB
  refine wp_region_noPanic ?_
  refine wp_region_any hm ?_
  have H := G_first (P := P) (Q := NoPanic Q) hsel (fun _ _ _ _ h => False.elim h) m { w with drawn := w.drawn + 1 } hS pl _ a hp h
  rw [hz] at H
  exact wpAny_of_G _ _ _ _ H
end
end Go.Proofs.Ytcianlgkfkccoaa.HG
