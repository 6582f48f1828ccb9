/-
  A region that draws its order: some operations are shown to yield the same value in every world: they may come first; then some that are forced, one behind the other; then what is quiet (it reads, or calls what makes memory). One walk serves every order.
  After the library's Derived/Orders.lean, Derived/StillTail.lean and Derived/Deep/Quiet.lean.
-/
import Derived.StillTail
import Derived.Lib.QuietBelow
import Derived.Deep.RegionHeld3
import Derived.BigRegion
import Derived.OrdersHeld
namespace Go.Proofs.Ytcianlgkfkccoaa.Fst
set_option linter.unusedSimpArgs false
set_option linter.unusedVariables false
open Go Go.RowKit Go.Sort

section
variable {P : Program} {ops : Array Oper} {md : Region.Mode} {Q : Exit → Act → World → Prop}

def o0 : Oper := { dst := none, op := .ready 0, type := 0, pos := "", after := #[], guard := none }
/-- These come first: each yields a value, whatever the world. -/
def wpFst (P : Program) (l : List Oper) : List Nat → (Act → Prop) → Act → Prop
  | [], K, a => K a
  | i :: r, K, a => ∃ v, Yields P l.toArray (l.getD i o0) v a ∧ wpFst P l r K (a.put (l.getD i o0).dst v)
def setL : List Nat → Array Bool → Array Bool
  | [], L => L
  | i :: r, L => setL r (L.setIfInBounds i true)
def ckP (md : Region.Mode) (ops : Array Oper) : List Nat → Array Bool → Bool
  | [], _ => true
  | i :: r, L => (Region.ready md ops L).contains i && Region.free md ops L i && decide (i < ops.size) && ckP md ops r (L.setIfInBounds i true)
def ckF (md : Region.Mode) (ops : Array Oper) : List Nat → Array Bool → Bool
  | [], _ => true
  | i :: r, L => decide (Region.ready md ops L = [i]) && ckF md ops r (L.setIfInBounds i true)
theorem any_first {l : List Oper} (hsel : Region.noSelect l.toArray = true) (hQ : ∀ c a a' w, Q (.panic c) a w → Q (.panic c) a' w) (m : Nat) (w : World) : ∀ (pl : List Nat) (L : Array Bool) (a : Act), ckP md l.toArray pl L = true →
    wpFst P l pl (fun a' => wpAny P md l.toArray Q m (setL pl L) a' w) a → wpAny P md l.toArray Q (m + pl.length) L a w
  | [], L, a, _, h => h
  | i :: r, L, a, hB, h => by
    simp only [ckP, Bool.and_eq_true, decide_eq_true_eq] at hB
    obtain ⟨⟨⟨hr, hf⟩, hi⟩, hB'⟩ := hB
    obtain ⟨v, hy, h'⟩ := h
    have hr' : i ∈ Region.ready md l.toArray L := by simpa using hr
    have ho : l.toArray[i]? = some (l.getD i o0) := by
      have hi' : i < l.length := by simpa using hi
      rw [List.getElem?_toArray, List.getD_eq_getElem?_getD, List.getElem?_eq_getElem hi']
      rfl
    exact wpAny_first ho (Region.noSelect_spec hsel) (fun c a w h => hQ c _ _ w h) _ L a w (Region.free_spec ho hf) hr' hy (any_first hsel hQ m w r _ _ hB' h')
theorem fst_mono {l : List Oper} {K K' : Act → Prop} (hK : ∀ a, K a → K' a) : ∀ (pl : List Nat) (a : Act), wpFst P l pl K a → wpFst P l pl K' a
  | [], a, h => hK a h
  | i :: r, a, ⟨v, hy, h⟩ => ⟨v, hy, fst_mono hK r _ h⟩
/-- What stands behind the forced ones. -/
def after (Q : Exit → Act → World → Prop) (K : Act → World → Prop) : Exit → Act → World → Prop
  | .normal, a, w => K a w
  | e, a, w => Q e a w
theorem wp_other {o : Oper} {a : Act} {w : World} {K : Act → World → Prop} {Q Q' : Exit → Act → World → Prop} (hQ : ∀ e a w, e ≠ .normal → Q e a w → Q' e a w) (hh : o.wp P a w K Q) : o.wp P a w K Q' := by
  unfold Oper.wp at *
  generalize (execOp a.eval o).run P w = r at *
  cases r with
  | ok n w' =>
    cases n <;> simp only [Oper.upon] at hh ⊢ <;> first
      | exact hh
      | exact Calls.mono hh (fun e w'' he => by
          cases e
          · exact he
          · exact hQ _ _ _ (by intro h; cases h) he
          · obtain ⟨a, w, h⟩ := he
            exact ⟨a, w, hQ _ _ _ (by intro h; cases h) h⟩)
  | halt x w' => cases x <;> simp only [Oper.upon] at hh ⊢ <;> first | exact hh | exact hQ _ _ _ (by intro h; cases h) hh
theorem wpOp_other {i : Nat} {a : Act} {w : World} {K : Act → World → Prop} {Q Q' : Exit → Act → World → Prop} (hQ : ∀ e a w, e ≠ .normal → Q e a w → Q' e a w) (hh : wpOp P ops Q i K a w) : wpOp P ops Q' i K a w := by
  unfold wpOp at *
  split
  · simpa [*] using hh
  · rename_i o ho
    simp only [ho] at hh
    split
    · rename_i hw
      simp only [hw, if_true] at hh
      rcases hh with h | ⟨h1, a2, w2, h2⟩
      · exact .inl (wp_other hQ h)
      · exact .inr ⟨h1, a2, w2, hQ _ _ _ (by intro h; cases h) h2⟩
    · rename_i hw
      simpa [hw] using hh
theorem any_forced (m : Nat) : ∀ (fl : List Nat) (l : List Oper) (L : Array Bool) (a : Act) (w : World), (∀ j : Nat, l[j]? = (fl[j]?).bind fun i => ops[i]?) → l.length = fl.length → ckF md ops fl L = true →
    wpList P ops (NoPanic (after Q fun a' w' => wpAny P md ops (NoPanic Q) m (setL fl L) a' w')) l a w → wpAny P md ops (NoPanic Q) (m + fl.length) L a w
  | [], [], L, a, w, _, _, _, h => h
  | [], _ :: _, _, _, _, _, hl, _, _ => by simp at hl
  | _ :: _, [], _, _, _, _, hl, _, _ => by simp at hl
  | i :: r, o :: l, L, a, w, hl, hz, hB, h => by
    have h0 : ops[i]? = some o := by simpa using (hl 0).symm
    simp only [ckF, Bool.and_eq_true, decide_eq_true_eq] at hB
    refine ⟨fun h1 => (by rw [hB.1] at h1; cases h1), fun j hj => ?_⟩
    rw [hB.1] at hj
    have hji : j = i := by simpa using hj
    subst hji
    have hw : wpOp P ops (NoPanic (after Q fun a' w' => wpAny P md ops (NoPanic Q) m (setL r (L.setIfInBounds j true)) a' w')) j (wpList P ops (NoPanic (after Q fun a' w' => wpAny P md ops (NoPanic Q) m (setL r (L.setIfInBounds j true)) a' w')) l) a w := by
      unfold wpOp; simp only [h0]; exact h
    have hw2 := wpOp_mono (fun a' w' h' => any_forced m r l (L.setIfInBounds j true) a' w' (fun k => by have := hl (k + 1); simpa using this) (by simpa using hz) hB.2 h') hw
    refine wpOp_other ?_ hw2
    intro e a' w' he hh
    cases e <;> first | exact absurd rfl he | exact hh
theorem any_end {L : Array Bool} {a : Act} {w : World} (hr : Region.ready md ops L = []) (h : Q .normal a w) : wpAny P md ops (NoPanic Q) 0 L a w := ⟨hr, NoPanic.normal h⟩
theorem any_quiet {l : List Oper} {k : Nat} {L : Array Bool} {a : Act} {w : World} (hs : Region.noSelect ops = true) (hl : ∀ j, l[j]? = ops[k + j]?) (hB : Region.lexFrom md ops l.length k L = true)
    (h : wpQuiet P ops (fun w' => ∃ p : Regrown, w' = grow (redrawn w p.d) p.os) (fun a' => ∀ w', (∃ p : Regrown, w' = grow (redrawn w p.d) p.os) → Q .normal a' w') l a) : wpAny P md ops (NoPanic Q) l.length L a w :=
  wpAny_of_quiet (C := fun w' => ∃ p : Regrown, w' = grow (redrawn w p.d) p.os) (Q := fun a' => ∀ w', (∃ p : Regrown, w' = grow (redrawn w p.d) p.os) → Q .normal a' w') (fun a w' hw' h => NoPanic.normal (h w' hw')) _ _ _ _ ⟨⟨w.drawn, #[]⟩, by rw [grow_empty]; rfl⟩ (wpAnyQ_lex hs l k L a hl hB h)
def frontB (ops : Array Oper) (pl fl : List Nat) (m : Nat) : Bool :=
  Region.noSelect ops && ckP .any ops pl (Array.replicate ops.size false) && ckF .any ops fl (setL pl (Array.replicate ops.size false)) && decide (m + fl.length + pl.length = ops.size) && fl.all (fun i => decide (i < ops.size))
theorem picks (l : List Oper) : ∀ (fl : List Nat), (fl.all fun i => decide (i < l.length)) = true → (∀ j : Nat, (fl.map fun i => l.getD i o0)[j]? = (fl[j]?).bind fun i => l[i]?)
  | [], _, j => by simp
  | i :: r, h, j => by
    simp only [List.all_cons, Bool.and_eq_true, decide_eq_true_eq] at h
    cases j with
    | zero => simp [List.getD_eq_getElem?_getD, List.getElem?_eq_getElem h.1]
    | succ j => simpa using picks l r h.2 j
theorem any_rest {l : List Oper} (k : Nat) {m : Nat} {L : Array Bool} {a : Act} {w : World} (hs : Region.noSelect l.toArray = true) (hm : (l.drop k).length = m) (hB : Region.lexFrom md l.toArray m k L = true)
    (h : wpQuiet P l.toArray (fun w' => ∃ p : Regrown, w' = grow (redrawn w p.d) p.os) (fun a' => ∀ w', (∃ p : Regrown, w' = grow (redrawn w p.d) p.os) → Q .normal a' w') (l.drop k) a) : wpAny P md l.toArray (NoPanic Q) m L a w := by
  subst hm
  exact any_quiet hs (fun j => by rw [List.getElem?_drop, List.getElem?_toArray]) hB h
/-- THE REGION: first those of 'pl', then those of 'fl', then m more. -/
theorem wp_region_first {id : Nat} {a : Act} {w : World} {l : List Oper} (pl fl : List Nat) (m : Nat) (hm : P.follows .mixedOrders = true) (hB : frontB l.toArray pl fl m = true)
    (h : wpFst P l pl (fun a' => wpList P l.toArray (NoPanic (after Q fun a2 w2 => wpAny P .any l.toArray (NoPanic Q) m (setL fl (setL pl (Array.replicate l.toArray.size false))) a2 w2)) (fl.map fun i => l.getD i o0) a' { w with drawn := w.drawn + 1 }) a) : (Code.region id l.toArray true).wp P Q a w := by
  simp only [frontB, Bool.and_eq_true, decide_eq_true_eq] at hB
  obtain ⟨⟨⟨⟨hsel, hp⟩, hf⟩, hz⟩, hall⟩ := hB
  refine wp_region_noPanic ?_
  refine wp_region_any hm ?_
  have H := any_first (P := P) (Q := NoPanic Q) hsel (fun _ _ _ _ h => False.elim h) (m + fl.length) { w with drawn := w.drawn + 1 } pl _ a hp (?_ : wpFst P l pl _ a)
  · rw [hz] at H
    exact H
  refine fst_mono (fun a' h' => ?_) pl a h
  refine any_forced (Q := Q) m fl _ _ a' _ (fun j => ?_) (by simp) hf h'
  have := picks l fl (by simpa using hall) j
  simpa using this
end
section
variable {P : Program} {md : Region.Mode} {Q : Exit → Act → World → Prop} {S : World → Prop}

def wpFstS (P : Program) (S : World → Prop) (l : List Oper) : List Nat → (Act → Prop) → Act → Prop
  | [], K, a => K a
  | i :: r, K, a => ∃ v, YieldsIf P l.toArray S (l.getD i o0) v a ∧ wpFstS P S l r K (a.put (l.getD i o0).dst v)
theorem held_first {l : List Oper} (hsel : Region.noSelect l.toArray = true) (hQ : ∀ c a a' w, Q (.panic c) a w → Q (.panic c) a' w) (m : Nat) (w : World) (hS : S w) : ∀ (pl : List Nat) (L : Array Bool) (a : Act), ckP md l.toArray pl L = true →
    wpFstS P S l pl (fun a' => wpAnyH P md l.toArray Q S m (setL pl L) a' w) a → wpAnyH P md l.toArray Q S (m + pl.length) L a w
  | [], L, a, _, h => h
  | i :: r, L, a, hB, h => by
    simp only [ckP, Bool.and_eq_true, decide_eq_true_eq] at hB
    obtain ⟨⟨⟨hr, hf⟩, hi⟩, hB'⟩ := hB
    obtain ⟨v, hy, h'⟩ := h
    have ho : l.toArray[i]? = some (l.getD i o0) := by
      have hi' : i < l.length := by simpa using hi
      rw [List.getElem?_toArray, List.getD_eq_getElem?_getD, List.getElem?_eq_getElem hi']
      rfl
    exact wpAnyH_take ho hsel hf hr (fun c a w h => hQ c _ _ w h) hy hS (held_first hsel hQ m w hS r _ _ hB' h')
theorem held_one {l : List Oper} {m i : Nat} {L : Array Bool} {a : Act} {w : World} (hr : Region.ready md l.toArray L = [i]) (hi : decide (i < l.length) = true)
    (h : wpList P l.toArray (NoPanic (after Q fun a' w' => S w' ∧ wpAnyH P md l.toArray (NoPanic Q) S m (L.setIfInBounds i true) a' w')) [l.getD i o0] a w) : wpAnyH P md l.toArray (NoPanic Q) S (m + 1) L a w := by
  refine wpAnyH_all hr (by simp) (fun j hj => ?_)
  obtain rfl : j = i := by simpa using hj
  have hi' : j < l.length := by simpa using hi
  have h0 : l.toArray[j]? = some (l.getD j o0) := by
    rw [List.getElem?_toArray, List.getD_eq_getElem?_getD, List.getElem?_eq_getElem hi']
    rfl
  have hw : wpOp P l.toArray (NoPanic (after Q fun a' w' => S w' ∧ wpAnyH P md l.toArray (NoPanic Q) S m (L.setIfInBounds j true) a' w')) j (wpList P l.toArray (NoPanic (after Q fun a' w' => S w' ∧ wpAnyH P md l.toArray (NoPanic Q) S m (L.setIfInBounds j true) a' w')) []) a w := by
    unfold wpOp; simp only [h0]; exact h
  refine wpOp_mono (fun a' w' h' => h') (wpOp_other ?_ hw)
  intro e a' w' he hh
  cases e <;> first | exact absurd rfl he | exact hh
theorem held_end {ops : Array Oper} {L : Array Bool} {a : Act} {w : World} (hr : Region.ready md ops L = []) (h : Q .normal a w) : wpAnyH P md ops (NoPanic Q) S 0 L a w := ⟨hr, NoPanic.normal h⟩
def heldB (ops : Array Oper) (pl : List Nat) (m : Nat) : Bool := Region.noSelect ops && ckP .any ops pl (Array.replicate ops.size false) && decide (m + pl.length = ops.size)
/-- THE REGION, under S. -/
theorem wp_region_heldf {id : Nat} {a : Act} {w : World} {l : List Oper} (S : World → Prop) (pl : List Nat) (m : Nat) (hm : P.follows .mixedOrders = true) (hB : heldB l.toArray pl m = true) (hS : S { w with drawn := w.drawn + 1 })
    (h : wpFstS P S l pl (fun a' => wpAnyH P .any l.toArray (NoPanic Q) S m (setL pl (Array.replicate l.toArray.size false)) a' { w with drawn := w.drawn + 1 }) a) : (Code.region id l.toArray true).wp P Q a w := by
  simp only [heldB, Bool.and_eq_true, decide_eq_true_eq] at hB
  obtain ⟨⟨hsel, hp⟩, hz⟩ := hB
  refine wp_region_noPanic ?_
  refine wp_region_held (S := S) hm ?_
  have H := held_first (P := P) (Q := NoPanic Q) hsel (fun _ _ _ _ h => False.elim h) m { w with drawn := w.drawn + 1 } hS pl _ a hp h
  rw [hz] at H
  exact H
end
end Go.Proofs.Ytcianlgkfkccoaa.Fst
