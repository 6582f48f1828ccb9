/-
  A region that draws its order, by an invariant: what holds of the operations listed so far, the frame and the world. Each operation is looked at once, whatever came up ahead of it.
-/
import Derived.Orders
import Derived.WalkKit
namespace Go.Proofs.YtflfmacfodkedaaDoor.Lex
set_option linter.unusedSimpArgs false
set_option linter.unusedVariables false
open Go Go.RowKit

/-- How many operations are still to come. -/
def left_ (listed : Array Bool) : Nat := (listed.toList.filter fun b => !b).length
theorem left_set (listed : Array Bool) (i : Nat) (h : listed.getD i true = false) : left_ (listed.setIfInBounds i true) < left_ listed := by
  obtain ⟨l⟩ := listed
  have hi : l[i]? = some false := by
    rw [Array.getD_eq_getD_getElem?] at h
    simp only [List.getElem?_toArray] at h
    cases hl : l[i]? with
    | none => rw [hl] at h; cases h
    | some b => rw [hl] at h; simp at h; rw [h]
  unfold left_
  simp only [List.setIfInBounds_toArray]
  clear h
  induction l generalizing i with
  | nil => cases hi
  | cons b r ih =>
    cases i with
    | zero =>
      simp at hi
      subst hi
      simp
    | succ i =>
      simp at hi
      have := ih i hi
      rw [List.set_cons_succ]
      cases b <;> simp [List.filter_cons] <;> omega
theorem wpAny_inv {P : Program} {md : Region.Mode} {ops : Array Oper} {Q : Exit → Act → World → Prop} (J : Array Bool → Act → World → Prop)
    (hend : ∀ listed a w, J listed a w → Region.ready md ops listed = [] → Q .normal a w)
    (hstep : ∀ i o, ops[i]? = some o → ∀ listed a w, J listed a w → listed.getD i true = false → (∀ e ∈ o.after, Region.binds md e = true → listed.getD e.on false = true) →
      Region.wanted o (yielded ops a.tmps) = true ∧ o.wp P a w (J (listed.setIfInBounds i true)) Q) :
    ∀ (fuel : Nat) (listed : Array Bool) (a : Act) (w : World), J listed a w → left_ listed ≤ fuel → wpAny P md ops Q fuel listed a w
  | 0, listed, a, w, hJ, hf => by
    have h0 : Region.ready md ops listed = [] := by
      cases hr : Region.ready md ops listed with
      | nil => rfl
      | cons i r =>
        have hi : i ∈ Region.ready md ops listed := by rw [hr]; exact List.mem_cons_self ..
        have := left_set listed i (mem_ready.1 hi).1
        omega
    exact ⟨h0, hend _ _ _ hJ h0⟩
  | f + 1, listed, a, w, hJ, hf => by
    refine ⟨fun h0 => hend _ _ _ hJ h0, fun i hi => ?_⟩
    obtain ⟨h1, o, ho, h2⟩ := mem_ready.1 hi
    obtain ⟨hw, hs⟩ := hstep i o ho listed a w hJ h1 h2
    unfold wpOp
    rw [ho]
    simp only [hw, if_true]
    refine Or.inl (Oper.wp_mono (fun a' w' h' => ?_) hs)
    exact wpAny_inv J hend hstep f _ a' w' h' (by have := left_set listed i h1; omega)
theorem wp_region_inv {P : Program} {id : Nat} {l : List Oper} {Q : Exit → Act → World → Prop} {a : Act} {w : World} (J : Array Bool → Act → World → Prop) (hm : P.follows .mixedOrders = true)
    (h0 : J (Array.replicate l.length false) a { w with drawn := w.drawn + 1 })
    (hend : ∀ listed a w, J listed a w → Region.ready .any l.toArray listed = [] → Q .normal a w)
    (hstep : ∀ i o, l[i]? = some o → ∀ listed a w, J listed a w → listed.getD i true = false → (∀ e ∈ o.after, Region.binds .any e = true → listed.getD e.on false = true) →
      Region.wanted o (yielded l.toArray a.tmps) = true ∧ o.wp P a w (J (listed.setIfInBounds i true)) Q) : (Code.region id l.toArray true).wp P Q a w := by
  refine wp_region_any hm ?_
  refine wpAny_inv J hend (fun i o ho => hstep i o (by simpa using ho)) _ _ _ _ (by simpa using h0) ?_
  unfold left_
  simp
end Go.Proofs.YtflfmacfodkedaaDoor.Lex
