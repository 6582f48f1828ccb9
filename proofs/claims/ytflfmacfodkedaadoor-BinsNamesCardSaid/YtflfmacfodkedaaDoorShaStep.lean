/-
  The walk of the document's step, its first part: a statement whose order is open: three variables are made, two of them from calls.
-/
import Derived.Test.YtflfmacfodkedaaDoorShaRef
import Derived.Test.YtflfmacfodkedaaDoorInv
import Derived.Deep.WholeRow
namespace Go.Proofs.YtflfmacfodkedaaDoor
set_option linter.unusedSimpArgs false
set_option linter.unusedVariables false
open Go Go.RowKit
attribute [local irreducible] Sh.ws

def stV (S : Sh.St) : Array Value := #[vU S.a, vU S.b, vU S.c, vU S.d, vU S.e, vU S.f, vU S.g, vU S.h]
theorem stV_size (S : Sh.St) : (stV S).size = 8 := rfl
theorem stV_one (S : Sh.St) : (stV S).all (·.oneCell') = true := by simp [stV, Value.oneCell']
theorem w8_size : (Tryd.prog.info? 80).map (·.size) = some 8 := by kernel_rfl
def zero8 : Array Value := Array.mk (List.replicate 8 (.int .u32 0))
theorem getD_lay (L : Array Bool) (i j : Nat) (hi : i < L.size) : (L.setIfInBounds i true).getD j false = if i = j then true else L.getD j false := by
  rw [Array.getD_eq_getD_getElem?, Array.getD_eq_getD_getElem?, Array.getElem?_setIfInBounds]
  by_cases h : i = j
  · subst h; simp [hi]
  · simp [h]
theorem getD_un {L : Array Bool} {i : Nat} (h : L.getD i true = false) : L.getD i false = false := by
  rw [Array.getD_eq_getD_getElem?] at h ⊢
  cases hl : L[i]? with
  | none => rfl
  | some b => rw [hl] at h; simpa using h
/-- The frame of step while its region 1 runs. -/
def stF (S : Sh.St) (s : ByteArray) (g0 : Nat) (v5 v6 v7 v14 v15 v16 v17 : Value) : Act := ⟨#[.agg (stV S), .string s, .pointer (some ⟨g0, 0, none⟩), undef, .pointer (some ⟨g0 + 1, 0, none⟩), v5, v6, v7, undef, undef, undef, undef, undef, undef, v14, v15, v16, v17, undef, undef, undef, undef, undef, undef, undef, undef, undef, undef, undef, undef, undef, undef, undef, undef, undef, undef, undef, undef, undef, undef, undef, undef, undef, undef, undef, undef, undef, undef, undef, undef, undef, undef, undef, undef, undef, undef, undef, undef, undef, undef, undef, undef, undef, undef, undef, undef, undef, undef, undef, undef, undef, undef, undef, undef, undef, undef, undef, undef, undef, undef, undef, undef, undef, undef, undef, undef, undef, undef, undef, undef, undef, undef, undef, undef, undef, undef, undef, undef, undef, undef, undef, undef, undef, undef, undef, undef, undef, undef, undef, undef, undef, undef, undef, undef], []⟩
/-- What holds while the region runs, by what has come up. -/
structure StI (S : Sh.St) (s : ByteArray) (w1 : World) (l0 l1 l2 l3 l4 l5 l6 l7 l8 l9 : Bool) (v5 v6 v7 v14 v15 v16 v17 : Value) (w' : World) : Prop where
  bel : Below w1.heap.size w1 w'
  c0 : l0 = true → v14 = .string s
  c1 : l1 = true → v15 = .agg (wsV (byt s))
  c2 : l2 = true → v16 = .agg keysV
  c3 : l3 = true → v17 = .agg (stV S)
  a5 : l4 = true → ∃ g cs, v5 = .pointer (some ⟨g, 0, none⟩) ∧ w1.heap.size ≤ g ∧ Bk w' g 88 cs ∧ cs.size = 64 ∧ (l7 = true → cs = wsV (byt s))
  a6 : l5 = true → ∃ g cs, v6 = .pointer (some ⟨g, 0, none⟩) ∧ w1.heap.size ≤ g ∧ Bk w' g 88 cs ∧ cs.size = 64 ∧ (l8 = true → cs = keysV)
  a7 : l6 = true → ∃ g cs, v7 = .pointer (some ⟨g, 0, none⟩) ∧ w1.heap.size ≤ g ∧ Bk w' g 80 cs ∧ cs.size = 8 ∧ (l9 = true → cs = stV S)
  d56 : l4 = true → l5 = true → v5 ≠ v6
  d57 : l4 = true → l6 = true → v5 ≠ v7
  d67 : l5 = true → l6 = true → v6 ≠ v7
  k7 : l7 = true → l4 = true
  k8 : l8 = true → l5 = true
  k9 : l9 = true → l6 = true
theorem StI.op0 {S : Sh.St} {s : ByteArray} {w1 w' : World} {l0 l1 l2 l3 l4 l5 l6 l7 l8 l9 : Bool} {v5 v6 v7 v14 v15 v16 v17 : Value} (h : StI S s w1 l0 l1 l2 l3 l4 l5 l6 l7 l8 l9 v5 v6 v7 v14 v15 v16 v17 w') : StI S s w1 true l1 l2 l3 l4 l5 l6 l7 l8 l9 v5 v6 v7 (.string s) v15 v16 v17 w' :=
  ⟨h.bel, fun _ => rfl, h.c1, h.c2, h.c3, h.a5, h.a6, h.a7, h.d56, h.d57, h.d67, h.k7, h.k8, h.k9⟩
theorem StI.op1 {S : Sh.St} {s : ByteArray} {w1 w' : World} {l0 l1 l2 l3 l4 l5 l6 l7 l8 l9 : Bool} {v5 v6 v7 v14 v15 v16 v17 : Value} (h : StI S s w1 l0 l1 l2 l3 l4 l5 l6 l7 l8 l9 v5 v6 v7 v14 v15 v16 v17 w') : StI S s w1 l0 true l2 l3 l4 l5 l6 l7 l8 l9 v5 v6 v7 v14 (.agg (wsV (byt s))) v16 v17 w' :=
  ⟨h.bel, h.c0, fun _ => rfl, h.c2, h.c3, h.a5, h.a6, h.a7, h.d56, h.d57, h.d67, h.k7, h.k8, h.k9⟩
theorem StI.op2 {S : Sh.St} {s : ByteArray} {w1 w' : World} {l0 l1 l2 l3 l4 l5 l6 l7 l8 l9 : Bool} {v5 v6 v7 v14 v15 v16 v17 : Value} (h : StI S s w1 l0 l1 l2 l3 l4 l5 l6 l7 l8 l9 v5 v6 v7 v14 v15 v16 v17 w') : StI S s w1 l0 l1 true l3 l4 l5 l6 l7 l8 l9 v5 v6 v7 v14 v15 (.agg keysV) v17 w' :=
  ⟨h.bel, h.c0, h.c1, fun _ => rfl, h.c3, h.a5, h.a6, h.a7, h.d56, h.d57, h.d67, h.k7, h.k8, h.k9⟩
theorem StI.op3 {S : Sh.St} {s : ByteArray} {w1 w' : World} {l0 l1 l2 l3 l4 l5 l6 l7 l8 l9 : Bool} {v5 v6 v7 v14 v15 v16 v17 : Value} (h : StI S s w1 l0 l1 l2 l3 l4 l5 l6 l7 l8 l9 v5 v6 v7 v14 v15 v16 v17 w') : StI S s w1 l0 l1 l2 true l4 l5 l6 l7 l8 l9 v5 v6 v7 v14 v15 v16 (.agg (stV S)) w' :=
  ⟨h.bel, h.c0, h.c1, h.c2, fun _ => rfl, h.a5, h.a6, h.a7, h.d56, h.d57, h.d67, h.k7, h.k8, h.k9⟩
theorem StI.world {S : Sh.St} {s : ByteArray} {w1 w' : World} {l0 l1 l2 l3 l4 l5 l6 l7 l8 l9 : Bool} {v5 v6 v7 v14 v15 v16 v17 : Value} {w'' : World} (h : StI S s w1 l0 l1 l2 l3 l4 l5 l6 l7 l8 l9 v5 v6 v7 v14 v15 v16 v17 w') (hb : Below w'.heap.size w' w'') : StI S s w1 l0 l1 l2 l3 l4 l5 l6 l7 l8 l9 v5 v6 v7 v14 v15 v16 v17 w'' :=
  ⟨h.bel.trans (hb.mono h.bel.size), h.c0, h.c1, h.c2, h.c3, fun e => by obtain ⟨g, cs, e1, e2, e3, e4, e5⟩ := h.a5 e; exact ⟨g, cs, e1, e2, e3.below hb e3.lt, e4, e5⟩, fun e => by obtain ⟨g, cs, e1, e2, e3, e4, e5⟩ := h.a6 e; exact ⟨g, cs, e1, e2, e3.below hb e3.lt, e4, e5⟩, fun e => by obtain ⟨g, cs, e1, e2, e3, e4, e5⟩ := h.a7 e; exact ⟨g, cs, e1, e2, e3.below hb e3.lt, e4, e5⟩, h.d56, h.d57, h.d67, h.k7, h.k8, h.k9⟩
theorem StI.op4 {S : Sh.St} {s : ByteArray} {w1 w' : World} {l0 l1 l2 l3 l4 l5 l6 l7 l8 l9 : Bool} {v5 v6 v7 v14 v15 v16 v17 : Value} (h : StI S s w1 l0 l1 l2 l3 l4 l5 l6 l7 l8 l9 v5 v6 v7 v14 v15 v16 v17 w') (hl : l4 = false) : StI S s w1 l0 l1 l2 l3 true l5 l6 l7 l8 l9 (.pointer (some ⟨w'.heap.size, 0, none⟩)) v6 v7 v14 v15 v16 v17 (w'.alloc (.cells zero64 88)) := by
  have hk := h.k7
  have h2 := h.world (w'' := (w'.alloc (.cells zero64 88))) ((Below.refl _ _).alloc (Nat.le_refl _) _)
  exact ⟨h2.bel, h2.c0, h2.c1, h2.c2, h2.c3, fun _ => ⟨w'.heap.size, zero64, rfl, h.bel.size, Bk.fresh w' _ _, rfl, fun e => by rw [hl] at hk; exact absurd (hk e) (by decide)⟩, h2.a6, h2.a7, fun _ e => by obtain ⟨g, cs, e1, e2, e3, e4, e5⟩ := h.a6 e; rw [e1]; intro e6; simp at e6; have := e3.lt; omega, fun _ e => by obtain ⟨g, cs, e1, e2, e3, e4, e5⟩ := h.a7 e; rw [e1]; intro e6; simp at e6; have := e3.lt; omega, h2.d67, fun _ => rfl, h2.k8, h2.k9⟩
theorem StI.op5 {S : Sh.St} {s : ByteArray} {w1 w' : World} {l0 l1 l2 l3 l4 l5 l6 l7 l8 l9 : Bool} {v5 v6 v7 v14 v15 v16 v17 : Value} (h : StI S s w1 l0 l1 l2 l3 l4 l5 l6 l7 l8 l9 v5 v6 v7 v14 v15 v16 v17 w') (hl : l5 = false) : StI S s w1 l0 l1 l2 l3 l4 true l6 l7 l8 l9 v5 (.pointer (some ⟨w'.heap.size, 0, none⟩)) v7 v14 v15 v16 v17 (w'.alloc (.cells zero64 88)) := by
  have hk := h.k8
  have h2 := h.world (w'' := (w'.alloc (.cells zero64 88))) ((Below.refl _ _).alloc (Nat.le_refl _) _)
  exact ⟨h2.bel, h2.c0, h2.c1, h2.c2, h2.c3, h2.a5, fun _ => ⟨w'.heap.size, zero64, rfl, h.bel.size, Bk.fresh w' _ _, rfl, fun e => by rw [hl] at hk; exact absurd (hk e) (by decide)⟩, h2.a7, fun e _ => by obtain ⟨g, cs, e1, e2, e3, e4, e5⟩ := h.a5 e; rw [e1]; intro e6; simp at e6; have := e3.lt; omega, h2.d57, fun _ e => by obtain ⟨g, cs, e1, e2, e3, e4, e5⟩ := h.a7 e; rw [e1]; intro e6; simp at e6; have := e3.lt; omega, h2.k7, fun _ => rfl, h2.k9⟩
theorem StI.op6 {S : Sh.St} {s : ByteArray} {w1 w' : World} {l0 l1 l2 l3 l4 l5 l6 l7 l8 l9 : Bool} {v5 v6 v7 v14 v15 v16 v17 : Value} (h : StI S s w1 l0 l1 l2 l3 l4 l5 l6 l7 l8 l9 v5 v6 v7 v14 v15 v16 v17 w') (hl : l6 = false) : StI S s w1 l0 l1 l2 l3 l4 l5 true l7 l8 l9 v5 v6 (.pointer (some ⟨w'.heap.size, 0, none⟩)) v14 v15 v16 v17 (w'.alloc (.cells zero8 80)) := by
  have hk := h.k9
  have h2 := h.world (w'' := (w'.alloc (.cells zero8 80))) ((Below.refl _ _).alloc (Nat.le_refl _) _)
  exact ⟨h2.bel, h2.c0, h2.c1, h2.c2, h2.c3, h2.a5, h2.a6, fun _ => ⟨w'.heap.size, zero8, rfl, h.bel.size, Bk.fresh w' _ _, rfl, fun e => by rw [hl] at hk; exact absurd (hk e) (by decide)⟩, h2.d56, fun e _ => by obtain ⟨g, cs, e1, e2, e3, e4, e5⟩ := h.a5 e; rw [e1]; intro e6; simp at e6; have := e3.lt; omega, fun e _ => by obtain ⟨g, cs, e1, e2, e3, e4, e5⟩ := h.a6 e; rw [e1]; intro e6; simp at e6; have := e3.lt; omega, h2.k7, h2.k8, fun _ => rfl⟩
theorem StI.op7 {S : Sh.St} {s : ByteArray} {w1 w' : World} {l0 l1 l2 l3 l4 l5 l6 l7 l8 l9 : Bool} {v5 v6 v7 v14 v15 v16 v17 : Value} {g : Nat} {cs : Array Value} (h : StI S s w1 l0 l1 l2 l3 l4 l5 l6 l7 l8 l9 v5 v6 v7 v14 v15 v16 v17 w') (hl : l4 = true) (e1 : v5 = .pointer (some ⟨g, 0, none⟩)) (e2 : w1.heap.size ≤ g) (e3 : Bk w' g 88 cs) : StI S s w1 l0 l1 l2 l3 l4 l5 l6 true l8 l9 v5 v6 v7 v14 v15 v16 v17 (w'.setRow g (wsV (byt s))) :=
  ⟨below_one h.bel (one_row (one_refl _ _) _) h.bel.size (fun g hg => by cases hg; exact e2), h.c0, h.c1, h.c2, h.c3, fun _ => ⟨g, wsV (byt s), e1, e2, e3.row _, wsV_size _, fun _ => rfl⟩, fun e => by
    obtain ⟨g', cs', f1, f2, f3, f4, f5⟩ := h.a6 e
    refine ⟨g', cs', f1, f2, f3.grow (one_row (one_refl _ _) _) ?_, f4, f5⟩
    intro e7
    have := h.d56 hl e
    cases e7
    exact this (e1.trans f1.symm), fun e => by
    obtain ⟨g', cs', f1, f2, f3, f4, f5⟩ := h.a7 e
    refine ⟨g', cs', f1, f2, f3.grow (one_row (one_refl _ _) _) ?_, f4, f5⟩
    intro e7
    have := h.d57 hl e
    cases e7
    exact this (e1.trans f1.symm), h.d56, h.d57, h.d67, fun _ => hl, h.k8, h.k9⟩
theorem StI.op8 {S : Sh.St} {s : ByteArray} {w1 w' : World} {l0 l1 l2 l3 l4 l5 l6 l7 l8 l9 : Bool} {v5 v6 v7 v14 v15 v16 v17 : Value} {g : Nat} {cs : Array Value} (h : StI S s w1 l0 l1 l2 l3 l4 l5 l6 l7 l8 l9 v5 v6 v7 v14 v15 v16 v17 w') (hl : l5 = true) (e1 : v6 = .pointer (some ⟨g, 0, none⟩)) (e2 : w1.heap.size ≤ g) (e3 : Bk w' g 88 cs) : StI S s w1 l0 l1 l2 l3 l4 l5 l6 l7 true l9 v5 v6 v7 v14 v15 v16 v17 (w'.setRow g (keysV)) :=
  ⟨below_one h.bel (one_row (one_refl _ _) _) h.bel.size (fun g hg => by cases hg; exact e2), h.c0, h.c1, h.c2, h.c3, fun e => by
    obtain ⟨g', cs', f1, f2, f3, f4, f5⟩ := h.a5 e
    refine ⟨g', cs', f1, f2, f3.grow (one_row (one_refl _ _) _) ?_, f4, f5⟩
    intro e7
    have := h.d56 e hl
    cases e7
    exact this (f1.trans e1.symm), fun _ => ⟨g, keysV, e1, e2, e3.row _, rfl, fun _ => rfl⟩, fun e => by
    obtain ⟨g', cs', f1, f2, f3, f4, f5⟩ := h.a7 e
    refine ⟨g', cs', f1, f2, f3.grow (one_row (one_refl _ _) _) ?_, f4, f5⟩
    intro e7
    have := h.d67 hl e
    cases e7
    exact this (e1.trans f1.symm), h.d56, h.d57, h.d67, h.k7, fun _ => hl, h.k9⟩
theorem StI.op9 {S : Sh.St} {s : ByteArray} {w1 w' : World} {l0 l1 l2 l3 l4 l5 l6 l7 l8 l9 : Bool} {v5 v6 v7 v14 v15 v16 v17 : Value} {g : Nat} {cs : Array Value} (h : StI S s w1 l0 l1 l2 l3 l4 l5 l6 l7 l8 l9 v5 v6 v7 v14 v15 v16 v17 w') (hl : l6 = true) (e1 : v7 = .pointer (some ⟨g, 0, none⟩)) (e2 : w1.heap.size ≤ g) (e3 : Bk w' g 80 cs) : StI S s w1 l0 l1 l2 l3 l4 l5 l6 l7 l8 true v5 v6 v7 v14 v15 v16 v17 (w'.setRow g (stV S)) :=
  ⟨below_one h.bel (one_row (one_refl _ _) _) h.bel.size (fun g hg => by cases hg; exact e2), h.c0, h.c1, h.c2, h.c3, fun e => by
    obtain ⟨g', cs', f1, f2, f3, f4, f5⟩ := h.a5 e
    refine ⟨g', cs', f1, f2, f3.grow (one_row (one_refl _ _) _) ?_, f4, f5⟩
    intro e7
    have := h.d57 e hl
    cases e7
    exact this (f1.trans e1.symm), fun e => by
    obtain ⟨g', cs', f1, f2, f3, f4, f5⟩ := h.a6 e
    refine ⟨g', cs', f1, f2, f3.grow (one_row (one_refl _ _) _) ?_, f4, f5⟩
    intro e7
    have := h.d67 e hl
    cases e7
    exact this (f1.trans e1.symm), fun _ => ⟨g, stV S, e1, e2, e3.row _, rfl, fun _ => rfl⟩, h.d56, h.d57, h.d67, h.k7, h.k8, fun _ => hl⟩
structure StL (S : Sh.St) (s : ByteArray) (w1 : World) (L : Array Bool) (v5 v6 v7 v14 v15 v16 v17 : Value) (w' : World) : Prop where
  size : L.size = 10
  inv : StI S s w1 (L.getD 0 false) (L.getD 1 false) (L.getD 2 false) (L.getD 3 false) (L.getD 4 false) (L.getD 5 false) (L.getD 6 false) (L.getD 7 false) (L.getD 8 false) (L.getD 9 false) v5 v6 v7 v14 v15 v16 v17 w'
def StJ (S : Sh.St) (s : ByteArray) (w1 : World) (g0 : Nat) (L : Array Bool) (a : Act) (w' : World) : Prop :=
  ∃ v5 v6 v7 v14 v15 v16 v17, a = stF S s g0 v5 v6 v7 v14 v15 v16 v17 ∧ StL S s w1 L v5 v6 v7 v14 v15 v16 v17 w'
theorem StL.of0 {S : Sh.St} {s : ByteArray} {w1 w' : World} {L : Array Bool} {v5 v6 v7 v14 v15 v16 v17 : Value} (hs : L.size = 10) (h : StI S s w1 true (L.getD 1 false) (L.getD 2 false) (L.getD 3 false) (L.getD 4 false) (L.getD 5 false) (L.getD 6 false) (L.getD 7 false) (L.getD 8 false) (L.getD 9 false) v5 v6 v7 v14 v15 v16 v17 w') : StL S s w1 (L.setIfInBounds 0 true) v5 v6 v7 v14 v15 v16 v17 w' :=
  ⟨by rw [Array.size_setIfInBounds]; exact hs, by simpa only [getD_lay L 0 _ (by omega), if_true, show ¬ (0 : Nat) = 1 by decide, show ¬ (0 : Nat) = 2 by decide, show ¬ (0 : Nat) = 3 by decide, show ¬ (0 : Nat) = 4 by decide, show ¬ (0 : Nat) = 5 by decide, show ¬ (0 : Nat) = 6 by decide, show ¬ (0 : Nat) = 7 by decide, show ¬ (0 : Nat) = 8 by decide, show ¬ (0 : Nat) = 9 by decide, if_false] using h⟩
theorem StL.of1 {S : Sh.St} {s : ByteArray} {w1 w' : World} {L : Array Bool} {v5 v6 v7 v14 v15 v16 v17 : Value} (hs : L.size = 10) (h : StI S s w1 (L.getD 0 false) true (L.getD 2 false) (L.getD 3 false) (L.getD 4 false) (L.getD 5 false) (L.getD 6 false) (L.getD 7 false) (L.getD 8 false) (L.getD 9 false) v5 v6 v7 v14 v15 v16 v17 w') : StL S s w1 (L.setIfInBounds 1 true) v5 v6 v7 v14 v15 v16 v17 w' :=
  ⟨by rw [Array.size_setIfInBounds]; exact hs, by simpa only [getD_lay L 1 _ (by omega), if_true, show ¬ (1 : Nat) = 0 by decide, show ¬ (1 : Nat) = 2 by decide, show ¬ (1 : Nat) = 3 by decide, show ¬ (1 : Nat) = 4 by decide, show ¬ (1 : Nat) = 5 by decide, show ¬ (1 : Nat) = 6 by decide, show ¬ (1 : Nat) = 7 by decide, show ¬ (1 : Nat) = 8 by decide, show ¬ (1 : Nat) = 9 by decide, if_false] using h⟩
theorem StL.of2 {S : Sh.St} {s : ByteArray} {w1 w' : World} {L : Array Bool} {v5 v6 v7 v14 v15 v16 v17 : Value} (hs : L.size = 10) (h : StI S s w1 (L.getD 0 false) (L.getD 1 false) true (L.getD 3 false) (L.getD 4 false) (L.getD 5 false) (L.getD 6 false) (L.getD 7 false) (L.getD 8 false) (L.getD 9 false) v5 v6 v7 v14 v15 v16 v17 w') : StL S s w1 (L.setIfInBounds 2 true) v5 v6 v7 v14 v15 v16 v17 w' :=
  ⟨by rw [Array.size_setIfInBounds]; exact hs, by simpa only [getD_lay L 2 _ (by omega), if_true, show ¬ (2 : Nat) = 0 by decide, show ¬ (2 : Nat) = 1 by decide, show ¬ (2 : Nat) = 3 by decide, show ¬ (2 : Nat) = 4 by decide, show ¬ (2 : Nat) = 5 by decide, show ¬ (2 : Nat) = 6 by decide, show ¬ (2 : Nat) = 7 by decide, show ¬ (2 : Nat) = 8 by decide, show ¬ (2 : Nat) = 9 by decide, if_false] using h⟩
theorem StL.of3 {S : Sh.St} {s : ByteArray} {w1 w' : World} {L : Array Bool} {v5 v6 v7 v14 v15 v16 v17 : Value} (hs : L.size = 10) (h : StI S s w1 (L.getD 0 false) (L.getD 1 false) (L.getD 2 false) true (L.getD 4 false) (L.getD 5 false) (L.getD 6 false) (L.getD 7 false) (L.getD 8 false) (L.getD 9 false) v5 v6 v7 v14 v15 v16 v17 w') : StL S s w1 (L.setIfInBounds 3 true) v5 v6 v7 v14 v15 v16 v17 w' :=
  ⟨by rw [Array.size_setIfInBounds]; exact hs, by simpa only [getD_lay L 3 _ (by omega), if_true, show ¬ (3 : Nat) = 0 by decide, show ¬ (3 : Nat) = 1 by decide, show ¬ (3 : Nat) = 2 by decide, show ¬ (3 : Nat) = 4 by decide, show ¬ (3 : Nat) = 5 by decide, show ¬ (3 : Nat) = 6 by decide, show ¬ (3 : Nat) = 7 by decide, show ¬ (3 : Nat) = 8 by decide, show ¬ (3 : Nat) = 9 by decide, if_false] using h⟩
theorem StL.of4 {S : Sh.St} {s : ByteArray} {w1 w' : World} {L : Array Bool} {v5 v6 v7 v14 v15 v16 v17 : Value} (hs : L.size = 10) (h : StI S s w1 (L.getD 0 false) (L.getD 1 false) (L.getD 2 false) (L.getD 3 false) true (L.getD 5 false) (L.getD 6 false) (L.getD 7 false) (L.getD 8 false) (L.getD 9 false) v5 v6 v7 v14 v15 v16 v17 w') : StL S s w1 (L.setIfInBounds 4 true) v5 v6 v7 v14 v15 v16 v17 w' :=
  ⟨by rw [Array.size_setIfInBounds]; exact hs, by simpa only [getD_lay L 4 _ (by omega), if_true, show ¬ (4 : Nat) = 0 by decide, show ¬ (4 : Nat) = 1 by decide, show ¬ (4 : Nat) = 2 by decide, show ¬ (4 : Nat) = 3 by decide, show ¬ (4 : Nat) = 5 by decide, show ¬ (4 : Nat) = 6 by decide, show ¬ (4 : Nat) = 7 by decide, show ¬ (4 : Nat) = 8 by decide, show ¬ (4 : Nat) = 9 by decide, if_false] using h⟩
theorem StL.of5 {S : Sh.St} {s : ByteArray} {w1 w' : World} {L : Array Bool} {v5 v6 v7 v14 v15 v16 v17 : Value} (hs : L.size = 10) (h : StI S s w1 (L.getD 0 false) (L.getD 1 false) (L.getD 2 false) (L.getD 3 false) (L.getD 4 false) true (L.getD 6 false) (L.getD 7 false) (L.getD 8 false) (L.getD 9 false) v5 v6 v7 v14 v15 v16 v17 w') : StL S s w1 (L.setIfInBounds 5 true) v5 v6 v7 v14 v15 v16 v17 w' :=
  ⟨by rw [Array.size_setIfInBounds]; exact hs, by simpa only [getD_lay L 5 _ (by omega), if_true, show ¬ (5 : Nat) = 0 by decide, show ¬ (5 : Nat) = 1 by decide, show ¬ (5 : Nat) = 2 by decide, show ¬ (5 : Nat) = 3 by decide, show ¬ (5 : Nat) = 4 by decide, show ¬ (5 : Nat) = 6 by decide, show ¬ (5 : Nat) = 7 by decide, show ¬ (5 : Nat) = 8 by decide, show ¬ (5 : Nat) = 9 by decide, if_false] using h⟩
theorem StL.of6 {S : Sh.St} {s : ByteArray} {w1 w' : World} {L : Array Bool} {v5 v6 v7 v14 v15 v16 v17 : Value} (hs : L.size = 10) (h : StI S s w1 (L.getD 0 false) (L.getD 1 false) (L.getD 2 false) (L.getD 3 false) (L.getD 4 false) (L.getD 5 false) true (L.getD 7 false) (L.getD 8 false) (L.getD 9 false) v5 v6 v7 v14 v15 v16 v17 w') : StL S s w1 (L.setIfInBounds 6 true) v5 v6 v7 v14 v15 v16 v17 w' :=
  ⟨by rw [Array.size_setIfInBounds]; exact hs, by simpa only [getD_lay L 6 _ (by omega), if_true, show ¬ (6 : Nat) = 0 by decide, show ¬ (6 : Nat) = 1 by decide, show ¬ (6 : Nat) = 2 by decide, show ¬ (6 : Nat) = 3 by decide, show ¬ (6 : Nat) = 4 by decide, show ¬ (6 : Nat) = 5 by decide, show ¬ (6 : Nat) = 7 by decide, show ¬ (6 : Nat) = 8 by decide, show ¬ (6 : Nat) = 9 by decide, if_false] using h⟩
theorem StL.of7 {S : Sh.St} {s : ByteArray} {w1 w' : World} {L : Array Bool} {v5 v6 v7 v14 v15 v16 v17 : Value} (hs : L.size = 10) (h : StI S s w1 (L.getD 0 false) (L.getD 1 false) (L.getD 2 false) (L.getD 3 false) (L.getD 4 false) (L.getD 5 false) (L.getD 6 false) true (L.getD 8 false) (L.getD 9 false) v5 v6 v7 v14 v15 v16 v17 w') : StL S s w1 (L.setIfInBounds 7 true) v5 v6 v7 v14 v15 v16 v17 w' :=
  ⟨by rw [Array.size_setIfInBounds]; exact hs, by simpa only [getD_lay L 7 _ (by omega), if_true, show ¬ (7 : Nat) = 0 by decide, show ¬ (7 : Nat) = 1 by decide, show ¬ (7 : Nat) = 2 by decide, show ¬ (7 : Nat) = 3 by decide, show ¬ (7 : Nat) = 4 by decide, show ¬ (7 : Nat) = 5 by decide, show ¬ (7 : Nat) = 6 by decide, show ¬ (7 : Nat) = 8 by decide, show ¬ (7 : Nat) = 9 by decide, if_false] using h⟩
theorem StL.of8 {S : Sh.St} {s : ByteArray} {w1 w' : World} {L : Array Bool} {v5 v6 v7 v14 v15 v16 v17 : Value} (hs : L.size = 10) (h : StI S s w1 (L.getD 0 false) (L.getD 1 false) (L.getD 2 false) (L.getD 3 false) (L.getD 4 false) (L.getD 5 false) (L.getD 6 false) (L.getD 7 false) true (L.getD 9 false) v5 v6 v7 v14 v15 v16 v17 w') : StL S s w1 (L.setIfInBounds 8 true) v5 v6 v7 v14 v15 v16 v17 w' :=
  ⟨by rw [Array.size_setIfInBounds]; exact hs, by simpa only [getD_lay L 8 _ (by omega), if_true, show ¬ (8 : Nat) = 0 by decide, show ¬ (8 : Nat) = 1 by decide, show ¬ (8 : Nat) = 2 by decide, show ¬ (8 : Nat) = 3 by decide, show ¬ (8 : Nat) = 4 by decide, show ¬ (8 : Nat) = 5 by decide, show ¬ (8 : Nat) = 6 by decide, show ¬ (8 : Nat) = 7 by decide, show ¬ (8 : Nat) = 9 by decide, if_false] using h⟩
theorem StL.of9 {S : Sh.St} {s : ByteArray} {w1 w' : World} {L : Array Bool} {v5 v6 v7 v14 v15 v16 v17 : Value} (hs : L.size = 10) (h : StI S s w1 (L.getD 0 false) (L.getD 1 false) (L.getD 2 false) (L.getD 3 false) (L.getD 4 false) (L.getD 5 false) (L.getD 6 false) (L.getD 7 false) (L.getD 8 false) true v5 v6 v7 v14 v15 v16 v17 w') : StL S s w1 (L.setIfInBounds 9 true) v5 v6 v7 v14 v15 v16 v17 w' :=
  ⟨by rw [Array.size_setIfInBounds]; exact hs, by simpa only [getD_lay L 9 _ (by omega), if_true, show ¬ (9 : Nat) = 0 by decide, show ¬ (9 : Nat) = 1 by decide, show ¬ (9 : Nat) = 2 by decide, show ¬ (9 : Nat) = 3 by decide, show ¬ (9 : Nat) = 4 by decide, show ¬ (9 : Nat) = 5 by decide, show ¬ (9 : Nat) = 6 by decide, show ¬ (9 : Nat) = 7 by decide, show ¬ (9 : Nat) = 8 by decide, if_false] using h⟩
end Go.Proofs.YtflfmacfodkedaaDoor
