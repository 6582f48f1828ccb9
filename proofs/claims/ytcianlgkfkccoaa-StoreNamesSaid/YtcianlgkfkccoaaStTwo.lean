/-
  Two stores at work, apart from one another.
-/
import Derived.Test.YtcianlgkfkccoaaStMakes
namespace Go.Proofs.Ytcianlgkfkccoaa
set_option linter.unusedSimpArgs false
set_option linter.unusedVariables false
open Go Go.RowKit

/-- Two stores, made since w0, in blocks apart. -/
def Two (w0 : World) (g : Nat) (fs : List (ByteArray × ByteArray)) (l : List St.En) (g' : Nat) (fs' : List (ByteArray × ByteArray)) (l' : List St.En) (repo : ByteArray) (w : World) : Prop :=
  Below w0.heap.size w0 w ∧ ∃ F G, Has w g F repo fs l ∧ Has w g' G repo fs' l' ∧ (∀ b, F b → ¬ G b) ∧ (∀ b, F b → w0.heap.size ≤ b) ∧ ∀ b, G b → w0.heap.size ≤ b
theorem Two.swap {w0 : World} {g : Nat} {fs : List (ByteArray × ByteArray)} {l : List St.En} {g' : Nat} {fs' : List (ByteArray × ByteArray)} {l' : List St.En} {repo : ByteArray} {w : World} (h : Two w0 g fs l g' fs' l' repo w) : Two w0 g' fs' l' g fs l repo w := by
  obtain ⟨h1, F, G, h2, h3, h4, h5, h6⟩ := h
  exact ⟨h1, G, F, h3, h2, fun b hg hf => h4 b hf hg, h6, h5⟩
theorem Two.fst {w0 : World} {g : Nat} {fs : List (ByteArray × ByteArray)} {l : List St.En} {g' : Nat} {fs' : List (ByteArray × ByteArray)} {l' : List St.En} {repo : ByteArray} {w : World} (h : Two w0 g fs l g' fs' l' repo w) : One w0 g repo fs l w := by
  obtain ⟨h1, F, G, h2, h3, h4, h5, h6⟩ := h
  exact ⟨h1, F, h2, h5⟩
theorem Two.later {w0 : World} {g : Nat} {fs : List (ByteArray × ByteArray)} {l : List St.En} {g' : Nat} {fs' : List (ByteArray × ByteArray)} {l' : List St.En} {repo : ByteArray} {w w' : World} (h : Two w0 g fs l g' fs' l' repo w) (hb : Below w.heap.size w w') : Two w0 g fs l g' fs' l' repo w' := by
  obtain ⟨h1, F, G, h2, h3, h4, h5, h6⟩ := h
  exact ⟨h1.trans (hb.mono h1.size), F, G, h2.below hb, h3.below hb, h4, h5, h6⟩
theorem Two.made {w0 : World} {g : Nat} {fs : List (ByteArray × ByteArray)} {l : List St.En} {g' : Nat} {fs' : List (ByteArray × ByteArray)} {repo : ByteArray} {w w' : World} (h : One w0 g repo fs l w) (hf : Fresh w g' repo fs' w') (hb : Below w.heap.size w w') : Two w0 g fs l g' fs' [] repo w' := by
  obtain ⟨h1, F, h2, h3⟩ := h
  obtain ⟨G, k1, k2⟩ := hf
  exact ⟨h1.trans (hb.mono h1.size), F, G, h2.below hb, k1, fun b hb hg => by have := h2.lt b hb; have := k2 b hg; omega, h3, fun b hb => Nat.le_trans h1.size (k2 b hb)⟩
theorem two_get {w0 : World} {g : Nat} {fs : List (ByteArray × ByteArray)} {l : List St.En} {g' : Nat} {fs' : List (ByteArray × ByteArray)} {l' : List St.En} {repo : ByteArray} {w : World} (h : Two w0 g fs l g' fs' l' repo w) (n : ByteArray) (c : Int) (hfl : fs.length ≤ 1000000) (hll : l.length ≤ 1000000) (hn : n.size ≤ 1000000) :
    Calls Try.prog 16 #[.pointer (some ⟨g, 0, none⟩), .string n, .int .i64 c] w fun e w' => e = .returned (getV fs l n c) ∧ Two w0 g fs (St.get fs l n c) g' fs' l' repo w' := by
  obtain ⟨h1, F, G, h2, h3, h4, h5, h6⟩ := h
  refine (get_has h2 n c hfl hll hn).mono ?_
  rintro e w' ⟨rfl, F', hH, hK, hS⟩
  exact ⟨rfl, hK.below h1 h5 h1.size, F', G, hH, h3.keep hK (fun b hg hf => h4 b hf hg), fun b hf hg => (hS b hf).elim (fun h => h4 b h hg) (fun h => by have := h3.lt b hg; omega), fun b hb => (hS b hb).elim (h5 b) (Nat.le_trans h1.size), h6⟩
theorem two_get2 {w0 : World} {g : Nat} {fs : List (ByteArray × ByteArray)} {l : List St.En} {g' : Nat} {fs' : List (ByteArray × ByteArray)} {l' : List St.En} {repo : ByteArray} {w : World} (h : Two w0 g fs l g' fs' l' repo w) (n : ByteArray) (c : Int) (hfl : fs'.length ≤ 1000000) (hll : l'.length ≤ 1000000) (hn : n.size ≤ 1000000) :
    Calls Try.prog 16 #[.pointer (some ⟨g', 0, none⟩), .string n, .int .i64 c] w fun e w' => e = .returned (getV fs' l' n c) ∧ Two w0 g fs l g' fs' (St.get fs' l' n c) repo w' :=
  (two_get h.swap n c hfl hll hn).mono fun e w' ⟨he, h⟩ => ⟨he, h.swap⟩
theorem getV_ok {fs : List (ByteArray × ByteArray)} {l : List St.En} {n : ByteArray} {c : Int} (h : St.bad c = false) : getV fs l n c = .tuple #[.string (St.ans fs l n c).data, .int .i64 (St.ans fs l n c).size, .int .i64 0] := by
  unfold getV St.ansD St.ansS St.ansE
  rw [h]; rfl
theorem getV_bad {fs : List (ByteArray × ByteArray)} {l : List St.En} {n : ByteArray} {c : Int} (h : St.bad c = true) : getV fs l n c = .tuple #[.string ⟨#[]⟩, .int .i64 0, .int .i64 1] := by
  unfold getV St.ansD St.ansS St.ansE
  rw [h]; rfl
end Go.Proofs.Ytcianlgkfkccoaa
