/-
  StoreApart: three stores apart, and a row of the call's own.
-/
import Derived.Test.YtcianlgkfkccoaaStCopy
namespace Go.Proofs.Ytcianlgkfkccoaa
set_option linter.unusedSimpArgs false
set_option linter.unusedVariables false
open Go Go.RowKit

namespace St
/-- What was fetched, behind the first k askings more. -/
def run (fs : List (ByteArray × ByteArray)) (q : List (ByteArray × Int)) (l : List En) : Nat → List En
  | 0 => l
  | k + 1 => get fs (run fs q l k) (q.getD k (⟨#[]⟩, 0)).1 (q.getD k (⟨#[]⟩, 0)).2
theorem run_len (fs : List (ByteArray × ByteArray)) (q : List (ByteArray × Int)) (l : List En) : ∀ k, (run fs q l k).length ≤ l.length + k
  | 0 => by unfold run; omega
  | k + 1 => by
    have h1 := run_len fs q l k
    have h2 := get_len fs (run fs q l k) (q.getD k (⟨#[]⟩, 0)).1 (q.getD k (⟨#[]⟩, 0)).2
    show (get fs (run fs q l k) (q.getD k (⟨#[]⟩, 0)).1 (q.getD k (⟨#[]⟩, 0)).2).length ≤ _
    omega
end St
structure Tri (w0 : World) (g gc gd : Nat) (fs : List (ByteArray × ByteArray)) (l lc ld lw : List St.En) (va : Value) (w : World) : Prop where
  bel : Below w0.heap.size w0 w
  row : w.ownsRow w0.heap.size 41 4 va lw.length (fetC ⟨#[114]⟩ lw)
  has : ∃ F G K, Has w g F ⟨#[114]⟩ fs l ∧ Has w gc G ⟨#[114]⟩ fs lc ∧ Has w gd K ⟨#[114]⟩ fs ld ∧ (∀ b, F b → ¬ G b) ∧ (∀ b, F b → ¬ K b) ∧ (∀ b, G b → ¬ K b) ∧
    (∀ b, F b → w0.heap.size ≤ b) ∧ (∀ b, G b → w0.heap.size ≤ b) ∧ (∀ b, K b → w0.heap.size ≤ b) ∧ (∀ b, va.ownBlock = some b → ¬ F b ∧ ¬ G b ∧ ¬ K b)
section
variable {w0 w w' : World} {g gc gd : Nat} {fs : List (ByteArray × ByteArray)} {l lc ld lw : List St.En} {va : Value}
theorem Tri.swap (h : Tri w0 g gc gd fs l lc ld lw va w) : Tri w0 gc g gd fs lc l ld lw va w := by
  obtain ⟨F, G, K, h1, h2, h3, h4, h5, h6, h7, h8, h9, h10⟩ := h.has
  exact ⟨h.bel, h.row, G, F, K, h2, h1, h3, fun b hg hf => h4 b hf hg, h6, h5, h8, h7, h9, fun b hb => ⟨(h10 b hb).2.1, (h10 b hb).1, (h10 b hb).2.2⟩⟩
theorem Tri.later (h : Tri w0 g gc gd fs l lc ld lw va w) (hb : Below w.heap.size w w') : Tri w0 g gc gd fs l lc ld lw va w' := by
  obtain ⟨F, G, K, h1, h2, h3, h4⟩ := h.has
  exact ⟨h.bel.trans (hb.mono h.bel.size), own_keep h.row hb, F, G, K, h1.below hb, h2.below hb, h3.below hb, h4⟩
theorem Tri.s (h : Tri w0 g gc gd fs l lc ld lw va w) : One w0 g ⟨#[114]⟩ fs l w := by
  obtain ⟨F, G, K, h1, h2, h3, h4, h5, h6, h7, h8, h9, h10⟩ := h.has
  exact ⟨h.bel, F, h1, h7⟩
theorem Tri.c (h : Tri w0 g gc gd fs l lc ld lw va w) : One w0 gc ⟨#[114]⟩ fs lc w := h.swap.s
theorem Tri.d (h : Tri w0 g gc gd fs l lc ld lw va w) : One w0 gd ⟨#[114]⟩ fs ld w := by
  obtain ⟨F, G, K, h1, h2, h3, h4, h5, h6, h7, h8, h9, h10⟩ := h.has
  exact ⟨h.bel, K, h3, h9⟩
theorem tri_get (h : Tri w0 g gc gd fs l lc ld lw va w) (n : ByteArray) (c : Int) (hfl : fs.length ≤ 1000000) (hll : l.length ≤ 1000000) (hn : n.size ≤ 1000000) :
    Calls Try.prog 16 #[.pointer (some ⟨g, 0, none⟩), .string n, .int .i64 c] w fun e w' => e = .returned (getV fs l n c) ∧ Tri w0 g gc gd fs (St.get fs l n c) lc ld lw va w' := by
  obtain ⟨F, G, K, h1, h2, h3, h4, h5, h6, h7, h8, h9, h10⟩ := h.has
  refine (get_has h1 n c hfl hll hn).mono ?_
  rintro e w' ⟨rfl, F', hH, hK, hS⟩
  refine ⟨rfl, hK.below h.bel h7 h.bel.size, row_keep h.row hK (fun b hb => (h10 b hb).1), F', G, K, hH, h2.keep hK (fun b hg hf => h4 b hf hg), h3.keep hK (fun b hg hf => h5 b hf hg),
    fun b hf hg => (hS b hf).elim (fun h => h4 b h hg) (fun h => by have := h2.lt b hg; omega), fun b hf hg => (hS b hf).elim (fun h => h5 b h hg) (fun h => by have := h3.lt b hg; omega), h6,
    fun b hb => (hS b hb).elim (h7 b) (Nat.le_trans h.bel.size), h8, h9, fun b hb => ⟨fun hf => (hS b hf).elim (h10 b hb).1 (fun hge => by have := (h.row.lt b hb).2; omega), (h10 b hb).2⟩⟩
/-- Two copies, of a store whose fetches were read. -/
theorem Tri.made {w1 w2 w3 : World} (h : One w0 g ⟨#[114]⟩ fs l w) (hrow : w1.ownsRow w.heap.size 41 4 va l.length (fetC ⟨#[114]⟩ l)) (hb1 : Below w.heap.size w w1)
    (hc : ∃ G, Has w2 gc G ⟨#[114]⟩ fs l ∧ ∀ b, G b → w1.heap.size ≤ b) (hb2 : Below w1.heap.size w1 w2) (hd : ∃ K, Has w3 gd K ⟨#[114]⟩ fs l ∧ ∀ b, K b → w2.heap.size ≤ b) (hb3 : Below w2.heap.size w2 w3) : Tri w0 g gc gd fs l l l l va w3 := by
  obtain ⟨h1, F, h2, h3⟩ := h
  obtain ⟨G, k1, k2⟩ := hc
  obtain ⟨K, m1, m2⟩ := hd
  have s1 := hb1.size
  have s2 := hb2.size
  have s3 := hb3.size
  have s0 := h1.size
  refine ⟨((h1.trans (hb1.mono s0)).trans (hb2.mono (by omega))).trans (hb3.mono (by omega)), own_mono (own_keep (own_keep hrow hb2) hb3) s0, F, G, K, ((h2.below hb1).below hb2).below hb3, k1.below hb3, m1,
    fun b hf hg => by have := h2.lt b hf; have := k2 b hg; omega, fun b hf hg => by have := h2.lt b hf; have := m2 b hg; omega, fun b hf hg => by have := k1.lt b hf; have := m2 b hg; omega,
    h3, fun b hb => by have := k2 b hb; omega, fun b hb => by have := m2 b hb; omega, fun b hb => ?_⟩
  have hlt := hrow.lt b hb
  exact ⟨fun hf => by have := h2.lt b hf; omega, fun hf => by have := k2 b hf; omega, fun hf => by have := m2 b hf; omega⟩
end
end Go.Proofs.Ytcianlgkfkccoaa
