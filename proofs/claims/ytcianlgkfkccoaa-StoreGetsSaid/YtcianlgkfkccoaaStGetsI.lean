/-
  StoreGets: a store and the document's at work, apart from one another; slices that are written over.
-/
import Derived.Test.YtcianlgkfkccoaaStRTold
import Derived.Test.YtcianlgkfkccoaaStAlike
import Derived.Deep.MidRow
namespace Go.Proofs.Ytcianlgkfkccoaa
set_option linter.unusedSimpArgs false
set_option linter.unusedVariables false
open Go Go.RowKit

structure Duo (w0 : World) (B g g' : Nat) (repo : ByteArray) (fs : List (ByteArray × ByteArray)) (A : Option Addr) (cap : Nat) (l m : List St.En) (w : World) : Prop where
  bel : Below w0.heap.size w0 w
  has : ∃ F G, Has w g F repo fs l ∧ RHas w g' G repo A fs.length cap m ∧ (∀ b, F b → ¬ G b) ∧ (∀ b, F b → B ≤ b) ∧ ∀ b, G b → B ≤ b
  base : w0.heap.size ≤ B
section
variable {w0 : World} {B g g' : Nat} {repo : ByteArray} {fs : List (ByteArray × ByteArray)} {A : Option Addr} {cap : Nat} {l m : List St.En} {w w' : World}
theorem Duo.later (h : Duo w0 B g g' repo fs A cap l m w) (hb : Below w.heap.size w w') : Duo w0 B g g' repo fs A cap l m w' := by
  obtain ⟨F, G, h1, h2, h3, h4, h5⟩ := h.has
  exact ⟨h.bel.trans (hb.mono h.bel.size), ⟨F, G, h1.below hb, h2.below hb, h3, h4, h5⟩, h.base⟩
theorem Duo.put {b0 : Nat} (h : Duo w0 B g g' repo fs A cap l m w) (hg : w.grownBy w' (some b0)) (h1 : w0.heap.size ≤ b0) (h2 : b0 < B) : Duo w0 B g g' repo fs A cap l m w' := by
  obtain ⟨F, G, k1, k2, k3, k4, k5⟩ := h.has
  have hk : Keeps (fun b => b = b0) w w' := Keeps.of_grown hg (fun x hx => (Option.some.inj hx).symm)
  exact ⟨h.bel.grown hg h.bel.size (fun k hk => by cases hk; exact h1), ⟨F, G, k1.keep hk (fun b hf he => by have := k4 b hf; omega), k2.keep hk (fun b hf he => by have := k5 b hf; omega), k3, k4, k5⟩, h.base⟩
theorem Duo.made {w1 : World} (hB : Below w0.heap.size w0 w) (hf : Fresh w g repo fs w1) (hb : Below w.heap.size w w1) (hr : ∃ G, RHas w' g' G repo A fs.length cap [] ∧ ∀ b, G b → w1.heap.size ≤ b) (hb' : Below w1.heap.size w1 w') : Duo w0 w.heap.size g g' repo fs A cap [] [] w' := by
  obtain ⟨F, h1, h2⟩ := hf
  obtain ⟨G, h3, h4⟩ := hr
  exact ⟨(hB.trans (hb.mono hB.size)).trans (hb'.mono (Nat.le_trans hB.size hb.size)), ⟨F, G, h1.below hb', h3, fun b hb1 hg => by have := h1.lt b hb1; have := h4 b hg; omega, h2, fun b hg => Nat.le_trans hb.size (h4 b hg)⟩, hB.size⟩
theorem Duo.one (h : Duo w0 B g g' repo fs A cap l m w) : St.One l := by
  obtain ⟨F, G, h1, _⟩ := h.has
  exact h1.one
theorem duo_get (h : Duo w0 B g g' repo fs A cap l m w) (hBw : B ≤ w.heap.size) (n : ByteArray) (c : Int) (hfl : fs.length ≤ 1000000) (hll : l.length ≤ 1000000) (hn : n.size ≤ 1000000) :
    Calls Try.prog 16 #[.pointer (some ⟨g, 0, none⟩), .string n, .int .i64 c] w fun e w' => e = .returned (getV fs l n c) ∧ Duo w0 B g g' repo fs A cap (St.get fs l n c) m w' ∧ B ≤ w'.heap.size := by
  obtain ⟨F, G, h1, h2, h3, h4, h5⟩ := h.has
  refine (get_has h1 n c hfl hll hn).mono ?_
  rintro e w' ⟨rfl, F', hH, hK, hS⟩
  exact ⟨rfl, ⟨hK.below h.bel (fun b hb => Nat.le_trans h.base (h4 b hb)) h.bel.size, ⟨F', G, hH, h2.keep hK (fun b hg hf => h3 b hf hg), fun b hf hg => (hS b hf).elim (fun h => h3 b h hg) (fun h => by obtain ⟨lv, dv, hp⟩ := h2; have := hp.bound b hg; omega), fun b hb => (hS b hb).elim (h4 b) (Nat.le_trans hBw), h5⟩, h.base⟩, Nat.le_trans hBw hK.size⟩
theorem duo_rget (h : Duo w0 B g g' repo fs A cap l m w) (hBw : B ≤ w.heap.size) (hf : Files w A fs) (n : ByteArray) (c : Int) (h1m : St.One m) (hfl : fs.length ≤ 1000000) (hll : m.length ≤ 1000000) (hds : ∀ i, i < fs.length → (fs.getD i (⟨#[]⟩, ⟨#[]⟩)).2.size ≤ 1000000) (hn : n.size ≤ 1000000) :
    Calls Try.prog 17 #[.pointer (some ⟨g', 0, none⟩), .string n, .int .i64 c] w fun e w' => e = .returned (getV fs m n c) ∧ Duo w0 B g g' repo fs A cap l (St.get fs m n c) w' ∧ B ≤ w'.heap.size := by
  obtain ⟨F, G, h1, h2, h3, h4, h5⟩ := h.has
  refine (rget_has h2 hf n c h1m hll hfl hds hn).mono ?_
  rintro e w' ⟨rfl, G', hH, hK, hS⟩
  exact ⟨rfl, ⟨hK.below h.bel (fun b hb => Nat.le_trans h.base (h5 b hb)) h.bel.size, ⟨F, G', h1.keep hK (fun b hf hg => h3 b hf hg), hH, fun b hf hg => (hS b hg).elim (h3 b hf) (fun h => by have := h1.lt b hf; omega), h4, fun b hb => (hS b hb).elim (h5 b) (Nat.le_trans hBw)⟩, h.base⟩, Nat.le_trans hBw hK.size⟩
theorem duo_told (h : Duo w0 B g g' repo fs A cap l m w) (n : ByteArray) (hn : n.size ≤ 1000000) :
    Calls Try.prog 18 #[.pointer (some ⟨g, 0, none⟩), .string n] w fun x w' => x = .returned (toldV repo (St.look l n)) ∧ Below w.heap.size w w' := by
  obtain ⟨F, G, h1, _⟩ := h.has
  exact told_has h1 n hn
theorem duo_rtold (h : Duo w0 B g g' repo fs A cap l m w) (h1m : St.One m) (n : ByteArray) (hll : m.length ≤ 1000000) :
    Calls Try.prog 19 #[.pointer (some ⟨g', 0, none⟩), .string n] w fun x w' => x = .returned (toldV repo (St.look m n)) ∧ Below w.heap.size w w' := by
  obtain ⟨F, G, _, h2, _⟩ := h.has
  exact rtold_has h2 n h1m hll
theorem duo_fetched (h : Duo w0 B g g' repo fs A cap l m w) (hl : l.length ≤ 1000000) :
    Calls Try.prog 20 #[.pointer (some ⟨g, 0, none⟩)] w fun e w' => ∃ v, e = .returned v ∧ w'.ownsRow w.heap.size 41 4 v l.length (fetC repo l) ∧ Below w.heap.size w w' := by
  obtain ⟨F, G, h1, _⟩ := h.has
  exact fetched_has h1 hl
theorem duo_list (h : Duo w0 B g g' repo fs A cap l m w) : ∃ La Lc, g' < w.heap.size ∧ w.cell? ⟨g', 2, none⟩ = some (.slice La m.length Lc) ∧ Fets w La repo m := by
  obtain ⟨F, G, _, ⟨lv, dv, hp⟩, _⟩ := h.has
  obtain ⟨La, Lc, rfl, hF⟩ := Fets.of_own hp.list
  exact ⟨La, Lc, hp.row.lt, hp.row.cell 2, hF⟩
end
theorem toldV_form (repo : ByteArray) (x : Option St.En) : ∃ (a b : ByteArray) (c d : Int) (is : Bool), toldV repo x = .tuple #[.agg #[.string a, .string b, .int .i64 c, .int .i64 d], .bool is] := by
  cases x <;> exact ⟨_, _, _, _, _, rfl⟩
/-! ### Slices that are written over -/
theorem Bk.puts {g : Nat} {t : TypeId} : ∀ (vs : List Value) (o : Nat) (w : World) (cs : Array Value), Bk w g t cs → ∃ cs', Bk (w.setCells g o vs) g t cs' ∧ cs'.size = cs.size
  | [], _, _, cs, h => ⟨cs, h, rfl⟩
  | v :: r, o, w, cs, h => by
    obtain ⟨cs', h1, h2⟩ := Bk.puts r (o + 1) _ _ (h.put o v)
    exact ⟨cs', h1, by rw [h2, Array.size_setIfInBounds]⟩
theorem grown_put {a w : World} {g : Nat} (h : a.grownBy w (some g)) (o : Nat) (v : Value) : a.grownBy (w.setCell ⟨g, o, none⟩ v) (some g) :=
  ⟨h.os, h.tape, h.output, by have := h.size; simpa [World.setCell] using this, fun k hk hne => (Below.heap_setCell w ⟨g, o, none⟩ v k (fun e => hne (by rw [e]))).trans (h.block k hk hne)⟩
theorem grown_puts {a : World} {g : Nat} : ∀ (vs : List Value) (o : Nat) (w : World), a.grownBy w (some g) → a.grownBy (w.setCells g o vs) (some g)
  | [], _, _, h => h
  | v :: r, o, w, h => grown_puts r (o + 1) _ (grown_put h o v)
theorem there_of {w : World} {g o n : Nat} {t : TypeId} {cs : Array Value} (h : Bk w g t cs) (hn : o + n ≤ cs.size) : w.there g o n := fun j hj =>
  ⟨by rw [h.cell, Array.getElem?_eq_getElem (by omega)]; rfl, h.frozen _⟩
/-- There is room for n elements of that many cells. -/
def Room (w : World) (B : Nat) (t : TypeId) (size : Nat) (A : Option Addr) (n : Nat) : Prop := n = 0 ∨ ∃ b cs, A = some ⟨b, 0, none⟩ ∧ B ≤ b ∧ Bk w b t cs ∧ n * size ≤ cs.size
theorem Room.of_own {w : World} {B n c size : Nat} {t : TypeId} {A : Option Addr} {xs : List Value} (h : w.ownsRow B t size (.slice A n c) n xs) : Room w B t size A n := by
  rcases h.2 with ⟨h1, h2⟩ | ⟨g, cap, cur, he, hb, hh, hnc, _, hsz, htk⟩
  · exact .inl h2
  · cases he
    exact .inr ⟨g, cur, rfl, hb, hh, by rw [hsz]; exact Nat.mul_le_mul_right _ hnc⟩
theorem Room.keep {w w' : World} {B n size : Nat} {t : TypeId} {A : Option Addr} (h : Room w B t size A n) (hb : Below w.heap.size w w') : Room w' B t size A n :=
  h.imp id fun ⟨b, cs, h1, h2, h3, h4⟩ => ⟨b, cs, h1, h2, h3.below hb h3.lt, h4⟩
end Go.Proofs.Ytcianlgkfkccoaa
