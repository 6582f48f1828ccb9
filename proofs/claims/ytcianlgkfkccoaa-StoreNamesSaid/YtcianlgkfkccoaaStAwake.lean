/-
  One store at work, as the statements use it; the examples: awake returns true.
-/
import Derived.Test.YtcianlgkfkccoaaStSame
namespace Go.Proofs.Ytcianlgkfkccoaa
set_option linter.unusedSimpArgs false
set_option linter.unusedVariables false
open Go Go.RowKit

/-- One store, made since w0. -/
def One (w0 : World) (g : Nat) (repo : ByteArray) (fs : List (ByteArray × ByteArray)) (l : List St.En) (w : World) : Prop :=
  Below w0.heap.size w0 w ∧ ∃ F, Has w g F repo fs l ∧ ∀ b, F b → w0.heap.size ≤ b
theorem One.later {w0 : World} {g : Nat} {repo : ByteArray} {fs : List (ByteArray × ByteArray)} {l : List St.En} {w w' : World} (h : One w0 g repo fs l w) (hb : Below w.heap.size w w') : One w0 g repo fs l w' := by
  obtain ⟨h1, F, h2, h3⟩ := h
  exact ⟨h1.trans (hb.mono h1.size), F, h2.below hb, h3⟩
theorem One.made {w0 : World} {g : Nat} {repo : ByteArray} {fs : List (ByteArray × ByteArray)} {w w' : World} (hB : Below w0.heap.size w0 w) (h : Fresh w g repo fs w') (hb : Below w.heap.size w w') : One w0 g repo fs [] w' := by
  obtain ⟨F, h2, h3⟩ := h
  exact ⟨hB.trans (hb.mono hB.size), F, h2, fun b hb => Nat.le_trans hB.size (h3 b hb)⟩
theorem one_get {w0 : World} {g : Nat} {repo : ByteArray} {fs : List (ByteArray × ByteArray)} {l : List St.En} {w : World} (h : One w0 g repo fs l w) (n : ByteArray) (c : Int) (hfl : fs.length ≤ 1000000) (hll : l.length ≤ 1000000) (hn : n.size ≤ 1000000) :
    Calls Try.prog 16 #[.pointer (some ⟨g, 0, none⟩), .string n, .int .i64 c] w fun e w' => e = .returned (getV fs l n c) ∧ One w0 g repo fs (St.get fs l n c) w' := by
  obtain ⟨h1, F, h2, h3⟩ := h
  refine (get_has h2 n c hfl hll hn).mono ?_
  rintro e w' ⟨rfl, F', hH, hK, hS⟩
  exact ⟨rfl, hK.below h1 h3 h1.size, F', hH, fun b hb => (hS b hb).elim (h3 b) (Nat.le_trans h1.size)⟩
theorem one_told {w0 : World} {g : Nat} {repo : ByteArray} {fs : List (ByteArray × ByteArray)} {l : List St.En} {w : World} (h : One w0 g repo fs l w) (n : ByteArray) (hn : n.size ≤ 1000000) :
    Calls Try.prog 18 #[.pointer (some ⟨g, 0, none⟩), .string n] w fun x w' => x = .returned (toldV repo (St.look l n)) ∧ Below w.heap.size w w' := by
  obtain ⟨h1, F, h2, h3⟩ := h
  exact told_has h2 n hn
theorem one_fetched {w0 : World} {g : Nat} {repo : ByteArray} {fs : List (ByteArray × ByteArray)} {l : List St.En} {w : World} (h : One w0 g repo fs l w) (hl : l.length ≤ 1000000) :
    Calls Try.prog 20 #[.pointer (some ⟨g, 0, none⟩)] w fun e w' => ∃ v, e = .returned v ∧ w'.ownsRow w.heap.size 41 4 v l.length (fetC repo l) ∧ Below w.heap.size w w' := by
  obtain ⟨h1, F, h2, h3⟩ := h
  exact fetched_has h2 hl
theorem one_repo {w0 : World} {g : Nat} {repo : ByteArray} {fs : List (ByteArray × ByteArray)} {l : List St.En} {w : World} (h : One w0 g repo fs l w) :
    Calls Try.prog 22 #[.pointer (some ⟨g, 0, none⟩)] w fun e w' => e = .returned (.string repo) ∧ w = w' := by
  obtain ⟨h1, F, h2, h3⟩ := h
  exact repo_has h2
set_option maxRecDepth 20000 in
set_option maxHeartbeats 1000000 in
theorem came_yes {w0 : World} {g : Nat} {repo : ByteArray} {fs : List (ByteArray × ByteArray)} {l l' : List St.En} {w : World} (h : One w0 g repo fs l w) (n : ByteArray) (c : Int) (d : ByteArray) (s : Int) (hl' : St.get fs l n c = l') (hv : getV fs l n c = .tuple #[.string d, .int .i64 s, .int .i64 0])
    (hfl : fs.length ≤ 1000000) (hll : l.length ≤ 1000000) (hn : n.size ≤ 1000000) :
    Calls Try.prog 24 #[.pointer (some ⟨g, 0, none⟩), .string n, .int .i64 c, .string d, .int .i64 s] w fun e w' => e = .returned (.bool true) ∧ One w0 g repo fs l' w' := by
  subst hl'
  have hc := one_get h n c hfl hll hn
  rw [hv] at hc
  have HC := Lib.hid hc
  have n1 : (d.toList == d.toList) = true := beq_self_eq_true _
  have n2 : (s == s) = true := beq_self_eq_true _
  clear hc h hv
  go_enter Try.func24, Try.ntmps24
  go_wp2_with fail
  refine HC.out.mono ?_
  rintro e w' ⟨rfl, h2⟩
  have H2 := Lib.hid h2
  clear h2
  go_wp2_with fail
  go_ret
  exact ⟨rfl, H2.out⟩

/-! ### The examples -/
def exF : List (ByteArray × ByteArray) := [(⟨#[97]⟩, ⟨#[120, 121, 122]⟩), (⟨#[98]⟩, ⟨#[]⟩), (⟨#[97]⟩, ⟨#[113]⟩)]
theorem exF_at (w : World) (i : Nat) (hi : i < 3) (t : TypeId) : ∃ a b, (w.alloc (.cells #[.string ⟨#[97]⟩, .string ⟨#[120, 121, 122]⟩, .string ⟨#[98]⟩, .string ⟨#[]⟩, .string ⟨#[97]⟩, .string ⟨#[113]⟩] t)).cell? ⟨w.heap.size, 0 + i * 2, none⟩ = some (.string a) ∧ (w.alloc (.cells #[.string ⟨#[97]⟩, .string ⟨#[120, 121, 122]⟩, .string ⟨#[98]⟩, .string ⟨#[]⟩, .string ⟨#[97]⟩, .string ⟨#[113]⟩] t)).cell? ⟨w.heap.size, 0 + i * 2 + 1, none⟩ = some (.string b) ∧ exF.getD i (⟨#[]⟩, ⟨#[]⟩) = (a, b) := by
  have hb := Bk.fresh w t #[.string ⟨#[97]⟩, .string ⟨#[120, 121, 122]⟩, .string ⟨#[98]⟩, .string ⟨#[]⟩, .string ⟨#[97]⟩, .string ⟨#[113]⟩]
  match i, hi with
  | 0, _ => exact ⟨_, _, hb.cell 0, hb.cell 1, rfl⟩
  | 1, _ => exact ⟨_, _, hb.cell 2, hb.cell 3, rfl⟩
  | 2, _ => exact ⟨_, _, hb.cell 4, hb.cell 5, rfl⟩
set_option maxHeartbeats 1000000 in
theorem ex_any (w : World) : Calls Try.prog 23 #[] w fun e w' => ∃ A c, e = .returned (.slice A exF.length c) ∧ Files w' A exF ∧ Below w.heap.size w w' := by
  go_enter Try.func23, Try.ntmps23
  go_wp2_with fail
  go_ret
  refine ⟨_, _, rfl, fun i hi => ?_, (Below.refl _ _).alloc (Nat.le_refl _) _⟩
  obtain ⟨a, b, h1, h2, h3⟩ := exF_at w i hi 35
  exact ⟨w.heap.size, 0, rfl, by simp, by rw [h3]; exact h1, by rw [h3]; exact h2⟩
theorem exF_small : ∀ i, i < exF.length → (exF.getD i (⟨#[]⟩, ⟨#[]⟩)).2.size ≤ 65536 := by
  intro i hi
  match i, hi with
  | 0, _ => decide
  | 1, _ => decide
  | 2, _ => decide
def x1 : St.En := ⟨⟨#[97]⟩, 3, 3, ⟨#[120, 121, 122]⟩⟩
def x2 : St.En := ⟨⟨#[98]⟩, 0, 0, ⟨#[]⟩⟩
def x3 : St.En := ⟨⟨#[99]⟩, 5, -1, ⟨#[]⟩⟩
def y1 : St.En := ⟨⟨#[97]⟩, 2, -2, ⟨#[]⟩⟩
theorem role_r : Nm.role ⟨#[114]⟩ = true := by decide +kernel
end Go.Proofs.Ytcianlgkfkccoaa
