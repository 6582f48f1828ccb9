/-
  Get, of a store: one contract. New: a store, or an error.
-/
import Derived.Test.YtcianlgkfkccoaaStGet2
import Derived.Test.YtcianlgkfkccoaaNameFns
namespace Go.Proofs.Ytcianlgkfkccoaa
set_option linter.unusedSimpArgs false
set_option linter.unusedVariables false
open Go Go.RowKit

def getV (fs : List (ByteArray × ByteArray)) (l : List St.En) (n : ByteArray) (c : Int) : Value := .tuple #[.string (St.ansD fs l n c), .int .i64 (St.ansS fs l n c), .int .i64 (St.ansE c)]
/-- What a Get leaves: the store with that asking more; nothing else has turned. -/
def Left (w : World) (g : Nat) (F : Nat → Prop) (repo : ByteArray) (fs : List (ByteArray × ByteArray)) (l : List St.En) (w' : World) : Prop :=
  ∃ F', Has w' g F' repo fs l ∧ Keeps F w w' ∧ (∀ b, F' b → F b ∨ w.heap.size ≤ b)
theorem get_has {w : World} {g : Nat} {F : Nat → Prop} {repo : ByteArray} {fs : List (ByteArray × ByteArray)} {l : List St.En} (h : Has w g F repo fs l) (n : ByteArray) (c : Int) (hfl : fs.length ≤ 1000000) (hll : l.length ≤ 1000000) (hn : n.size ≤ 1000000) :
    Calls Try.prog 16 #[.pointer (some ⟨g, 0, none⟩), .string n, .int .i64 c] w fun e w' => e = .returned (getV fs l n c) ∧ Left w g F repo fs (St.get fs l n c) w' := by
  have hh := h
  obtain ⟨m, fv, ov, h⟩ := h
  by_cases hb : c < 0 ∨ 65536 < c
  · have e0 : St.bad c = true := decide_eq_true hb
    have e1 : getV fs l n c = .tuple #[.string ⟨#[]⟩, .int .i64 0, .int .i64 1] := by
      unfold getV St.ansD St.ansS St.ansE
      rw [e0]; rfl
    have e2 : St.get fs l n c = l := by unfold St.get; rw [e0]; rfl
    rw [e1, e2]
    refine (get_bad g m n c w (h.row.cell 2) hb).mono ?_
    rintro e w' ⟨rfl, rfl⟩
    exact ⟨rfl, F, hh, Keeps.refl _ _, fun b hb => .inl hb⟩
  · have e0 : St.bad c = false := decide_eq_false hb
    cases hl : St.look l n with
    | some x =>
      have e1 : getV fs l n c = .tuple #[.string x.data, .int .i64 x.size, .int .i64 0] := by
        unfold getV St.ansD St.ansS St.ansE St.ans
        rw [e0, hl]; rfl
      have e2 : St.get fs l n c = l := by unfold St.get; rw [e0, hl]; rfl
      rw [e1, e2]
      refine (get_known g m l n c x w (h.row.cell 2) h.map h.one h.small hn hl (by omega) (by omega)).mono ?_
      rintro e w' ⟨rfl, hbel⟩
      exact ⟨rfl, F, hh.below hbel, Keeps.of_below hbel, fun b hb => .inl hb⟩
    | none =>
      have e1 : getV fs l n c = .tuple #[.string (St.fetch fs n c).data, .int .i64 (St.fetch fs n c).size, .int .i64 0] := by
        unfold getV St.ansD St.ansS St.ansE St.ans
        rw [e0, hl]; rfl
      have e2 : St.get fs l n c = l ++ [St.fetch fs n c] := by unfold St.get; rw [e0, hl]; rfl
      rw [e1, e2]
      obtain ⟨A, fcap, rfl, hF⟩ := Files.of_own h.files
      refine (get_new g m A fcap ov F repo fs l n c w h hF hfl hll hn hl (by omega) (by omega)).mono ?_
      rintro e w' ⟨rfl, ov', F', hP, hK, hS⟩
      exact ⟨rfl, F', ⟨m, _, ov', hP⟩, hK, hS⟩
end Go.Proofs.Ytcianlgkfkccoaa
