/-
  Two rows of files that answer alike.
-/
import Derived.Test.YtcianlgkfkccoaaStTwo
namespace Go.Proofs.Ytcianlgkfkccoaa
set_option linter.unusedSimpArgs false
set_option linter.unusedVariables false
open Go Go.RowKit

/-- A file that changes nothing for what is asked: nobody asks for it, or there is one of that name ahead. -/
def Idle (fs : List (ByteArray × ByteArray)) (qs : List (ByteArray × Int)) (n : ByteArray) : Prop :=
  (∀ j, j < qs.length → (qs.getD j (⟨#[]⟩, 0)).1 ≠ n) ∨ ∃ j, j < fs.length ∧ (fs.getD j (⟨#[]⟩, ⟨#[]⟩)).1 = n
theorem first_idle {fs ex : List (ByteArray × ByteArray)} {qs : List (ByteArray × Int)} (h : ∀ e ∈ ex, Idle fs qs e.1) {j : Nat} (hj : j < qs.length) : St.first (fs ++ ex) (qs.getD j (⟨#[]⟩, 0)).1 = St.first fs (qs.getD j (⟨#[]⟩, 0)).1 := by
  rw [St.first_append]
  cases hf : St.first fs (qs.getD j (⟨#[]⟩, 0)).1 with
  | some d => rfl
  | none =>
    have hno := (St.first_none _ _).1 hf
    have : St.first ex (qs.getD j (⟨#[]⟩, 0)).1 = none := by
      rw [St.first_none]
      intro e he hen
      rcases h e he with h1 | ⟨i, hi, h1⟩
      · exact h1 j hj hen.symm
      · refine hno (fs.getD i (⟨#[]⟩, ⟨#[]⟩)) ?_ (h1.trans hen)
        rw [List.getD_eq_getElem?_getD, List.getElem?_eq_getElem hi]
        exact List.getElem_mem hi
    rw [this]; rfl
theorem get_alike {a b : List (ByteArray × ByteArray)} {n : ByteArray} (h : St.first a n = St.first b n) (l : List St.En) (c : Int) : St.get a l n c = St.get b l n c ∧ getV a l n c = getV b l n c := by
  have hf : St.fetch a n c = St.fetch b n c := by unfold St.fetch; rw [h]
  refine ⟨?_, ?_⟩
  · unfold St.get; rw [hf]
  · unfold getV St.ansD St.ansS St.ans; rw [hf]
/-- Two values of Get's three results. -/
theorem getV_form (fs : List (ByteArray × ByteArray)) (l : List St.En) (n : ByteArray) (c : Int) : ∃ d s z, getV fs l n c = .tuple #[.string d, .int .i64 s, .int .i64 z] := ⟨_, _, _, rfl⟩
theorem fcells_snoc (fs : List (ByteArray × ByteArray)) (f : ByteArray × ByteArray) : fcells (fs ++ [f]) = fcells fs ++ [.string f.1, .string f.2] := by
  unfold fcells
  rw [List.flatMap_append]; rfl
/-- append(own, files...): nil or not. -/
theorem wpList_append_files (w : World) {ops : Array Oper} {rest : List Oper} {o : Oper} {a : Act} {Q : Exit → Act → World → Prop} (hgd : o.guard = none) (s x : Operand)
    (ho : o.op = .call { callee := .builtin .append, args := #[s, x], argTypes := #[22, 22] })
    (base : Nat) (v : Value) (n : Nat) (xs : List Value) (hs : a.eval s = v) (hown : w.ownsRow base 35 2 v n xs) (A : Option Addr) (fs : List (ByteArray × ByteArray)) (cap : Nat) (hx : a.eval x = .slice A fs.length cap) (hF : Files w A fs) (hl : n + fs.length ≤ 1000000) (hbase : base ≤ w.heap.size)
    (h : ∀ v' w', w'.ownsRow base 35 2 v' (n + fs.length) (xs ++ fcells fs) → w.grownBy w' v.ownBlock → wpList Try.prog ops Q rest (a.put o.dst v') w') : wpList Try.prog ops Q (o :: rest) a w := by
  obtain ⟨i0, hi0, hz0, hz1, hz2⟩ := info_parts info_file
  cases A with
  | some ad =>
    exact wpList_append_own w hgd s x _ ho base 35 i0 _ 2 32 Try.underlying22 hi0 hz0 hz1 hz2 rfl (by omega) v n xs hs hown ad fs.length cap (fcells fs) hx (fcells_len fs) hF.news (fcells_one fs) (by unfold maxLen; omega) (by omega) hbase (fun v' w' h1 h2 _ => h v' w' h1 h2)
  | none =>
    obtain rfl : fs = [] := by
      cases fs with
      | nil => rfl
      | cons x r => obtain ⟨b, o, e, _⟩ := hF 0 (by simp); cases e
    refine wpList_plain hgd fun K hK => ?_
    have hrun : (Builtin.append_ #[22, 22] o.type #[v, .slice none 0 cap]).run Try.prog w = .ok v w := by
      rcases hown.2 with ⟨rfl, rfl⟩ | ⟨g, cap', cur, rfl, _, _, hnc, _⟩
      · simp [Builtin.append_, run_underlying Try.underlying22, sizeOf, typeInfo, hi0, Builtin.lenOf, Builtin.firstCells]
      · simp [Builtin.append_, run_underlying Try.underlying22, sizeOf, typeInfo, hi0, Builtin.lenOf, Builtin.firstCells, hnc, storeCells]
    have hx' : a.eval x = .slice none 0 cap := hx
    unfold Oper.wp
    simp [execOp, ho, resolve, invoke, builtin, hs, hx', hrun, Result.andThen]
    exact hK _ _ (h v w (by simpa [fcells] using hown) ⟨rfl, rfl, rfl, Nat.le_refl _, fun _ _ _ => rfl⟩)
end Go.Proofs.Ytcianlgkfkccoaa
