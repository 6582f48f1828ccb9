/-
  StoreOnce: one store, and beside it two rows of the call's own: the fetches, and the data. What is shown of a region with two appends, in whatever order.
-/
import Derived.Test.YtcianlgkfkccoaaStTwo
import Derived.Test.YtcianlgkfkccoaaLexW
namespace Go.Proofs.Ytcianlgkfkccoaa
set_option linter.unusedSimpArgs false
set_option linter.unusedVariables false
open Go Go.RowKit

theorem datas_snoc (l : List St.En) (e : St.En) : datas (l ++ [e]) = datas l ++ [.string e.data] := by unfold datas; simp
theorem datas_len (l : List St.En) : (datas l).length = l.length := by unfold datas; simp
structure OnceI (w0 : World) (g : Nat) (fs : List (ByteArray × ByteArray)) (l m7 m8 : List St.En) (v7 v8 : Value) (w : World) : Prop where
  bel : Below w0.heap.size w0 w
  has : ∃ F, Has w g F ⟨#[114]⟩ fs l ∧ (∀ b, F b → w0.heap.size ≤ b) ∧ (∀ b, v7.ownBlock = some b → ¬ F b) ∧ (∀ b, v8.ownBlock = some b → ¬ F b)
  row : w.ownsRow w0.heap.size 41 4 v7 m7.length (fetC ⟨#[114]⟩ m7)
  dat : w.ownsRow w0.heap.size 9 1 v8 m8.length (datas m8)
theorem OnceI.one {w0 : World} {g : Nat} {fs : List (ByteArray × ByteArray)} {l m7 m8 : List St.En} {v7 v8 : Value} {w : World} (h : OnceI w0 g fs l m7 m8 v7 v8 w) : One w0 g ⟨#[114]⟩ fs l w := by
  obtain ⟨F, h1, h2, _⟩ := h.has
  exact ⟨h.bel, F, h1, h2⟩
theorem OnceI.later {w0 : World} {g : Nat} {fs : List (ByteArray × ByteArray)} {l m7 m8 : List St.En} {v7 v8 : Value} {w w' : World} (h : OnceI w0 g fs l m7 m8 v7 v8 w) (hb : Below w.heap.size w w') : OnceI w0 g fs l m7 m8 v7 v8 w' := by
  obtain ⟨F, h1, h2, h3, h4⟩ := h.has
  exact ⟨h.bel.trans (hb.mono h.bel.size), ⟨F, h1.below hb, h2, h3, h4⟩, own_keep h.row hb, own_keep h.dat hb⟩
theorem OnceI.made {w0 : World} {g : Nat} {fs : List (ByteArray × ByteArray)} {l : List St.En} {w : World} (h : One w0 g ⟨#[114]⟩ fs l w) : OnceI w0 g fs l [] [] (.slice none 0 0) (.slice none 0 0) w := by
  obtain ⟨h1, F, h2, h3⟩ := h
  exact ⟨h1, ⟨F, h2, h3, (fun b hb => by cases hb), (fun b hb => by cases hb)⟩, World.ownsRow_nil _ _ _ _, World.ownsRow_nil _ _ _ _⟩
theorem once_get {w0 : World} {g : Nat} {fs : List (ByteArray × ByteArray)} {l m7 m8 : List St.En} {v7 v8 : Value} {w : World} (h : OnceI w0 g fs l m7 m8 v7 v8 w) (n : ByteArray) (c : Int) (hfl : fs.length ≤ 1000000) (hll : l.length ≤ 1000000) (hn : n.size ≤ 1000000) :
    Calls Try.prog 16 #[.pointer (some ⟨g, 0, none⟩), .string n, .int .i64 c] w fun e w' => e = .returned (getV fs l n c) ∧ OnceI w0 g fs (St.get fs l n c) m7 m8 v7 v8 w' := by
  obtain ⟨F, h2, h3, h4, h5⟩ := h.has
  refine (get_has h2 n c hfl hll hn).mono ?_
  rintro e w' ⟨rfl, F', hH, hK, hS⟩
  refine ⟨rfl, hK.below h.bel h3 h.bel.size, ⟨F', hH, fun b hb => (hS b hb).elim (h3 b) (Nat.le_trans h.bel.size), fun b hb hf => ?_, fun b hb hf => ?_⟩, row_keep h.row hK h4, row_keep h.dat hK h5⟩
  · have := (h.row.lt b hb).2
    exact (hS b hf).elim (h4 b hb) (fun h => by omega)
  · have := (h.dat.lt b hb).2
    exact (hS b hf).elim (h5 b hb) (fun h => by omega)
theorem has_grown {w w' : World} {g : Nat} {F : Nat → Prop} {repo : ByteArray} {fs : List (ByteArray × ByteArray)} {l : List St.En} {row : Option Nat} (h : Has w g F repo fs l) (hg : w.grownBy w' row) (hr : ∀ b, row = some b → ¬ F b) : Has w' g F repo fs l :=
  h.keep (Keeps.of_grown (F := fun b => row = some b) hg (fun g hg => hg)) (fun b hf hb => hr b hb hf)
theorem OnceI.app7 {w0 : World} {g : Nat} {fs : List (ByteArray × ByteArray)} {l m7 m8 : List St.En} {v7 v8 v' : Value} {w w' : World} {e : St.En} (h : OnceI w0 g fs l m7 m8 v7 v8 w) (hown : w'.ownsRow w0.heap.size 41 4 v' (m7.length + 1) (fetC ⟨#[114]⟩ m7 ++ [.string ⟨#[114]⟩, .string e.name, .int .i64 e.cap, .int .i64 e.size]))
    (hg : w.grownBy w' v7.ownBlock) (hat : v'.ownBlock = v7.ownBlock ∨ v'.ownBlock = some w.heap.size) : OnceI w0 g fs l (m7 ++ [e]) m8 v' v8 w' := by
  obtain ⟨F, h2, h3, h4, h5⟩ := h.has
  refine ⟨h.bel.grown hg h.bel.size (fun k hk => (h.row.lt k hk).1), ⟨F, has_grown h2 hg h4, h3, fun b hb hf => ?_, h5⟩, ?_, h.dat.kept hg (own_own h.dat h.row (by decide))⟩
  · rcases hat with ha | ha
    · exact h4 b (ha ▸ hb) hf
    · rw [ha] at hb
      cases hb
      have := h2.lt _ hf
      omega
  · rw [fetC_snoc, List.length_append]
    exact hown
theorem OnceI.app8 {w0 : World} {g : Nat} {fs : List (ByteArray × ByteArray)} {l m7 m8 : List St.En} {v7 v8 v' : Value} {w w' : World} {e : St.En} (h : OnceI w0 g fs l m7 m8 v7 v8 w) (hown : w'.ownsRow w0.heap.size 9 1 v' (m8.length + 1) (datas m8 ++ [.string e.data]))
    (hg : w.grownBy w' v8.ownBlock) (hat : v'.ownBlock = v8.ownBlock ∨ v'.ownBlock = some w.heap.size) : OnceI w0 g fs l m7 (m8 ++ [e]) v7 v' w' := by
  obtain ⟨F, h2, h3, h4, h5⟩ := h.has
  refine ⟨h.bel.grown hg h.bel.size (fun k hk => (h.dat.lt k hk).1), ⟨F, has_grown h2 hg h5, h3, h4, fun b hb hf => ?_⟩, h.row.kept hg (own_own h.row h.dat (by decide)), ?_⟩
  · rcases hat with ha | ha
    · exact h5 b (ha ▸ hb) hf
    · rw [ha] at hb
      cases hb
      have := h2.lt _ hf
      omega
  · rw [datas_snoc, List.length_append]
    exact hown
/-- A slice that reads as these strings (a row of one's own). -/
theorem dat_cell {w : World} {B : Nat} {v : Value} {l : List St.En} (h : w.ownsRow B 9 1 v l.length (datas l)) (k : Nat) (hk : k < l.length) : ∃ b cap, v = .slice (some ⟨b, 0, none⟩) l.length cap ∧ w.cell? ⟨b, k, none⟩ = some (.string (l.getD k en0).data) := by
  rcases own_news h with ⟨_, hn, _⟩ | ⟨g, cap, rfl, _, _, hcell⟩
  · omega
  · refine ⟨g, cap, rfl, ?_⟩
    have := hcell k (.string (l.getD k en0).data) (by
      unfold datas
      rw [List.getElem?_map, List.getElem?_eq_getElem hk, List.getD_eq_getElem?_getD, List.getElem?_eq_getElem hk]
      rfl)
    rwa [Addr.add_lit, Nat.zero_add] at this
/-! ### Where a name stands in the row: the last place among the first k -/
def LastK (l : List St.En) (n : ByteArray) (k : Nat) (v : Value) : Prop :=
  (v = .int .i64 (-1) ∧ ∀ j, j < k → (l.getD j en0).name ≠ n) ∨ ∃ j : Nat, j < k ∧ v = .int .i64 j ∧ (l.getD j en0).name = n
theorem LastK.miss {l : List St.En} {n : ByteArray} {k : Nat} {v : Value} (h : LastK l n k v) (hn : (l.getD k en0).name ≠ n) : LastK l n (k + 1) v := by
  rcases h with ⟨h, h1⟩ | ⟨j, h1, h2, h3⟩
  · refine .inl ⟨h, fun j hj => ?_⟩
    by_cases e : j = k
    · rw [e]; exact hn
    · exact h1 j (by omega)
  · exact .inr ⟨j, by omega, h2, h3⟩
theorem LastK.hit {l : List St.En} {n : ByteArray} {k : Nat} (hn : (l.getD k en0).name = n) : LastK l n (k + 1) (.int .i64 k) := .inr ⟨k, by omega, rfl, hn⟩
theorem look_miss {l : List St.En} {n : ByteArray} (h : ∀ j, j < l.length → (l.getD j en0).name ≠ n) : St.look l n = none := by
  rw [St.look_none]
  intro e he hen
  obtain ⟨j, hj, rfl⟩ := List.getElem_of_mem he
  have := h j hj
  rw [List.getD_eq_getElem?_getD, List.getElem?_eq_getElem hj] at this
  exact this hen
theorem look_hit {l : List St.En} {n : ByteArray} (h1 : St.One l) {j : Nat} (hj : j < l.length) (h : (l.getD j en0).name = n) : St.look l n = some (l.getD j en0) := by
  rw [List.getD_eq_getElem?_getD, List.getElem?_eq_getElem hj] at h ⊢
  rw [← h]
  exact St.look_one l _ h1 (List.getElem_mem hj)
/-! ### Operations of the region -/
theorem fa_ask0 (g o : Nat) (W : World) : (Instr.fieldAt 39 (.pointer (some ⟨g, o, none⟩)) 0).run Try.prog W = .ok (.pointer (some ⟨g, o, none⟩)) W := by kernel_rfl
theorem fa_ask1 (g o : Nat) (W : World) : (Instr.fieldAt 39 (.pointer (some ⟨g, o, none⟩)) 1).run Try.prog W = .ok (.pointer (some ⟨g, o + 1, none⟩)) W := by kernel_rfl
theorem ix_ask (g o n c j : Nat) (W : World) (h : j < n) : (Instr.indexAt 23 (.slice (some ⟨g, o, none⟩) n c) (.int .i64 (j : Int))).run Try.prog W = .ok (.pointer (some ⟨g, o + j * 2, none⟩)) W := by
  have und : Try.prog.underlying 23 = some (.slice (Try.prog.elem 23)) := by kernel_rfl
  have sz : (sizeOf (Try.prog.elem 23)).run Try.prog W = .ok 2 W := by kernel_rfl
  rw [run_indexAt_slice W 23 _ _ _ _ _ und]
  simp [Result.andThen, sz, h, Addr.add]
theorem ld_int (g o : Nat) (v : Value) (W : World) (h : W.cell? ⟨g, o, none⟩ = some v) : (Instr.loadAt 3 (.pointer (some ⟨g, o, none⟩))).run Try.prog W = .ok v W := by
  have a3 : (isAgg 3).run Try.prog W = .ok false W := by kernel_rfl
  simp [Instr.loadAt, Instr.sureAddr, loadVar, a3, Result.andThen, go_sem, h]
theorem ld_str (g o : Nat) (v : Value) (W : World) (h : W.cell? ⟨g, o, none⟩ = some v) : (Instr.loadAt 9 (.pointer (some ⟨g, o, none⟩))).run Try.prog W = .ok v W := by
  have a3 : (isAgg 9).run Try.prog W = .ok false W := by kernel_rfl
  simp [Instr.loadAt, Instr.sureAddr, loadVar, a3, Result.andThen, go_sem, h]
theorem bld_fetch (r n : ByteArray) (c s : Int) (W : World) : (Instr.build 41 #[(0, .string r), (1, .string n), (2, .int .i64 c), (3, .int .i64 s)]).run Try.prog W = .ok (.agg #[.string r, .string n, .int .i64 c, .int .i64 s]) W := by kernel_rfl
theorem held_two {P : Program} {l : List Oper} {md : Region.Mode} {Q : Exit → Act → World → Prop} {S : World → Prop} {m i j : Nat} {L : Array Bool} {a : Act} {w : World} (hr : Region.ready md l.toArray L = [i, j]) (hi : (decide (i < l.length) && decide (j < l.length)) = true)
    (h1 : wpList P l.toArray (NoPanic (Fst.after Q fun a' w' => S w' ∧ wpAnyH P md l.toArray (NoPanic Q) S m (L.setIfInBounds i true) a' w')) [l.getD i Fst.o0] a w)
    (h2 : wpList P l.toArray (NoPanic (Fst.after Q fun a' w' => S w' ∧ wpAnyH P md l.toArray (NoPanic Q) S m (L.setIfInBounds j true) a' w')) [l.getD j Fst.o0] a w) : wpAnyH P md l.toArray (NoPanic Q) S (m + 1) L a w := by
  refine wpAnyH_all hr (by simp) (fun k hk => ?_)
  have key : ∀ k, k < l.length → wpList P l.toArray (NoPanic (Fst.after Q fun a' w' => S w' ∧ wpAnyH P md l.toArray (NoPanic Q) S m (L.setIfInBounds k true) a' w')) [l.getD k Fst.o0] a w →
      wpOp P l.toArray (NoPanic Q) k (fun a' w' => S w' ∧ wpAnyH P md l.toArray (NoPanic Q) S m (L.setIfInBounds k true) a' w') a w := fun k hk h => by
    have h0 : l.toArray[k]? = some (l.getD k Fst.o0) := by
      rw [List.getElem?_toArray, List.getD_eq_getElem?_getD, List.getElem?_eq_getElem hk]
      rfl
    have hw : wpOp P l.toArray (NoPanic (Fst.after Q fun a' w' => S w' ∧ wpAnyH P md l.toArray (NoPanic Q) S m (L.setIfInBounds k true) a' w')) k (wpList P l.toArray (NoPanic (Fst.after Q fun a' w' => S w' ∧ wpAnyH P md l.toArray (NoPanic Q) S m (L.setIfInBounds k true) a' w')) []) a w := by
      unfold wpOp; simp only [h0]; exact h
    refine wpOp_mono (fun a' w' h' => h') (Fst.wpOp_other ?_ hw)
    intro e a' w' he hh
    cases e <;> first | exact absurd rfl he | exact hh
  simp only [Bool.and_eq_true, decide_eq_true_eq] at hi
  rcases List.mem_cons.1 hk with rfl | hk
  · exact key _ hi.1 h1
  · obtain rfl : k = j := by simpa using hk
    exact key _ hi.2 h2
end Go.Proofs.Ytcianlgkfkccoaa
