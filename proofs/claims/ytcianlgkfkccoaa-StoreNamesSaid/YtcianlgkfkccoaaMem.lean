/-
  Blocks that the call made: what stands there, what a store leaves; only one block has turned; a range over a string in whatever world.
-/
import Derived.Test.YtcianlgkfkccoaaBase
import Derived.Deep.OwnRows
import Derived.Laws.RangeAny
namespace Go.Proofs.Ytcianlgkfkccoaa
set_option linter.unusedSimpArgs false
set_option linter.unusedVariables false
open Go Go.RowKit

/-- Block g is just these cells. -/
def Bk (w : World) (g : Nat) (t : TypeId) (cs : Array Value) : Prop := w.heap[g]? = some (.cells cs t (0, 0))
theorem Bk.lt {w : World} {g : Nat} {t : TypeId} {cs : Array Value} (h : Bk w g t cs) : g < w.heap.size := by
  rcases Nat.lt_or_ge g w.heap.size with hlt | hge
  · exact hlt
  · unfold Bk at h; rw [Array.getElem?_eq_none hge] at h; cases h
theorem Bk.cell {w : World} {g : Nat} {t : TypeId} {cs : Array Value} (h : Bk w g t cs) (i : Nat) : w.cell? ⟨g, i, none⟩ = cs[i]? := cell_of_row w g i cs t (0, 0) h
theorem Bk.frozen {w : World} {g : Nat} {t : TypeId} {cs : Array Value} (h : Bk w g t cs) (i : Nat) : w.frozen? ⟨g, i, none⟩ = false := by
  unfold Bk at h
  simp [World.frozen?, h]
theorem Bk.put {w : World} {g : Nat} {t : TypeId} {cs : Array Value} (h : Bk w g t cs) (i : Nat) (u : Value) : Bk (w.setCell ⟨g, i, none⟩ u) g t (cs.setIfInBounds i u) := by
  unfold Bk at h ⊢
  simp [World.setCell, Array.getElem?_modify, h]
theorem Bk.drawn {w : World} {g : Nat} {t : TypeId} {cs : Array Value} (h : Bk w g t cs) (n : Nat) : Bk (w.drewN n) g t cs := h
theorem Bk.grow {w w' : World} {g : Nat} {t : TypeId} {cs : Array Value} {row : Option Nat} (h : Bk w g t cs) (hb : w.grownBy w' row) (hg : some g ≠ row) : Bk w' g t cs := (hb.block g h.lt hg).trans h
theorem Bk.below {w w' : World} {B g : Nat} {t : TypeId} {cs : Array Value} (h : Bk w g t cs) (hb : Below B w w') (hg : g < B) : Bk w' g t cs := (hb.block g hg).trans h
theorem Bk.fresh (w : World) (t : TypeId) (cs : Array Value) : Bk (w.alloc (.cells cs t (0, 0))) w.heap.size t cs := heap_alloc_new w (.cells cs t (0, 0))

/-- A range over a string stands at that place. -/
def It (w : World) (b : Nat) (s : ByteArray) (p : Nat) : Prop := w.heap[b]? = some (.stringIter s p)
/-- .. and goes on to that one. -/
def itTo (w : World) (b : Nat) (s : ByteArray) (p : Nat) : World := { w with heap := w.heap.setIfInBounds b (.stringIter s p) }
theorem It.lt {w : World} {b : Nat} {s : ByteArray} {p : Nat} (h : It w b s p) : b < w.heap.size := by
  rcases Nat.lt_or_ge b w.heap.size with hlt | hge
  · exact hlt
  · unfold It at h; rw [Array.getElem?_eq_none hge] at h; cases h
theorem It.to {w : World} {b : Nat} {s : ByteArray} {p : Nat} (h : It w b s p) (q : Nat) : It (itTo w b s q) b s q := by
  have := h.lt
  unfold It itTo
  simp [this]
theorem It.grow {w w' : World} {b : Nat} {s : ByteArray} {p : Nat} {row : Option Nat} (h : It w b s p) (hb : w.grownBy w' row) (hg : some b ≠ row) : It w' b s p := (hb.block b h.lt hg).trans h
theorem It.pos {w : World} {b : Nat} {s : ByteArray} {p : Nat} (h : It w b s p) : w.iterPos b = p := by
  unfold It at h
  simp [World.iterPos, h]
theorem It.ne_ {w : World} {b g : Nat} {s : ByteArray} {p : Nat} {t : TypeId} {cs : Array Value} (h : It w b s p) (k : Bk w g t cs) : g ≠ b := by
  rintro rfl
  unfold It at h; unfold Bk at k
  rw [h] at k; cases k
theorem It.own {w : World} {b : Nat} {s : ByteArray} {p base : Nat} {e : TypeId} {size n : Nat} {v : Value} {xs : List Value} (h : It w b s p) (k : w.ownsRow base e size v n xs) : v.ownBlock ≠ some b := by
  rcases k.2 with ⟨rfl, _⟩ | ⟨g, cap, cur, rfl, _, hh, _⟩
  · simp [Value.ownBlock]
  · intro he
    have : g = b := by simpa [Value.ownBlock] using he
    subst this
    unfold It at h
    rw [h] at hh; cases hh
theorem to_size (w : World) (b : Nat) (s : ByteArray) (p : Nat) : (itTo w b s p).heap.size = w.heap.size := by simp [itTo]
theorem to_grown (w : World) (b : Nat) (s : ByteArray) (p : Nat) : w.grownBy (itTo w b s p) (some b) :=
  ⟨rfl, rfl, rfl, by rw [to_size]; exact Nat.le_refl _, fun i hi hne => by
    have : b ≠ i := fun e => hne (by rw [e])
    simp [itTo, Array.getElem?_setIfInBounds, this]⟩
theorem It.next {P : Program} {w : World} {b : Nat} {s : ByteArray} {p : Nat} (hb : It w b s p) (ty : TypeId) (h : p < s.size) :
    (Instr.next (.pointer (some ⟨b, 0, none⟩)) true ty).run P w = .ok (.tuple #[.bool true, .int .i64 p, .int .i32 (Utf8.decode s p).1]) (itTo w b s (p + (Utf8.decode s p).2)) := by
  unfold It at hb
  simp only [Instr.next, getObj, setObj, Sem.run_bind, Sem.run, hb, Result.andThen, h, if_true]
  simp [goInt, itTo]
theorem It.stop {P : Program} {w : World} {b : Nat} {s : ByteArray} {p : Nat} (hb : It w b s p) (ty : TypeId) (h : ¬ p < s.size) :
    (Instr.next (.pointer (some ⟨b, 0, none⟩)) true ty).run P w = .ok (.tuple #[.bool false]) w := by
  unfold It at hb
  simp [Instr.next, getObj, Sem.run, hb, h]
theorem It.begin (w : World) (s : ByteArray) : It (w.iter s 0) w.heap.size s 0 := World.iter_heap w s 0

/-! ### One block alone has turned -/
theorem one_put {a w : World} {g : Nat} (h : a.grownBy w (some g)) (i : Nat) (u : Value) : a.grownBy (w.setCell ⟨g, i, none⟩ u) (some g) :=
  ⟨h.os, h.tape, h.output, by simpa [World.setCell] using h.size, fun k hk hne => (Below.heap_setCell w ⟨g, i, none⟩ u k (fun e => hne (by rw [e]))).trans (h.block k hk hne)⟩
theorem one_draw {a w : World} {row : Option Nat} (h : a.grownBy w row) (n : Nat) : a.grownBy (w.drewN n) row := ⟨h.os, h.tape, h.output, h.size, h.block⟩
theorem one_refl (w : World) (row : Option Nat) : w.grownBy w row := ⟨rfl, rfl, rfl, Nat.le_refl _, fun _ _ _ => rfl⟩
/-- First some block turned, then new ones alone, or one that was new. -/
theorem one_then {a b c : World} {row row' : Option Nat} (h : a.grownBy b row) (k : b.grownBy c row') (hr : row' = row ∨ ∀ g, row' = some g → a.heap.size ≤ g) : a.grownBy c row :=
  ⟨k.os.trans h.os, k.tape.trans h.tape, k.output.trans h.output, Nat.le_trans h.size k.size, fun i hi hne => (k.block i (Nat.lt_of_lt_of_le hi h.size) (by
    rcases hr with rfl | hr
    · exact hne
    · intro e
      have := hr i e.symm
      omega)).trans (h.block i hi hne)⟩
theorem one_cell {a w : World} {row : Option Nat} (h : a.grownBy w row) {p : Addr} (hp : p.block < a.heap.size) (hne : some p.block ≠ row) : w.cell? p = a.cell? p := World.cell?_of_block (h.block p.block hp hne)
theorem below_one {B : Nat} {a b c : World} {row : Option Nat} (h : Below B a b) (k : b.grownBy c row) (hB : B ≤ b.heap.size) (hr : ∀ g, row = some g → B ≤ g) : Below B a c := h.grown k hB hr
theorem below_drawn {B : Nat} {a w : World} (h : Below B a w) (n : Nat) : Below B a (w.drewN n) := ⟨h.os, h.tape, h.output, h.size, h.block⟩
theorem one_below {a w : World} (h : Below a.heap.size a w) (row : Option Nat) : a.grownBy w row := ⟨h.os, h.tape, h.output, h.size, fun i hi _ => h.block i hi⟩

/-- 'make([]T, n)': the block is new, and known whole. -/
theorem wpList_make_bk {P : Program} (w : World) {ops : Array Oper} {rest : List Oper} {o : Oper} {a : Act} {Q : Exit → Act → World → Prop}
    (hg : o.guard = none) (l c : Operand) (t : TypeId) (hop : o.op = Op.makeSlice t l c)
    (e : TypeId) (z : Value) (bytes : Nat) (ht : P.underlying t = some (.slice e)) (hinfo : (P.info? e).map (fun i => (i.zero, i.size, i.bytes)) = some (some z, 1, bytes)) (hz1 : z.cells = #[z])
    (kl kc : IntKind) (L C : Int) (n : Nat) (hl : a.eval l = .int kl L) (hc : a.eval c = .int kc C) (hL : L = (n : Int)) (hC : C = (n : Int)) (b2 : bytes * n ≤ 281474976710656) (b3 : n ≤ 9223372036854775807)
    (hK : ∀ w' b, b = w.heap.size → w'.heap.size = b + 1 → Bk w' b e (madeCells #[z] n) → w.grownBy w' none → wpList P ops Q rest (a.put o.dst (.slice (some ⟨b, 0, none⟩) n n)) w') :
    wpList P ops Q (o :: rest) a w := by
  refine wpList_plain hg fun K hK' => ?_
  have hrun := run_make_row' (P := P) t e z bytes ht hinfo hz1 kl kc n b2 b3 w
  subst hL
  subst hC
  unfold Oper.wp
  simp [execOp, hop, hl, hc, hrun, Result.andThen]
  exact hK' _ _ (hK _ _ rfl (by simp) (Bk.fresh w e _) (World.grownBy_alloc w _ none))
theorem made_cell (z : Value) (n j : Nat) (h : j < n) : (madeCells #[z] n)[j]? = some z := by
  simp [madeCells, h, Nat.mod_one]
theorem made_size (z : Value) (n : Nat) : (madeCells #[z] n).size = n := by simp [madeCells]
end Go.Proofs.Ytcianlgkfkccoaa
