/-
  '[]byte(s)': the new block, its cells, its mark; a store into it; what it says as a string.
-/
import Derived.Test.YtmfkelcpnollbaaDoorMem
import Derived.Lib.ConvBytes
namespace Go.Proofs.YtmfkelcpnollbaaDoor
set_option linter.unusedSimpArgs false
set_option linter.unusedVariables false
open Go Go.RowKit

/-- Block g is just these cells, with the mark of a conversion's row behind them. -/
def Bf (w : World) (g : Nat) (t : TypeId) (cs : Array Value) : Prop := w.heap[g]? = some (.cells cs t (cs.size, cs.size + 1))
theorem Bf.lt {w : World} {g : Nat} {t : TypeId} {cs : Array Value} (h : Bf w g t cs) : g < w.heap.size := by
  rcases Nat.lt_or_ge g w.heap.size with hlt | hge
  · exact hlt
  · unfold Bf at h; rw [Array.getElem?_eq_none hge] at h; cases h
theorem Bf.cell {w : World} {g : Nat} {t : TypeId} {cs : Array Value} (h : Bf w g t cs) (i : Nat) : w.cell? ⟨g, i, none⟩ = cs[i]? := cell_of_row w g i cs t _ h
theorem Bf.frozen {w : World} {g : Nat} {t : TypeId} {cs : Array Value} (h : Bf w g t cs) (i : Nat) (hi : i < cs.size) : w.frozen? ⟨g, i, none⟩ = false := by
  unfold Bf at h
  simp [World.frozen?, h]
  omega
theorem Bf.put {w : World} {g : Nat} {t : TypeId} {cs : Array Value} (h : Bf w g t cs) (i : Nat) (u : Value) : Bf (w.setCell ⟨g, i, none⟩ u) g t (cs.setIfInBounds i u) := by
  unfold Bf at h ⊢
  simp [World.setCell, Array.getElem?_modify, h]
theorem Bf.below {w w' : World} {B g : Nat} {t : TypeId} {cs : Array Value} (h : Bf w g t cs) (hb : Below B w w') (hg : g < B) : Bf w' g t cs := (hb.block g hg).trans h
theorem Bf.grow {w w' : World} {g : Nat} {t : TypeId} {cs : Array Value} {row : Option Nat} (h : Bf w g t cs) (hb : w.grownBy w' row) (hg : some g ≠ row) : Bf w' g t cs := (hb.block g h.lt hg).trans h
theorem bytesWorld_grown (w : World) (e : TypeId) (s : ByteArray) : w.grownBy (Lib.bytesWorld w e s) none :=
  ⟨rfl, rfl, rfl, by rw [Lib.bytesWorld_size]; omega, fun i hi _ => Lib.bytesWorld_at_old w e s i hi⟩
/-- '[]byte(s)' in the walk: the new world is a letter. -/
theorem wpList_bytes_of {P : Program} (w : World) {ops : Array Oper} {rest : List Oper} {o : Oper} {a : Act} {Q : Exit → Act → World → Prop}
    (hg : o.guard = none) (src dst : TypeId) (x : Operand) (hop : o.op = Op.convert src dst x) (e : TypeId) {u : TypeDesc}
    (hs : P.underlying src = some u) (hd : P.underlying dst = some (.slice e)) (he : P.underlying e = some (.int .u8)) (s : ByteArray) (hx : a.eval x = .string s)
    (hK : ∀ w' c cs, s.size ≤ cs.size → Bf w' w.heap.size e cs → (∀ j, j < s.size → cs[j]? = some (.int .u8 ((s.data.toList.getD j 0).toNat : Int))) → w'.heap.size = w.heap.size + 1 → w.grownBy w' none → wpList P ops Q rest (a.put o.dst (.slice (some ⟨w.heap.size, 0, none⟩) s.size c)) w') :
    wpList P ops Q (o :: rest) a w := by
  refine wpList_plain hg fun K hK' => ?_
  have hrun := Lib.run_convert_string_bytes (P := P) w src dst e s hs hd he
  unfold Oper.wp
  simp [execOp, hop, hx, hrun, Result.andThen]
  have hz : s.size ≤ (Lib.bytesCells w e s).size := by
    simp only [Lib.bytesCells, Array.size_append, Array.size_map]
    show s.data.size ≤ _
    omega
  exact hK' _ _ (hK _ _ (Lib.bytesCells w e s) hz (Lib.bytesWorld_at_new w e s) (fun j hj => by
    have := Lib.bytesWorld_cell w e s j hj
    rw [cell_of_row _ _ _ _ _ _ (Lib.bytesWorld_at_new w e s)] at this
    exact this) (Lib.bytesWorld_size w e s) (bytesWorld_grown w e s))
end Go.Proofs.YtmfkelcpnollbaaDoor
