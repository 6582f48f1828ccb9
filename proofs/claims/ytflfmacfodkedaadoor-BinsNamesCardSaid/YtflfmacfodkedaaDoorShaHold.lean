/-
  What a hash holds: the state behind the full blocks, the bytes of the incomplete one, how many there are. Plain facts on its cells.
-/
import Derived.Test.YtflfmacfodkedaaDoorShaMix
import Derived.Lib.BufferWrite
namespace Go.Proofs.YtflfmacfodkedaaDoor
set_option linter.unusedSimpArgs false
set_option linter.unusedVariables false
open Go Go.RowKit

/-- The bytes of a string, as numbers. -/
def byt (s : ByteArray) : List Nat := s.data.toList.map UInt8.toNat
theorem byt_len (s : ByteArray) : (byt s).length = s.size := by
  unfold byt
  rw [List.length_map, ← Lib.size_eq]
theorem byt_lt (s : ByteArray) : ∀ x ∈ byt s, x < 256 := by
  intro x hx
  obtain ⟨b, _, rfl⟩ := List.mem_map.1 hx
  exact b.toNat_lt
theorem byt_inj {a b : ByteArray} (h : byt a = byt b) : a = b := by
  refine eq_bytes ?_
  unfold byt at h
  exact (List.map_inj_right (fun x y e => UInt8.toNat_inj.1 e)).1 h

/-- A list with another one laid over it. -/
def over {α : Type} (l x : List α) (u : Nat) : List α := l.take u ++ x ++ l.drop (u + x.length)
theorem over_len {α : Type} (l x : List α) (u : Nat) (h : u + x.length ≤ l.length) : (over l x u).length = l.length := by
  unfold over
  simp only [List.length_append, List.length_take, List.length_drop]
  omega
theorem over_get {α : Type} (l x : List α) (u j : Nat) (h : u + x.length ≤ l.length) : (over l x u)[j]? = if u ≤ j ∧ j < u + x.length then x[j - u]? else l[j]? := by
  unfold over
  have ht : (l.take u).length = u := by rw [List.length_take]; omega
  by_cases h1 : j < u
  · rw [if_neg (by omega), List.append_assoc, List.getElem?_append_left (by omega), List.getElem?_take, if_pos h1]
  · by_cases h2 : j < u + x.length
    · rw [if_pos ⟨by omega, h2⟩, List.getElem?_append_left (by rw [List.length_append]; omega), List.getElem?_append_right (by omega), ht]
    · rw [if_neg (by omega), List.getElem?_append_right (by rw [List.length_append]; omega), List.getElem?_drop, List.length_append, ht]
      congr 1
      omega
def cellsB (x : List Nat) : List Value := x.map fun b => .int .u8 (b : Nat)
theorem cellsB_len (x : List Nat) : (cellsB x).length = x.length := by simp [cellsB]
/-- Cells with others laid over them. -/
def spl (cs : Array Value) (o : Nat) (vs : List Value) : Array Value := (over cs.toList vs o).toArray
theorem spl_size (cs : Array Value) (o : Nat) (vs : List Value) (h : o + vs.length ≤ cs.size) : (spl cs o vs).size = cs.size := by
  unfold spl
  rw [List.size_toArray, over_len _ _ _ (by simpa using h), Array.length_toList]
theorem spl_get (cs : Array Value) (o : Nat) (vs : List Value) (j : Nat) (h : o + vs.length ≤ cs.size) : (spl cs o vs)[j]? = if o ≤ j ∧ j < o + vs.length then vs[j - o]? else cs[j]? := by
  unfold spl
  rw [List.getElem?_toArray, over_get _ _ _ _ (by simpa using h)]
  split
  · rfl
  · exact Array.getElem?_toList
theorem HC.lay {cs : Array Value} {s : Sh.St} {p : List Nat} {n : Nat} (h : HC cs s p n) (hp : p.length = 64) (x : List Nat) (u : Nat) (hu : u + x.length ≤ 64) :
    HC (spl cs (9 + u) (cellsB x)) s (over p x u) n := by
  have hs : 9 + u + (cellsB x).length ≤ cs.size := by rw [cellsB_len, h.size]; omega
  have out : ∀ j, (j < 9 ∨ 73 ≤ j) → (spl cs (9 + u) (cellsB x))[j]? = cs[j]? := fun j hj => by
    rw [spl_get _ _ _ _ hs, if_neg (by rw [cellsB_len]; omega)]
  refine ⟨by rw [spl_size _ _ _ hs]; exact h.size, (out 0 (by omega)).trans h.begun, fun j hj => (out (1 + j) (by omega)).trans (h.state j hj), fun j hj => ?_, (out 73 (by omega)).trans h.len⟩
  rw [spl_get _ _ _ _ hs, List.getD_eq_getElem?_getD, over_get _ _ _ _ (by omega), cellsB_len]
  by_cases h1 : u ≤ j ∧ j < u + x.length
  · rw [if_pos ⟨by omega, by omega⟩, if_pos h1, show 9 + j - (9 + u) = j - u by omega]
    unfold cellsB
    rw [List.getElem?_map, List.getElem?_eq_getElem (by omega)]
    rfl
  · rw [if_neg (by omega), if_neg h1, ← List.getD_eq_getElem?_getD]
    exact h.part j hj
theorem HC.grow {cs : Array Value} {s : Sh.St} {p : List Nat} {n : Nat} (h : HC cs s p n) (m : Nat) : HC (cs.setIfInBounds 73 (.int .i64 (m : Int))) s p m := by
  have out : ∀ j, j < 73 → (cs.setIfInBounds 73 (.int .i64 (m : Int)))[j]? = cs[j]? := fun j hj => by
    rw [Array.getElem?_setIfInBounds, if_neg (by omega)]
  refine ⟨by rw [Array.size_setIfInBounds]; exact h.size, (out 0 (by omega)).trans h.begun, fun j hj => (out _ (by omega)).trans (h.state j hj), fun j hj => (out _ (by omega)).trans (h.part j hj), ?_⟩
  rw [Array.getElem?_setIfInBounds, if_pos rfl, if_pos (by rw [h.size]; omega)]

/-- The cells hold what comes of the row L, the size being said as N. -/
structure Mid (cs : Array Value) (L p : List Nat) (N : Nat) : Prop where
  hc : HC cs (Sh.blocks Sh.s0 L (L.length / 64)) p N
  plen : p.length = 64
  plt : ∀ x ∈ p, x < 256
  front : p.take (L.length % 64) = L.drop (64 * (L.length / 64))
theorem Mid.grow {cs : Array Value} {L p : List Nat} {N : Nat} (h : Mid cs L p N) (m : Nat) : Mid (cs.setIfInBounds 73 (.int .i64 (m : Int))) L p m := ⟨h.hc.grow m, h.plen, h.plt, h.front⟩
theorem over_lt {p x : List Nat} {u : Nat} (hp : ∀ y ∈ p, y < 256) (hx : ∀ y ∈ x, y < 256) : ∀ y ∈ over p x u, y < 256 := by
  intro y hy
  unfold over at hy
  rcases List.mem_append.1 hy with hy | hy
  · rcases List.mem_append.1 hy with hy | hy
    · exact hp y (List.mem_of_mem_take hy)
    · exact hx y hy
  · exact hp y (List.mem_of_mem_drop hy)
/-- Fewer bytes than the block wants. -/
theorem Mid.more {cs : Array Value} {L p : List Nat} {N : Nat} (h : Mid cs L p N) (x : List Nat) (hx : ∀ y ∈ x, y < 256) (hu : L.length % 64 + x.length < 64) :
    Mid (spl cs (9 + L.length % 64) (cellsB x)) (L ++ x) (over p x (L.length % 64)) N := by
  have e1 : (L ++ x).length / 64 = L.length / 64 := by rw [List.length_append]; omega
  have e2 : (L ++ x).length % 64 = L.length % 64 + x.length := by rw [List.length_append]; omega
  refine ⟨?_, by rw [over_len _ _ _ (by rw [h.plen]; omega)]; exact h.plen, over_lt h.plt hx, ?_⟩
  · rw [e1, Sh.blocks_app _ _ _ _ (by omega)]
    exact h.hc.lay h.plen x _ (by omega)
  · rw [e1, e2]
    unfold over
    have ht : (p.take (L.length % 64)).length = L.length % 64 := by rw [List.length_take, h.plen]; omega
    rw [List.take_append_of_le_length (by rw [List.length_append]; omega), List.take_of_length_le (by rw [List.length_append]; omega), h.front, List.drop_append_of_le_length (by omega)]
/-- As many bytes as the block wants. -/
theorem Mid.full {cs : Array Value} {L p : List Nat} {N : Nat} (h : Mid cs L p N) (x : List Nat) (hx : ∀ y ∈ x, y < 256) (hu : L.length % 64 + x.length = 64) :
    HC (spl cs (9 + L.length % 64) (cellsB x)) (Sh.blocks Sh.s0 (L ++ x) (L.length / 64)) (over p x (L.length % 64)) N ∧ (over p x (L.length % 64)).length = 64 ∧ (∀ y ∈ over p x (L.length % 64), y < 256) ∧
    ∀ cs', HC cs' (Sh.comp (Sh.blocks Sh.s0 (L ++ x) (L.length / 64)) (over p x (L.length % 64))) (over p x (L.length % 64)) N → Mid cs' (L ++ x) (over p x (L.length % 64)) N := by
  have e1 : (L ++ x).length / 64 = L.length / 64 + 1 := by rw [List.length_append]; omega
  have e2 : (L ++ x).length % 64 = 0 := by rw [List.length_append]; omega
  have e3 : (over p x (L.length % 64)).length = 64 := by rw [over_len _ _ _ (by rw [h.plen]; omega)]; exact h.plen
  have e4 : ((L ++ x).drop (64 * (L.length / 64))).take 64 = over p x (L.length % 64) := by
    unfold over
    rw [List.drop_append_of_le_length (by omega), ← h.front, hu, List.drop_of_length_le (by rw [h.plen]; exact Nat.le_refl _), List.append_nil, List.take_of_length_le]
    rw [List.length_append, List.length_take, h.plen]; omega
  refine ⟨?_, e3, over_lt h.plt hx, fun cs' hc => ⟨?_, e3, over_lt h.plt hx, ?_⟩⟩
  · rw [Sh.blocks_app _ _ _ _ (by omega)]
    exact h.hc.lay h.plen x _ (by omega)
  · rw [e1, Sh.blocks, e4]
    exact hc
  · rw [e2, e1, List.take_zero, List.drop_of_length_le]
    rw [List.length_append]; omega

/-- The hash in block h covers the bytes l. -/
def Held (w : World) (h : Nat) (l : List Nat) : Prop := ∃ cs p, Bk w h 86 cs ∧ Mid cs l p l.length
theorem Held.lt {w : World} {h : Nat} {l : List Nat} (k : Held w h l) : h < w.heap.size := by obtain ⟨cs, p, hb, _⟩ := k; exact hb.lt
theorem Held.grow {w w' : World} {h : Nat} {l : List Nat} {row : Option Nat} (k : Held w h l) (g : w.grownBy w' row) (hr : some h ≠ row) : Held w' h l := by
  obtain ⟨cs, p, hb, hm⟩ := k; exact ⟨cs, p, hb.grow g hr, hm⟩
theorem Held.below {w w' : World} {B h : Nat} {l : List Nat} (k : Held w h l) (hb : Below B w w') (hr : h < B) : Held w' h l := by
  obtain ⟨cs, p, hk, hm⟩ := k; exact ⟨cs, p, hk.below hb hr, hm⟩
/-- The tables lie below this block. -/
structure Ov (h : Nat) : Prop where
  rnd : 2 < h
  ini : 1 < h
theorem Tb.lt {w : World} (h : Tb w) : Ov w.heap.size := ⟨World.block_lt_of_cell? w _ (h.rnd 0 (by omega)), World.block_lt_of_cell? w _ (h.ini 0 (by omega))⟩
theorem Ov.mono {a b : Nat} (h : Ov a) (hab : a ≤ b) : Ov b := ⟨Nat.lt_of_lt_of_le h.rnd hab, Nat.lt_of_lt_of_le h.ini hab⟩
theorem Tb.grow {w w' : World} {h : Nat} (k : Tb w) (g : w.grownBy w' (some h)) (ho : Ov h) : Tb w' :=
  ⟨fun i hi => (one_cell g (p := ⟨2, i, none⟩) k.lt.rnd (by intro e; have := ho.rnd; cases e; exact absurd this (Nat.lt_irrefl _))).trans (k.rnd i hi),
   fun i hi => (one_cell g (p := ⟨1, i, none⟩) k.lt.ini (by intro e; have := ho.ini; cases e; exact absurd this (Nat.lt_irrefl _))).trans (k.ini i hi)⟩
theorem Tb.below {w w' : World} {B : Nat} (k : Tb w) (hb : Below B w w') (ho : Ov B) : Tb w' :=
  ⟨fun i hi => ((bcell hb).1 _ i ho.rnd).trans (k.rnd i hi), fun i hi => ((bcell hb).1 _ i ho.ini).trans (k.ini i hi)⟩

/-- 'copy(dst, s)': as many bytes of s as there is room for. -/
theorem run_copy_part {P : Program} (w : World) (dT sT ty elem : TypeId) (g o dLen dCap n : Nat) (s : ByteArray) (cur : Array Value) (t : TypeId)
    (hu : P.underlying dT = some (.slice elem)) (hs : (P.info? elem).map (·.size) = some 1) (hg : Bk w g t cur) (hn : Nat.min s.size dLen = n) (hfit : o + n ≤ cur.size) :
    (Builtin.copy_ #[dT, sT] ty #[.slice (some ⟨g, o, none⟩) dLen dCap, .string s]).run P w =
      .ok (goInt n) (w.setRow g (spl cur o (cellsB ((byt s).take n)))) := by
  have hns : n ≤ s.size := by rw [← hn]; exact Nat.min_le_left _ _
  have hlen : (cellsB ((byt s).take n)).length = n := by rw [cellsB_len, List.length_take, byt_len]; omega
  have hst := run_storeCells_at P g o t (cellsB ((byt s).take n)) 0 cur w hg (by rw [hlen]; simpa using hfit) (by
    intro v hv
    simp only [cellsB, List.mem_map] at hv
    obtain ⟨b, _, rfl⟩ := hv
    rfl)
  have htk : List.take n (List.map (fun b : UInt8 => Value.int IntKind.u8 (b.toNat : Int)) s.data.toList) = cellsB ((byt s).take n) := by
    unfold cellsB byt
    rw [← List.map_take, ← List.map_take, List.map_map]
    rfl
  rw [hlen] at hst
  simp only [Nat.add_zero] at hst
  cases hq : P.info? elem with
  | none => simp [hq] at hs
  | some i =>
    simp [Builtin.copy_, run_underlying hu, Builtin.lenOf, Builtin.firstCells, sizeOf, typeInfo, hq, hn]
    rw [htk, hst]
    simp [Result.andThen, spl, over, hlen]
theorem Bk.row {w : World} {g : Nat} {t : TypeId} {cs : Array Value} (h : Bk w g t cs) (ds : Array Value) : Bk (w.setRow g ds) g t ds := setRow_heap w g cs ds t (0, 0) h
theorem one_row {a w : World} {g : Nat} (h : a.grownBy w (some g)) (ds : Array Value) : a.grownBy (w.setRow g ds) (some g) :=
  ⟨h.os, h.tape, h.output, by rw [size_setRow]; exact h.size, fun k hk hne => (setRow_other w g k ds (fun e => hne (by rw [e]))).trans (h.block k hk hne)⟩
end Go.Proofs.YtflfmacfodkedaaDoor
