/-
  The walk of package hex: Digits.
-/
import Derived.Test.YticilkbhcejmoaaDoorHexEnc
namespace Go.Proofs.YticilkbhcejmoaaDoor
open Go.RowKit

/-- Block g is just these cells. -/
def Blk (w : World) (g : Nat) (t : TypeId) (cs : Array Value) : Prop := w.heap[g]? = some (.cells cs t (0, 0))
theorem Blk.lt {w : World} {g : Nat} {t : TypeId} {cs : Array Value} (h : Blk w g t cs) : g < w.heap.size := by
  rcases Nat.lt_or_ge g w.heap.size with hlt | hge
  · exact hlt
  · unfold Blk at h; rw [Array.getElem?_eq_none hge] at h; cases h
theorem Blk.cell {w : World} {g : Nat} {t : TypeId} {cs : Array Value} (h : Blk w g t cs) (i : Nat) : w.cell? ⟨g, i, none⟩ = cs[i]? := cell_of_row w g i cs t (0, 0) h
theorem Blk.frozen {w : World} {g : Nat} {t : TypeId} {cs : Array Value} (h : Blk w g t cs) (i : Nat) : w.frozen? ⟨g, i, none⟩ = false := by
  unfold Blk at h
  simp [World.frozen?, h]
theorem Blk.set_ {w : World} {g : Nat} {t : TypeId} {cs : Array Value} (h : Blk w g t cs) (i : Nat) (u : Value) : Blk (w.setCell ⟨g, i, none⟩ u) g t (cs.setIfInBounds i u) := by
  unfold Blk at h ⊢
  simp [World.setCell, Array.getElem?_modify, h]

/-- What the loop of Digits keeps. -/
def DgRel (w : World) (n m f n' : Nat) (acc : List UInt8) (cur : Array Value) (wr : World) : Prop :=
  n' < 16 ^ f ∧ acc.length + f = 16 ∧ Hx.dgs f n' m acc = Hx.dgs 16 n m [] ∧ Blk wr w.heap.size 39 cur ∧ cur.size = 16 ∧ cur.toList.drop f = cellsU8 acc ∧ Below w.heap.size w wr

theorem len16 : Tryd.prog.arrayLen 39 = 16 := by kernel_rfl
theorem size_u8 (w : World) : (sizeOf (Tryd.prog.elem 39)).run Tryd.prog w = .ok 1 w := by kernel_rfl
theorem und16 : Tryd.prog.underlying 39 = some (.array (Tryd.prog.arrayLen 39) (Tryd.prog.elem 39)) := by kernel_rfl
theorem slice16 (g f : Nat) (w : World) (hf : f < 16) : (Instr.sliceAt 39 (.pointer (some ⟨g, 0, none⟩)) (some (.int .i64 (f : Int))) none none).run Tryd.prog w = .ok (.slice (some ⟨g, f, none⟩) (16 - f) (16 - f)) w := by
  rw [run_sliceAt_array_l w _ _ und16 .i64 f (by omega) (by rw [len16]; omega), size_u8]
  simp only [Result.andThen, slicedAt, len16, Int.toNat_natCast, Nat.mul_one]
  rw [if_neg (by omega)]
  unfold Addr.add
  by_cases h : f = 0 <;> simp [h]
theorem say16 {w wr : World} {n m f n' : Nat} {acc : List UInt8} {cur : Array Value} (h : DgRel w n m f n' acc cur wr) (hm : ¬ (0 < n' ∨ acc.length < m)) :
    (convert 23 9 (.slice (some ⟨w.heap.size, f, none⟩) (16 - f) (16 - f))).run Tryd.prog wr = .ok (.string ⟨(Hx.dgs 16 n m []).toArray⟩) wr := by
  obtain ⟨q1, q2, q3, q4, q5, q6, q7⟩ := h
  rw [← q3, Hx.dgs_end _ _ _ _ hm, ← strOfNums_bytes]
  refine run_convert_bytes_arg wr _ _ Tryd.underlying23 Tryd.underlying5 _ _ _ _ _ (by rw [List.length_map]; omega) (fun i hi => ?_) _ Tryd.underlying9
  rw [q4.cell, ← Array.getElem?_toList, ← List.getElem?_drop, q6]
  have hi' : i < acc.length := by omega
  simp [cellsU8, hi']
theorem DgRel.step {w wr : World} {n m f n' : Nat} {acc : List UInt8} {cur : Array Value} (h : DgRel w n m (f + 1) n' acc cur wr) (hm : 0 < n' ∨ acc.length < m) :
    DgRel w n m f (n' / 16) (Hx.hexd (n' % 16) :: acc) (cur.setIfInBounds f (.int .u8 ((Hx.hexd (n' % 16)).toNat : Int))) (wr.setCell ⟨w.heap.size, f, none⟩ (.int .u8 ((Hx.hexd (n' % 16)).toNat : Int))) := by
  obtain ⟨q1, q2, q3, q4, q5, q6, q7⟩ := h
  refine ⟨by rw [Nat.pow_succ] at q1; omega, by rw [List.length_cons]; omega, by rw [← q3, Hx.dgs_go _ _ _ _ hm], q4.set_ f _, by rw [Array.size_setIfInBounds]; exact q5, ?_, q7.setCell (Nat.le_refl _) _⟩
  have hlt : f < cur.toList.length := by rw [Array.length_toList]; omega
  rw [Array.toList_setIfInBounds, List.drop_set, if_neg (by omega), Nat.sub_self, List.drop_eq_getElem_cons hlt, List.set_cons_zero, q6]
  rfl

set_option maxHeartbeats 800000 in
theorem digits_any (n : Nat) (least : Int) (w : World) (hn : n < 18446744073709551616) (hD : Digs w) :
    Calls Tryd.prog 15 #[.int .u64 n, .int .i64 least] w fun e w' => e = .returned (.string (Hx.digits n least)) ∧ Below w.heap.size w w' := by
  have hc : (least < 1 ∧ Hx.lst least = 1) ∨ (16 < least ∧ Hx.lst least = 16) ∨ ∃ m : Nat, least = (m : Int) ∧ 1 ≤ m ∧ m ≤ 16 ∧ Hx.lst least = m := by
    unfold Hx.lst
    by_cases h1 : least < 1
    · left; omega
    · by_cases h2 : 16 < least
      · right; left; omega
      · right; right; exact ⟨least.toNat, by omega, by omega, by omega, by omega⟩
  rcases hc with ⟨h1, hl⟩ | ⟨h1, hl⟩ | ⟨m, rfl, h1, h2, hl⟩
  · have hfin : Hid (Hx.digits n least = ⟨(Hx.dgs 16 n 1 []).toArray⟩) := by show _ = _; unfold Hx.digits; rw [hl]
    clear hl
    go_enter Tryd.func15, Tryd.ntmps15
    go_wp2
    go_loopw [0, 6] (fun a b wr => ∃ (f n' : Nat) (acc : List UInt8) (cur : Array Value), a = .int .u64 (n' : Int) ∧ b = .int .i64 (f : Int) ∧ DgRel w n 1 f n' acc cur wr) (fun _ b _ => (intOf b).toNat)
    case atStart => exact ⟨16, n, [], _, rfl, rfl, hn, rfl, rfl, heap_alloc_new w (.cells #[.int .u8 0, .int .u8 0, .int .u8 0, .int .u8 0, .int .u8 0, .int .u8 0, .int .u8 0, .int .u8 0, .int .u8 0, .int .u8 0, .int .u8 0, .int .u8 0, .int .u8 0, .int .u8 0, .int .u8 0, .int .u8 0] 39), rfl, rfl, (Below.refl _ _).alloc (Nat.le_refl _) _⟩
    case round =>
      obtain ⟨f, n', acc, cur, rfl, rfl, q1, q2, q3, q4, q5, q6, q7⟩ := hrel
      have hbd : n' < 18446744073709551616 := Nat.lt_of_lt_of_le q1 (Nat.pow_le_pow_right (n := 16) (by omega) (by omega : f ≤ 16))
      by_cases hmore : 0 < n' ∨ acc.length < 1
      · obtain ⟨f, rfl⟩ : ∃ g, f = g + 1 := ⟨f - 1, by
          rcases hmore with h | h
          · cases f with
            | zero => simp at q1; omega
            | succ f => omega
          · omega⟩
        have hlt : f < cur.size := by omega
        obtain ⟨v, hv⟩ : ∃ v, cur[f]? = some v := ⟨_, Array.getElem?_eq_getElem hlt⟩
        have hcell : wr.cell? ⟨w.heap.size, f, none⟩ = some v := (q4.cell f).trans hv
        have hfrz : wr.frozen? ⟨w.heap.size, f, none⟩ = false := q4.frozen f
        have hand : bits .and .u64 (n' : Int) 15 = (n' : Int) % 16 := by rw [u64_and _ _ (by omega) (by omega) (by omega) (by omega)]; exact congrArg Nat.cast (nat_mask4 _)
        have hD' := hD.below q7 hD.lt (n' % 16) (by omega)
        have i1 : (0 : Int) ≤ (n' : Int) % 16 := by omega
        have i2 : (n' : Int) % 16 < 16 := by omega
        have i3 : (f : Int) + 1 ≤ 16 := by omega
        have hb0 := q7.size
        have hkeep := Lib.hid (And.intro q1 (And.intro q2 (And.intro q3 (And.intro q4 (And.intro q5 (And.intro q6 q7))))))
        have hmore' : 0 < n' ∨ (¬ 0 < n' ∧ (16 : Int) - ((f : Int) + 1) < 1) := by omega
        have Hm := Lib.hid hmore
        clear q1 q2 q3 q4 q5 q6 q7 hmore hbd hv
        rcases hmore' with h | ⟨h, h'⟩
        all_goals
          go_wp2
          go_roundw
          case rel => exact ⟨f, n' / 16, _, _, congrArg _ (by omega), rfl, DgRel.step hkeep.out Hm.out⟩
          case measure => simp [intOf]
      · have e1 : ¬ 0 < n' := by omega
        have e2 : ¬ ((16 : Int) - (f : Int) < 1) := by omega
        have e3 : f < 16 := by omega
        have e4 : (f : Int) < 16 := by omega
        have hb0 := q7.size
        have hkeep := Lib.hid (And.intro q1 (And.intro q2 (And.intro q3 (And.intro q4 (And.intro q5 (And.intro q6 q7))))))
        have Hm := Lib.hid hmore
        clear q1 q2 q3 q4 q5 q6 q7 hmore hbd
        have hsl := slice16 w.heap.size f wr e3
        have hsay := say16 hkeep.out Hm.out
        have hbel := Lib.hid hkeep.out.2.2.2.2.2.2
        clear hkeep Hm
        go_wp2
        go_ret
        exact ⟨ret_str hfin.out.symm, hbel.out⟩
  · have hfin : Hid (Hx.digits n least = ⟨(Hx.dgs 16 n 16 []).toArray⟩) := by show _ = _; unfold Hx.digits; rw [hl]
    clear hl
    go_enter Tryd.func15, Tryd.ntmps15
    go_wp2
    go_loopw [0, 6] (fun a b wr => ∃ (f n' : Nat) (acc : List UInt8) (cur : Array Value), a = .int .u64 (n' : Int) ∧ b = .int .i64 (f : Int) ∧ DgRel w n 16 f n' acc cur wr) (fun _ b _ => (intOf b).toNat)
    case atStart => exact ⟨16, n, [], _, rfl, rfl, hn, rfl, rfl, heap_alloc_new w (.cells #[.int .u8 0, .int .u8 0, .int .u8 0, .int .u8 0, .int .u8 0, .int .u8 0, .int .u8 0, .int .u8 0, .int .u8 0, .int .u8 0, .int .u8 0, .int .u8 0, .int .u8 0, .int .u8 0, .int .u8 0, .int .u8 0] 39), rfl, rfl, (Below.refl _ _).alloc (Nat.le_refl _) _⟩
    case round =>
      obtain ⟨f, n', acc, cur, rfl, rfl, q1, q2, q3, q4, q5, q6, q7⟩ := hrel
      have hbd : n' < 18446744073709551616 := Nat.lt_of_lt_of_le q1 (Nat.pow_le_pow_right (n := 16) (by omega) (by omega : f ≤ 16))
      by_cases hmore : 0 < n' ∨ acc.length < 16
      · obtain ⟨f, rfl⟩ : ∃ g, f = g + 1 := ⟨f - 1, by
          rcases hmore with h | h
          · cases f with
            | zero => simp at q1; omega
            | succ f => omega
          · omega⟩
        have hlt : f < cur.size := by omega
        obtain ⟨v, hv⟩ : ∃ v, cur[f]? = some v := ⟨_, Array.getElem?_eq_getElem hlt⟩
        have hcell : wr.cell? ⟨w.heap.size, f, none⟩ = some v := (q4.cell f).trans hv
        have hfrz : wr.frozen? ⟨w.heap.size, f, none⟩ = false := q4.frozen f
        have hand : bits .and .u64 (n' : Int) 15 = (n' : Int) % 16 := by rw [u64_and _ _ (by omega) (by omega) (by omega) (by omega)]; exact congrArg Nat.cast (nat_mask4 _)
        have hD' := hD.below q7 hD.lt (n' % 16) (by omega)
        have i1 : (0 : Int) ≤ (n' : Int) % 16 := by omega
        have i2 : (n' : Int) % 16 < 16 := by omega
        have i3 : (f : Int) + 1 ≤ 16 := by omega
        have hb0 := q7.size
        have hkeep := Lib.hid (And.intro q1 (And.intro q2 (And.intro q3 (And.intro q4 (And.intro q5 (And.intro q6 q7))))))
        have hmore' : 0 < n' ∨ (¬ 0 < n' ∧ (16 : Int) - ((f : Int) + 1) < 16) := by omega
        have Hm := Lib.hid hmore
        clear q1 q2 q3 q4 q5 q6 q7 hmore hbd hv
        rcases hmore' with h | ⟨h, h'⟩
        all_goals
          go_wp2
          go_roundw
          case rel => exact ⟨f, n' / 16, _, _, congrArg _ (by omega), rfl, DgRel.step hkeep.out Hm.out⟩
          case measure => simp [intOf]
      · have e1 : ¬ 0 < n' := by omega
        have e2 : ¬ ((16 : Int) - (f : Int) < 16) := by omega
        have e3 : f < 16 := by omega
        have e4 : (f : Int) < 16 := by omega
        have hb0 := q7.size
        have hkeep := Lib.hid (And.intro q1 (And.intro q2 (And.intro q3 (And.intro q4 (And.intro q5 (And.intro q6 q7))))))
        have Hm := Lib.hid hmore
        clear q1 q2 q3 q4 q5 q6 q7 hmore hbd
        have hsl := slice16 w.heap.size f wr e3
        have hsay := say16 hkeep.out Hm.out
        have hbel := Lib.hid hkeep.out.2.2.2.2.2.2
        clear hkeep Hm
        go_wp2
        go_ret
        exact ⟨ret_str hfin.out.symm, hbel.out⟩
  · have hfin : Hid (Hx.digits n m = ⟨(Hx.dgs 16 n m []).toArray⟩) := by show _ = _; unfold Hx.digits; rw [hl]
    clear hl
    go_enter Tryd.func15, Tryd.ntmps15
    go_wp2
    go_loopw [0, 6] (fun a b wr => ∃ (f n' : Nat) (acc : List UInt8) (cur : Array Value), a = .int .u64 (n' : Int) ∧ b = .int .i64 (f : Int) ∧ DgRel w n m f n' acc cur wr) (fun _ b _ => (intOf b).toNat)
    case atStart => exact ⟨16, n, [], _, rfl, rfl, hn, rfl, rfl, heap_alloc_new w (.cells #[.int .u8 0, .int .u8 0, .int .u8 0, .int .u8 0, .int .u8 0, .int .u8 0, .int .u8 0, .int .u8 0, .int .u8 0, .int .u8 0, .int .u8 0, .int .u8 0, .int .u8 0, .int .u8 0, .int .u8 0, .int .u8 0] 39), rfl, rfl, (Below.refl _ _).alloc (Nat.le_refl _) _⟩
    case round =>
      obtain ⟨f, n', acc, cur, rfl, rfl, q1, q2, q3, q4, q5, q6, q7⟩ := hrel
      have hbd : n' < 18446744073709551616 := Nat.lt_of_lt_of_le q1 (Nat.pow_le_pow_right (n := 16) (by omega) (by omega : f ≤ 16))
      by_cases hmore : 0 < n' ∨ acc.length < m
      · obtain ⟨f, rfl⟩ : ∃ g, f = g + 1 := ⟨f - 1, by
          rcases hmore with h | h
          · cases f with
            | zero => simp at q1; omega
            | succ f => omega
          · omega⟩
        have hlt : f < cur.size := by omega
        obtain ⟨v, hv⟩ : ∃ v, cur[f]? = some v := ⟨_, Array.getElem?_eq_getElem hlt⟩
        have hcell : wr.cell? ⟨w.heap.size, f, none⟩ = some v := (q4.cell f).trans hv
        have hfrz : wr.frozen? ⟨w.heap.size, f, none⟩ = false := q4.frozen f
        have hand : bits .and .u64 (n' : Int) 15 = (n' : Int) % 16 := by rw [u64_and _ _ (by omega) (by omega) (by omega) (by omega)]; exact congrArg Nat.cast (nat_mask4 _)
        have hD' := hD.below q7 hD.lt (n' % 16) (by omega)
        have i1 : (0 : Int) ≤ (n' : Int) % 16 := by omega
        have i2 : (n' : Int) % 16 < 16 := by omega
        have i3 : (f : Int) + 1 ≤ 16 := by omega
        have hb0 := q7.size
        have hkeep := Lib.hid (And.intro q1 (And.intro q2 (And.intro q3 (And.intro q4 (And.intro q5 (And.intro q6 q7))))))
        have hmore' : 0 < n' ∨ (¬ 0 < n' ∧ (16 : Int) - ((f : Int) + 1) < m) := by omega
        have Hm := Lib.hid hmore
        clear q1 q2 q3 q4 q5 q6 q7 hmore hbd hv
        rcases hmore' with h | ⟨h, h'⟩
        all_goals
          go_wp2
          go_roundw
          case rel => exact ⟨f, n' / 16, _, _, congrArg _ (by omega), rfl, DgRel.step hkeep.out Hm.out⟩
          case measure => simp [intOf]
      · have e1 : ¬ 0 < n' := by omega
        have e2 : ¬ ((16 : Int) - (f : Int) < m) := by omega
        have e3 : f < 16 := by omega
        have e4 : (f : Int) < 16 := by omega
        have hb0 := q7.size
        have hkeep := Lib.hid (And.intro q1 (And.intro q2 (And.intro q3 (And.intro q4 (And.intro q5 (And.intro q6 q7))))))
        have Hm := Lib.hid hmore
        clear q1 q2 q3 q4 q5 q6 q7 hmore hbd
        have hsl := slice16 w.heap.size f wr e3
        have hsay := say16 hkeep.out Hm.out
        have hbel := Lib.hid hkeep.out.2.2.2.2.2.2
        clear hkeep Hm
        go_wp2
        go_ret
        exact ⟨ret_str hfin.out.symm, hbel.out⟩
end Go.Proofs.YticilkbhcejmoaaDoor
