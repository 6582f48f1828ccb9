/-
  The walk of (*sha.Hash).Write: bytes go in.
-/
import Derived.Test.YtflfmacfodkedaaDoorShaHold
import Derived.Lib.SlBuf
namespace Go.Proofs.YtflfmacfodkedaaDoor
set_option linter.unusedSimpArgs false
set_option linter.unusedVariables false
open Go Go.RowKit

theorem byt_extract (s : ByteArray) (n : Nat) : byt (s.extract n s.size) = (byt s).drop n := by
  unfold byt
  rw [Lib.extract_data, List.take_of_length_le (by rw [List.length_drop, ← Lib.size_eq]; exact Nat.le_refl _), List.map_drop]
theorem part_len : Tryd.prog.arrayLen 84 = 64 := by kernel_rfl
theorem part_one (w : World) : (sizeOf (Tryd.prog.elem 84)).run Tryd.prog w = .ok 1 w := by kernel_rfl
theorem part_und : Tryd.prog.underlying 84 = some (.array (Tryd.prog.arrayLen 84) (Tryd.prog.elem 84)) := by kernel_rfl
theorem part_from (g o f : Nat) (w : World) (hf : f < 64) : (Instr.sliceAt 84 (.pointer (some ⟨g, o, none⟩)) (some (.int .i64 (f : Int))) none none).run Tryd.prog w = .ok (.slice (some ⟨g, o + f, none⟩) (64 - f) (64 - f)) w := by
  rw [run_sliceAt_array_l w _ _ part_und .i64 f (by omega) (by rw [part_len]; omega), part_one]
  simp only [Result.andThen, slicedAt, part_len, Int.toNat_natCast, Nat.mul_one]
  rw [if_neg (by omega)]
  unfold Addr.add
  by_cases h : f = 0 <;> simp [h]
theorem Mid.more' {cs : Array Value} {L p : List Nat} {N : Nat} (h : Mid cs L p N) (u n : Nat) (r : ByteArray) (hu : u = L.length % 64) (hn : n ≤ r.size) (hf : u + n < 64) :
    Mid (spl cs (9 + u) (cellsB ((byt r).take n))) (L ++ (byt r).take n) (over p ((byt r).take n) u) N := by
  subst hu
  exact h.more _ (fun y hy => byt_lt r y (List.mem_of_mem_take hy)) (by rw [List.length_take, byt_len]; omega)
theorem Mid.full' {cs : Array Value} {L p : List Nat} {N : Nat} (h : Mid cs L p N) (u n : Nat) (r : ByteArray) (hu : u = L.length % 64) (hn : n ≤ r.size) (hf : u + n = 64) :
    HC (spl cs (9 + u) (cellsB ((byt r).take n))) (Sh.blocks Sh.s0 (L ++ (byt r).take n) (L.length / 64)) (over p ((byt r).take n) u) N ∧ (over p ((byt r).take n) u).length = 64 ∧ (∀ y ∈ over p ((byt r).take n) u, y < 256) ∧
    ∀ cs', HC cs' (Sh.comp (Sh.blocks Sh.s0 (L ++ (byt r).take n) (L.length / 64)) (over p ((byt r).take n) u)) (over p ((byt r).take n) u) N → Mid cs' (L ++ (byt r).take n) (over p ((byt r).take n) u) N := by
  subst hu
  exact h.full _ (fun y hy => byt_lt r y (List.mem_of_mem_take hy)) (by rw [List.length_take, byt_len]; omega)
/-- At the loop's head: the bytes L are in, r are left. -/
def WRel (w : World) (h : Nat) (l : List Nat) (N : Nat) (s : ByteArray) (s' u : Value) (wr : World) : Prop :=
  ∃ (r : ByteArray) (L : List Nat) (cs : Array Value) (p : List Nat), s' = .string r ∧ u = .int .i64 ((L.length % 64 : Nat) : Int) ∧ L ++ byt r = l ++ byt s ∧ w.grownBy wr (some h) ∧ Bk wr h 86 cs ∧ Mid cs L p N
theorem WRel.next {w : World} {h : Nat} {l L : List Nat} {N n : Nat} {s r : ByteArray} {wr : World} {cs : Array Value} {p : List Nat} {x : Int} (hL : L ++ byt r = l ++ byt s) (hn : n ≤ r.size)
    (hx : x = (((L ++ (byt r).take n).length % 64 : Nat) : Int)) (hG : w.grownBy wr (some h)) (hB : Bk wr h 86 cs) (hM : Mid cs (L ++ (byt r).take n) p N) :
    WRel w h l N s (.string (r.extract n r.size)) (.int .i64 x) wr := by
  refine ⟨_, _, _, _, rfl, by rw [hx], ?_, hG, hB, hM⟩
  rw [byt_extract, List.append_assoc, List.take_append_drop]
  exact hL
def szOf : Value → Nat
  | .string r => r.size
  | _ => 0
set_option maxRecDepth 20000 in
set_option maxHeartbeats 2000000 in
theorem write_any (h : Nat) (l : List Nat) (s : ByteArray) (w : World) (hH : Held w h l) (hT : Tb w) (ho : Ov h) (hl : l.length + s.size ≤ 4611686018427387904) :
    Calls Tryd.prog 54 #[.pointer (some ⟨h, 0, none⟩), .string s] w fun e w' => e = .returned (.int .i64 0) ∧ w.grownBy w' (some h) ∧ Held w' h (l ++ byt s) := by
  obtain ⟨cs, p, hb, hm⟩ := hH
  have cell : ∀ j, w.cell? ⟨h, j, none⟩ = cs[j]? := fun j => hb.cell j
  have c0 : w.cell? ⟨h, 0, none⟩ = some (.bool true) := (cell 0).trans hm.hc.begun
  have c73 : w.cell? ⟨h, 73, none⟩ = some (.int .i64 (l.length : Int)) := (cell 73).trans hm.hc.len
  have f73 : w.frozen? ⟨h, 73, none⟩ = false := hb.frozen 73
  clear cell
  go_enter Tryd.func54, Tryd.ntmps54
  go_wp2_with fail
  go_loopw [1, 5] (fun s' u wr => WRel w h l (l.length + s.size) s s' u wr) (fun s' _ _ => szOf s')
  case atStart => exact ⟨s, l, _, p, rfl, by simp, rfl, one_put (one_refl _ _) _ _, hb.put 73 _, by have := hm.grow (l.length + s.size); simpa using this⟩
  case round =>
    obtain ⟨r, L, cs, p, rfl, rfl, hL, hG, hB, hM⟩ := hrel
    have hlen : L.length + r.size = l.length + s.size := by have := congrArg List.length hL; simpa [byt_len] using this
    have HL := Lib.hid hL
    clear hL
    by_cases h0 : 0 < r.size
    · obtain ⟨u, hu⟩ : ∃ u, u = L.length % 64 := ⟨_, rfl⟩
      have hu64 : u < 64 := by omega
      rw [← hu]
      obtain ⟨n, hn⟩ : ∃ n, n = Nat.min r.size (64 - u) := ⟨_, rfl⟩
      have hn1 : n ≤ r.size := by rw [hn]; exact Nat.min_le_left _ _
      have hn2 : n ≤ 64 - u := by rw [hn]; exact Nat.min_le_right _ _
      have hn0 : 1 ≤ n := by rw [hn]; exact Nat.le_min.2 ⟨by omega, by omega⟩
      have hcp := run_copy_part (P := Tryd.prog) wr 43 9 3 5 h (9 + u) (64 - u) (64 - u) n r cs 86 Tryd.underlying43 (by kernel_rfl) hB hn.symm (by rw [hM.hc.size]; omega)
      have hsl := part_from h 9 u wr hu64
      have HU := Lib.hid (And.intro hu hn)
      clear hu hn
      by_cases hf : u + n = 64
      · obtain ⟨q1, q2, q3, q4⟩ := hM.full' u n r HU.out.1 hn1 hf
        have hB1 := hB.row (spl cs (9 + u) (cellsB ((byt r).take n)))
        have hG1 := one_row hG (spl cs (9 + u) (cellsB ((byt r).take n)))
        have q4 := Lib.hid q4
        go_wp2_with fail
        refine (mix_any h _ _ _ _ _ hB1 q1 (Sh.blocks_ok Sh.s0_ok _ _) q3 q2 (hT.grow hG1 ho)).mono ?_
        rintro e w2 ⟨rfl, hG2, cs', hB2, hC2⟩
        have hQ := Lib.hid (WRel.next (x := 0) HL.out hn1 (by rw [List.length_append, List.length_take, byt_len]; have := HU.out.1; omega) (one_then hG1 hG2 (Or.inl rfl)) hB2 (q4.out _ hC2))
        clear q4 hB1 hG1 hB2 hC2 hG2 q1 q3
        go_wp2_with fail
        go_roundw
        case rel => exact hQ.out
        case measure => simp [szOf]; omega
      · have q1 := hM.more' u n r HU.out.1 hn1 (by omega)
        have hB1 := hB.row (spl cs (9 + u) (cellsB ((byt r).take n)))
        have hG1 := one_row hG (spl cs (9 + u) (cellsB ((byt r).take n)))
        have hQ := Lib.hid (WRel.next (x := (u : Int) + n) HL.out hn1 (by rw [List.length_append, List.length_take, byt_len]; have := HU.out.1; omega) hG1 hB1 q1)
        clear hB1 hG1 q1
        go_wp2_with fail
        go_roundw
        case rel => exact hQ.out
        case measure => simp [szOf]; omega
    · have hr0 : byt r = [] := List.eq_nil_of_length_eq_zero (by rw [byt_len]; omega)
      have hQ := Lib.hid (And.intro HL.out hr0)
      clear hr0
      go_wp2_with fail
      go_ret
      obtain ⟨e1, e2⟩ := hQ.out
      rw [e2, List.append_nil] at e1
      subst e1
      refine ⟨rfl, hG, cs, p, hB, ?_⟩
      rw [show (l ++ byt s).length = l.length + s.size by rw [List.length_append, byt_len]]
      exact hM
end Go.Proofs.YtflfmacfodkedaaDoor
