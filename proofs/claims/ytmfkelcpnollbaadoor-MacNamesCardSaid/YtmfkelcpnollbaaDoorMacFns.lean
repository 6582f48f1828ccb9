/-
  The walks of package mac: block, combine with its two functions, Of, Block, Same.
-/
import Derived.Test.YtmfkelcpnollbaaDoorMac
namespace Go.Proofs.YtmfkelcpnollbaaDoor
set_option linter.unusedSimpArgs false
set_option linter.unusedVariables false
open Go Go.RowKit
attribute [local irreducible] Sh.sha

def zu64 : Array Value := #[.int .u8 0, .int .u8 0, .int .u8 0, .int .u8 0, .int .u8 0, .int .u8 0, .int .u8 0, .int .u8 0, .int .u8 0, .int .u8 0, .int .u8 0, .int .u8 0, .int .u8 0, .int .u8 0, .int .u8 0, .int .u8 0, .int .u8 0, .int .u8 0, .int .u8 0, .int .u8 0, .int .u8 0, .int .u8 0, .int .u8 0, .int .u8 0, .int .u8 0, .int .u8 0, .int .u8 0, .int .u8 0, .int .u8 0, .int .u8 0, .int .u8 0, .int .u8 0, .int .u8 0, .int .u8 0, .int .u8 0, .int .u8 0, .int .u8 0, .int .u8 0, .int .u8 0, .int .u8 0, .int .u8 0, .int .u8 0, .int .u8 0, .int .u8 0, .int .u8 0, .int .u8 0, .int .u8 0, .int .u8 0, .int .u8 0, .int .u8 0, .int .u8 0, .int .u8 0, .int .u8 0, .int .u8 0, .int .u8 0, .int .u8 0, .int .u8 0, .int .u8 0, .int .u8 0, .int .u8 0, .int .u8 0, .int .u8 0, .int .u8 0, .int .u8 0]
theorem zu64_eq : zu64 = Array.mk (cellsB (List.replicate 64 0)) := rfl
def blkV (k : ByteArray) : Array Value := Array.mk (cellsB (Mc.blk (byt k)))
theorem blkV_size (k : ByteArray) : (blkV k).size = 64 := by
  show (cellsB (Mc.blk (byt k))).length = 64
  rw [cellsB_len, Mc.blk_len]
theorem blkV_one (k : ByteArray) : (blkV k).all (·.oneCell') = true := by
  refine all_oneCell_toArray fun v hv => ?_
  obtain ⟨i, _, rfl⟩ := List.mem_map.1 hv
  rfl
theorem Bk.fresh2 (w : World) (o : Obj) (t : TypeId) (cs : Array Value) : Bk ((w.alloc o).alloc (.cells cs t)) (w.heap.size + 1) t cs := by
  have hf := Bk.fresh (w.alloc o) t cs
  rw [show (w.alloc o).heap.size = w.heap.size + 1 by simp] at hf
  exact hf
theorem u64_info : (Tryd.prog.info? 34).map (·.size) = some 64 := by kernel_rfl
/-- The key's bytes laid over 64 zeros. -/
theorem laid_key (k : ByteArray) (h : k.size ≤ 64) : spl zu64 0 (cellsB ((byt k).take k.size)) = Array.mk (cellsB (byt k ++ List.replicate (64 - k.size) 0)) := by
  rw [zu64_eq]
  unfold spl over
  rw [show (byt k).take k.size = byt k from List.take_of_length_le (Nat.le_of_eq (byt_len k)), cellsB_app]
  simp only [List.take_zero, List.nil_append, Nat.zero_add, cellsB_len, byt_len]
  unfold cellsB
  rw [← List.map_drop, List.drop_replicate]
theorem below_row {B g : Nat} {w0 w : World} (hb : Below B w0 w) (hB : B ≤ g) (cs : Array Value) : Below B w0 (w.setRow g cs) :=
  ⟨hb.os, hb.tape, hb.output, by rw [size_setRow]; exact hb.size, fun i hi => (setRow_other w g i cs (by omega)).trans (hb.block i hi)⟩
/-- A world by a letter, with what is known of it. -/
theorem wp_letter {P : Program} {ops : Array Oper} {Q : Exit → Act → World → Prop} {rest : List Oper} {a : Act} {W : World} (F : World → Prop) (hW : F W) (h : ∀ W', F W' → wpList P ops Q rest a W') : wpList P ops Q rest a W := h W hW
/-- The result's block and that of the key, in a world. -/
structure Bb (w : World) (y : Array Value) (wr : World) : Prop where
  bel : Below w.heap.size w wr
  out : Bk wr w.heap.size 34 zu64
  key : Bk wr (w.heap.size + 1) 34 y
theorem Bb.fresh (w : World) : Bb w zu64 ((w.alloc (.cells zu64 34 (0, 0))).alloc (.cells zu64 34 (0, 0))) :=
  ⟨((Below.refl _ _).alloc (Nat.le_refl _) _).alloc (by simp) _, (Bk.fresh w _ zu64).grow (World.grownBy_alloc _ _ none) (by simp), Bk.fresh2 w _ _ _⟩
theorem Bb.row {w wr : World} {y : Array Value} (h : Bb w y wr) (z : Array Value) : Bb w z (wr.setRow (w.heap.size + 1) z) :=
  ⟨below_row h.bel (by omega) z, (setRow_other _ _ _ _ (by omega)).trans h.out, h.key.row z⟩
theorem Bb.to {w wr w' : World} {y : Array Value} (h : Bb w y wr) (hb : Below wr.heap.size wr w') : Bb w y w' :=
  ⟨h.bel.trans (hb.mono h.bel.size), h.out.below hb h.out.lt, h.key.below hb h.key.lt⟩
theorem blkV_laid (k : ByteArray) (h : k.size ≤ 64) : spl zu64 0 (cellsB ((byt k).take k.size)) = blkV k := by
  rw [laid_key k h]
  unfold blkV Mc.blk Mc.short
  rw [if_pos (by rw [byt_len]; omega), byt_len]
theorem blkV_sha (k : ByteArray) (h : 64 < k.size) : blkV (shaS k) = blkV k := by
  have e := Mc.blkS_sha k h
  have e2 := congrArg byt e
  rw [Mc.byt_blk, Mc.byt_blk] at e2
  unfold blkV
  rw [e2]
set_option maxRecDepth 100000 in
set_option maxHeartbeats 1000000 in
theorem mblock_any (k : ByteArray) (w : World) (hT : Tb w) (hk : k.size ≤ 1099511627776) : Calls Tryd.prog 18 #[.string k] w fun e w' => e = .returned (.agg (blkV k)) ∧ Below w.heap.size w w' := by
  by_cases h : 64 < k.size
  · have hgt : decide (64 < (k.size : Int)) = true := by simp; omega
    have hX := Lib.hid (blkV_sha k h)
    have hL := Lib.hid (blkV_laid (shaS k) (by rw [shaS_size]; omega))
    have hS := shaS_size k
    have hF := Lib.hid (Bb.fresh w)
    go_enter Tryd.func18, Tryd.ntmps18
    go_wp2_with fail
    refine (shaSum_any k _ (hT.below hF.out.bel hT.lt) hk).mono ?_
    rintro e w1 ⟨rfl, hb1⟩
    have hB := Lib.hid (hF.out.to hb1)
    clear hb1
    go_wp2_with (first
      | (refine Lib.wpList_copy_run _ rfl _ _ 24 9 rfl _ _ rfl rfl (run_copy_part _ _ _ _ 5 (w.heap.size + 1) 0 64 64 (shaS k).size (shaS k) zu64 34 Tryd.underlying24 (by kernel_rfl) hB.out.key (Nat.min_eq_left (by omega)) (by rw [show zu64.size = 64 from rfl]; omega)) ?_
         refine wp_letter (fun W' => Bb w (blkV k) W') (by rw [hL.out, hX.out]; exact hB.out.row _) ?_
         intro wb hwb0
         have hb1 := hwb0.key
         have hb2 := hwb0.out
         have hwb := Lib.hid hwb0
         clear hwb0)
      | (refine wpList_load_row rfl 34 _ rfl (w.heap.size + 1) rfl 34 (blkV k) (0, 0) _ hb1 Tryd.underlying34 rfl (by rw [blkV_size]; exact u64_info) ?_)
      | (refine wpList_store_row rfl 34 _ _ rfl w.heap.size (blkV k) rfl rfl 34 zu64 hb2 (by rw [blkV_size]; exact u64_info) (by rw [blkV_size]; rfl) (blkV_one _) ?_))
    exact bodyPost_ret (v := .agg (blkV k)) (results_cell_row Tryd.results18 _ _ w.heap.size 34 (blkV k) (0, 0) _ (by simp [Act.put]) (setRow_heap _ _ _ _ _ _ hb2) Tryd.underlying34 rfl (by rw [blkV_size]; exact u64_info)) rfl ⟨rfl, below_row hwb.out.bel (Nat.le_refl _) _⟩
  · have hgt : decide (64 < (k.size : Int)) = false := by simp; omega
    have hX : Hid (blkV k = blkV k) := Lib.hid rfl
    have hL := Lib.hid (blkV_laid k (by omega))
    have hS : k.size ≤ 64 := by omega
    have hB := Lib.hid (Bb.fresh w)
    go_enter Tryd.func18, Tryd.ntmps18
    go_wp2_with (first
      | (refine Lib.wpList_copy_run _ rfl _ _ 24 9 rfl _ _ rfl rfl (run_copy_part _ _ _ _ 5 (w.heap.size + 1) 0 64 64 (k).size (k) zu64 34 Tryd.underlying24 (by kernel_rfl) hB.out.key (Nat.min_eq_left (by omega)) (by rw [show zu64.size = 64 from rfl]; omega)) ?_
         refine wp_letter (fun W' => Bb w (blkV k) W') (by rw [hL.out, hX.out]; exact hB.out.row _) ?_
         intro wb hwb0
         have hb1 := hwb0.key
         have hb2 := hwb0.out
         have hwb := Lib.hid hwb0
         clear hwb0)
      | (refine wpList_load_row rfl 34 _ rfl (w.heap.size + 1) rfl 34 (blkV k) (0, 0) _ hb1 Tryd.underlying34 rfl (by rw [blkV_size]; exact u64_info) ?_)
      | (refine wpList_store_row rfl 34 _ _ rfl w.heap.size (blkV k) rfl rfl 34 zu64 hb2 (by rw [blkV_size]; exact u64_info) (by rw [blkV_size]; rfl) (blkV_one _) ?_))
    exact bodyPost_ret (v := .agg (blkV k)) (results_cell_row Tryd.results18 _ _ w.heap.size 34 (blkV k) (0, 0) _ (by simp [Act.put]) (setRow_heap _ _ _ _ _ _ hb2) Tryd.underlying34 rfl (by rw [blkV_size]; exact u64_info)) rfl ⟨rfl, below_row hwb.out.bel (Nat.le_refl _) _⟩
theorem of1_any (x : Nat) (w : World) (hx : x < 256) : Calls Tryd.prog 20 #[.int .u8 (x : Int)] w fun e w' => e = .returned (.int .u8 ((x ^^^ 54 : Nat) : Int)) ∧ w = w' := by
  have hb := u8_xor_nat x 54 hx (by decide)
  go_enter Tryd.func20, Tryd.ntmps20
  go_wp2_with fail
  go_ret
  exact ⟨ret_i hb, rfl⟩
theorem of2_any (x : Nat) (w : World) (hx : x < 256) : Calls Tryd.prog 21 #[.int .u8 (x : Int)] w fun e w' => e = .returned (.int .u8 ((x ^^^ 92 : Nat) : Int)) ∧ w = w' := by
  have hb := u8_xor_nat x 92 hx (by decide)
  go_enter Tryd.func21, Tryd.ntmps21
  go_wp2_with fail
  go_ret
  exact ⟨ret_i hb, rfl⟩
/-- The first k bytes of a block, each with another one; the others as they were. -/
structure Xr (w : World) (b : List Nat) (c k : Nat) (wr : World) : Prop where
  bel : Below w.heap.size w wr
  blk : ∃ cs, Bk wr w.heap.size 34 cs ∧ cs.size = 64 ∧ (∀ j, j < k → cs[j]? = some (.int .u8 ((b.getD j 0 ^^^ c : Nat) : Int))) ∧ (∀ j, k ≤ j → j < 64 → cs[j]? = some (.int .u8 ((b.getD j 0 : Nat) : Int)))
theorem Xr.put {w wr : World} {b : List Nat} {c k : Nat} (h : Xr w b c k wr) (hk : k < 64) (x : Int) (hx : x = ((b.getD k 0 ^^^ c : Nat) : Int)) : Xr w b c (k + 1) (wr.setCell ⟨w.heap.size, k, none⟩ (.int .u8 x)) := by
  obtain ⟨hB, cs, h1, h2, h3, h4⟩ := h
  refine ⟨hB.setCell (Nat.le_refl _) _, _, h1.put k _, by rw [Array.size_setIfInBounds]; exact h2, fun j hj => ?_, fun j hj hj2 => ?_⟩
  · rw [Array.getElem?_setIfInBounds]
    by_cases e : k = j
    · subst e; rw [if_pos rfl, if_pos (by omega), hx]
    · rw [if_neg e]; exact h3 j (by omega)
  · rw [Array.getElem?_setIfInBounds, if_neg (by omega)]
    exact h4 j (by omega) hj2
theorem Xr.say {w wr : World} {b : List Nat} {c : Nat} (h : Xr w b c 64 wr) (hb : b.length = 64) : (convert 24 9 (.slice (some ⟨w.heap.size, 0, none⟩) 64 64)).run Tryd.prog wr = .ok (.string (strN (Mc.xo c b))) wr := by
  obtain ⟨hB, cs, h1, h2, h3, h4⟩ := h
  have e : strN (Mc.xo c b) = strOfNums ((Mc.xo c b).map fun b : Nat => (b : Int)) := by
    unfold strN strOfNums
    rw [List.map_map]
    rfl
  have hl : (Mc.xo c b).length = 64 := by unfold Mc.xo; rw [List.length_map, hb]
  rw [e]
  refine run_convert_bytes_arg wr _ _ Tryd.underlying24 Tryd.underlying5 _ _ _ _ _ (by rw [List.length_map, hl]) (fun i hi => ?_) _ Tryd.underlying9
  rw [Bk.cell h1, show 0 + i = i by omega, h3 i (by omega)]
  unfold Mc.xo
  simp [List.getD_eq_getElem?_getD, show i < b.length by omega]
set_option maxRecDepth 100000 in
set_option maxHeartbeats 1000000 in
theorem comb1_any (b : List Nat) (w : World) (hb : b.length = 64) (hl : ∀ x ∈ b, x < 256) : Calls Tryd.prog 19 #[.agg (Array.mk (cellsB b)), .func (.func 20) #[] #[]] w fun e w' => e = .returned (.string (strN (Mc.xo 54 b))) ∧ Below w.heap.size w w' := by
  have HB := Lib.hid hb
  clear hb
  obtain ⟨V, hV⟩ : ∃ V, V = Array.mk (cellsB b) := ⟨_, rfl⟩
  rw [← hV]
  have HV := Lib.hid hV
  clear hV
  go_enter Tryd.func19, Tryd.ntmps19
  go_wp2_with fail
  go_loopw [6] (fun i wr => ∃ k : Nat, k ≤ 64 ∧ i = .int .i64 k ∧ Hid (Xr w b 54 k wr)) (fun i _ => 64 - (intOf i).toNat)
  case atStart =>
    refine ⟨0, by omega, rfl, Lib.hid ⟨(Below.refl _ _).alloc (Nat.le_refl _) _, V, Bk.fresh w _ _, ?_, fun j hj => absurd hj (by omega), fun j hj hj2 => ?_⟩⟩
    · rw [HV.out]; show (cellsB b).length = 64; rw [cellsB_len, HB.out]
    · rw [HV.out, List.getElem?_toArray]
      unfold cellsB
      rw [List.getElem?_map, List.getD_eq_getElem?_getD, List.getElem?_eq_getElem (by rw [HB.out]; exact hj2)]
      rfl
  case round =>
    obtain ⟨k, hk, rfl, hR⟩ := hrel
    by_cases hk64 : k < 64
    · have cK : wr.cell? ⟨w.heap.size, k, none⟩ = some (.int .u8 ((b.getD k 0 : Nat) : Int)) := hR.out.blk.elim fun cs h => (h.1.cell k).trans (h.2.2.2 k (Nat.le_refl _) hk64)
      have fK : wr.frozen? ⟨w.heap.size, k, none⟩ = false := hR.out.blk.elim fun cs h => h.1.frozen k
      have hx := getD_lt256 hl k
      have hput := Lib.hid (fun x => hR.out.put hk64 x)
      generalize b.getD k 0 = x at *
      go_wp2_with fail
      refine (of1_any x _ hx).mono ?_
      rintro e _ ⟨rfl, rfl⟩
      go_wp2_with fail
      go_roundw
      case rel => exact ⟨k + 1, by omega, by go_num, hput.out _ rfl⟩
      case measure => simp [intOf]; omega
    · obtain rfl : k = 64 := by omega
      have hcv := hR.out.say HB.out
      have hBf := Lib.hid hR.out.bel
      go_wp2_with fail
      go_ret
      exact ⟨rfl, hBf.out⟩
set_option maxRecDepth 100000 in
set_option maxHeartbeats 1000000 in
theorem comb2_any (b : List Nat) (w : World) (hb : b.length = 64) (hl : ∀ x ∈ b, x < 256) : Calls Tryd.prog 19 #[.agg (Array.mk (cellsB b)), .func (.func 21) #[] #[]] w fun e w' => e = .returned (.string (strN (Mc.xo 92 b))) ∧ Below w.heap.size w w' := by
  have HB := Lib.hid hb
  clear hb
  obtain ⟨V, hV⟩ : ∃ V, V = Array.mk (cellsB b) := ⟨_, rfl⟩
  rw [← hV]
  have HV := Lib.hid hV
  clear hV
  go_enter Tryd.func19, Tryd.ntmps19
  go_wp2_with fail
  go_loopw [6] (fun i wr => ∃ k : Nat, k ≤ 64 ∧ i = .int .i64 k ∧ Hid (Xr w b 92 k wr)) (fun i _ => 64 - (intOf i).toNat)
  case atStart =>
    refine ⟨0, by omega, rfl, Lib.hid ⟨(Below.refl _ _).alloc (Nat.le_refl _) _, V, Bk.fresh w _ _, ?_, fun j hj => absurd hj (by omega), fun j hj hj2 => ?_⟩⟩
    · rw [HV.out]; show (cellsB b).length = 64; rw [cellsB_len, HB.out]
    · rw [HV.out, List.getElem?_toArray]
      unfold cellsB
      rw [List.getElem?_map, List.getD_eq_getElem?_getD, List.getElem?_eq_getElem (by rw [HB.out]; exact hj2)]
      rfl
  case round =>
    obtain ⟨k, hk, rfl, hR⟩ := hrel
    by_cases hk64 : k < 64
    · have cK : wr.cell? ⟨w.heap.size, k, none⟩ = some (.int .u8 ((b.getD k 0 : Nat) : Int)) := hR.out.blk.elim fun cs h => (h.1.cell k).trans (h.2.2.2 k (Nat.le_refl _) hk64)
      have fK : wr.frozen? ⟨w.heap.size, k, none⟩ = false := hR.out.blk.elim fun cs h => h.1.frozen k
      have hx := getD_lt256 hl k
      have hput := Lib.hid (fun x => hR.out.put hk64 x)
      generalize b.getD k 0 = x at *
      go_wp2_with fail
      refine (of2_any x _ hx).mono ?_
      rintro e _ ⟨rfl, rfl⟩
      go_wp2_with fail
      go_roundw
      case rel => exact ⟨k + 1, by omega, by go_num, hput.out _ rfl⟩
      case measure => simp [intOf]; omega
    · obtain rfl : k = 64 := by omega
      have hcv := hR.out.say HB.out
      have hBf := Lib.hid hR.out.bel
      go_wp2_with fail
      go_ret
      exact ⟨rfl, hBf.out⟩
end Go.Proofs.YtmfkelcpnollbaaDoor
