/-
  The walks of the document's SHA-256: keys, words, step.
-/
import Derived.Test.YtflfmacfodkedaaDoorShaHold
import Derived.Deep.WholeRow
namespace Go.Proofs.YtflfmacfodkedaaDoor
set_option linter.unusedSimpArgs false
set_option linter.unusedVariables false
open Go Go.RowKit

attribute [local irreducible] Sh.ws

/-- The 64 constants, as an array. -/
def keysV : Array Value := Array.mk (Sh.ks.map vU)
def zero64 : Array Value := Array.mk (List.replicate 64 (.int .u32 0))
theorem w64_info : (Tryd.prog.info? 88).map (fun i => (i.zero, i.size)) = some (some (.agg zero64), 64) := by kernel_rfl
theorem wpList_build_is {P : Program} {ops : Array Oper} {rest : List Oper} {o : Oper} {a : Act} {w : World} {Q : Exit → Act → World → Prop} (hg : o.guard = none) (t : TypeId) (parts : Array (Nat × Operand)) (ho : o.op = .build t parts)
    (cells : Array Value) (hf : P.built t (parts.map fun (i, x) => (i, a.eval x)).toList = some cells)
    (h : wpList P ops Q rest (a.put o.dst (.agg cells)) w) : wpList P ops Q (o :: rest) a w := by
  refine wpList_build hg t parts ho (by rw [hf]; rfl) ?_
  rw [hf]
  exact h
theorem keysV_size : keysV.size = 64 := rfl
theorem keysV_one : keysV.all (·.oneCell') = true := by decide +kernel
theorem keysV_at (i : Nat) (h : i < 64) : keysV[i]? = some (vU (Sh.kk i)) := by
  unfold keysV Sh.kk
  rw [List.getElem?_toArray, List.getElem?_map, List.getD_eq_getElem?_getD]
  rw [List.getElem?_eq_getElem (show i < Sh.ks.length from h)]
  rfl
theorem w64_size : (Tryd.prog.info? 88).map (·.size) = some 64 := (zero_of_info w64_info).2
set_option maxRecDepth 20000 in
set_option maxHeartbeats 1000000 in
theorem rkeys_any (w : World) : Calls Tryd.prog 62 #[] w fun e w' => e = .returned (.agg keysV) ∧ Below w.heap.size w w' := by
  go_enter Tryd.func62, Tryd.ntmps62
  go_wp2_with (first | (refine wpList_build_is rfl 88 _ rfl keysV (by kernel_rfl) ?_) | (refine wpList_store_row rfl 88 _ _ rfl w.heap.size keysV rfl rfl 88 _ (heap_alloc_new _ _) w64_size rfl keysV_one ?_; rw [World.setRow_alloc_new]))
  exact bodyPost_ret (v := .agg keysV) (results_cell_row Tryd.results62 _ _ w.heap.size 88 keysV (0, 0) _ (by simp [Act.put]) (heap_alloc_new _ _) Tryd.underlying88 rfl w64_size) rfl ⟨rfl, (Below.refl _ _).alloc (Nat.le_refl _) _⟩
/-- A word of a block, byte by byte. -/
def wpart (b : List Nat) (i : Nat) : Nat → Nat
  | 0 => 0
  | k + 1 => wpart b i k * 256 + b.getD (4 * i + k) 0
theorem wpart_four (b : List Nat) (i : Nat) : wpart b i 4 = Sh.word b i := by
  unfold Sh.word
  simp only [wpart, Nat.add_zero]
  omega
theorem wpart_lt {b : List Nat} (hb : ∀ x ∈ b, x < 256) (i : Nat) : ∀ k, wpart b i k < 256 ^ k
  | 0 => by simp [wpart]
  | k + 1 => by
    have := wpart_lt hb i k
    have := getD_lt256 hb (4 * i + k)
    rw [wpart, Nat.pow_succ]
    omega
def wsV (b : List Nat) : Array Value := Array.mk ((List.range 64).map fun i => vU (Sh.ws b i))
theorem wsV_at (b : List Nat) (i : Nat) (h : i < 64) : (wsV b)[i]? = some (vU (Sh.ws b i)) := by
  unfold wsV
  rw [List.getElem?_toArray, List.getElem?_map, List.getElem?_range h]
  rfl
theorem wsV_of (b : List Nat) (ds : Array Value) (hs : ds.size = 64) (h : ∀ j, j < 64 → ds[j]? = some (vU (Sh.ws b j))) : ds = wsV b := by
  apply Array.ext_getElem?
  intro j
  by_cases hj : j < 64
  · rw [h j hj, wsV_at b j hj]
  · rw [Array.getElem?_eq_none (by omega), Array.getElem?_eq_none (by simp [wsV]; omega)]
theorem wsV_size (b : List Nat) : (wsV b).size = 64 := by simp [wsV]
theorem wsV_one (b : List Nat) : (wsV b).all (·.oneCell') = true := by
  refine all_oneCell_toArray fun v hv => ?_
  obtain ⟨i, _, rfl⟩ := List.mem_map.1 hv
  rfl
theorem byt_at (s : ByteArray) (i : Nat) (h : i < s.size) : (byt s).getD i 0 = s[i].toNat := by
  unfold byt
  rw [List.getD_eq_getElem?_getD, List.getElem?_map, List.getElem?_eq_getElem (by simpa [← Lib.size_eq] using h)]
  rfl
theorem turned_q (n x : Nat) (w : World) (hx : x < 4294967296) (hn : n ≤ 31) : Calls Tryd.prog 63 #[.int .u32 (x : Int), .int .i64 (n : Int)] w fun e w' => e = .returned (.int .u32 (Sh.rotr x n : Nat)) ∧ w' = w :=
  (turned_any x n w hx hn).mono fun _ _ h => ⟨h.1, h.2.symm⟩
theorem low_q (n x : Nat) (w : World) (hx : x < 4294967296) (hn : n ≤ 31) : Calls Tryd.prog 70 #[.int .u32 (x : Int), .int .i64 (n : Int)] w fun e w' => e = .returned (.int .u32 (x / 2 ^ n : Nat)) ∧ w' = w :=
  (low_any x n w hx hn).mono fun _ _ h => ⟨h.1, h.2.symm⟩
/-- The words made so far. -/
structure WdR (w : World) (b : List Nat) (k m : Nat) (ds : Array Value) (wr : World) : Prop where
  bel : Below w.heap.size w wr
  res : ∃ z, Bk wr w.heap.size 88 z ∧ z.size = 64
  blk : Bk wr (w.heap.size + 1) 88 ds
  size : ds.size = 64
  done : ∀ j, j < k → ds[j]? = some (vU (Sh.ws b j))
  mid : k < 64 → ds[k]? = some (vU m)
  rest : ∀ j, k < j → j < 64 → ds[j]? = some (vU 0)
theorem WdR.drawn {w wr : World} {b : List Nat} {k m : Nat} {ds : Array Value} (h : WdR w b k m ds wr) (n : Nat) : WdR w b k m ds (wr.drewN n) :=
  ⟨below_drawn h.bel n, h.res, h.blk, h.size, h.done, h.mid, h.rest⟩
theorem WdR.put {w wr : World} {b : List Nat} {k m : Nat} {ds : Array Value} (h : WdR w b k m ds wr) (hk : k < 64) (x : Int) (m' : Nat) (hx : x = (m' : Int)) : WdR w b k m' (ds.setIfInBounds k (.int .u32 x)) (wr.setCell ⟨w.heap.size + 1, k, none⟩ (.int .u32 x)) := by
  have other : ∀ j, k ≠ j → (ds.setIfInBounds k (.int .u32 x))[j]? = ds[j]? := fun j hj => by rw [Array.getElem?_setIfInBounds, if_neg hj]
  refine ⟨h.bel.setCell (by simp) _, ?_, h.blk.put k _, by rw [Array.size_setIfInBounds]; exact h.size, fun j hj => (other j (by omega)).trans (h.done j hj), fun _ => ?_, fun j h1 h2 => (other j (by omega)).trans (h.rest j h1 h2)⟩
  · obtain ⟨z, hz, hz2⟩ := h.res
    refine ⟨z, ?_, hz2⟩
    unfold Bk at hz ⊢
    rw [heap_setCell_other _ _ _ _ (by simp)]
    exact hz
  · rw [Array.getElem?_setIfInBounds, if_pos rfl, if_pos (by rw [h.size]; exact hk), hx]
theorem WdR.next {w wr : World} {b : List Nat} {k m : Nat} {ds : Array Value} (h : WdR w b k m ds wr) (hk : k < 64) (hm : m = Sh.ws b k) : WdR w b (k + 1) 0 ds wr :=
  ⟨h.bel, h.res, h.blk, h.size, fun j hj => by
    by_cases e : j = k
    · subst e; rw [h.mid hk, hm]
    · exact h.done j (by omega), fun h1 => h.rest (k + 1) (by omega) h1, fun j h1 h2 => h.rest j (by omega) h2⟩
set_option maxRecDepth 20000 in
set_option maxHeartbeats 1000000 in
theorem rwords_any (s : ByteArray) (w : World) (hs : s.size = 64) : Calls Tryd.prog 61 #[.string s] w fun e w' => e = .returned (.agg (wsV (byt s))) ∧ Below w.heap.size w w' := by
  have hs1 : s.size ≤ 64 := by omega
  have hs2 : 64 ≤ s.size := by omega
  have hp := byt_lt s
  have HS := Lib.hid hs
  clear hs
  go_enter Tryd.func61, Tryd.ntmps61
  go_wp2_with fail
  go_loopw [4] (fun i wr => ∃ k : Nat, k ≤ 64 ∧ i = .int .i64 k ∧ ∃ ds, WdR w (byt s) k 0 ds wr) (fun i _ => 64 - (intOf i).toNat)
  case atStart =>
    refine ⟨0, by omega, rfl, zero64, (((Below.refl _ _).alloc (Nat.le_refl _) _).alloc (by simp) _), ⟨zero64, (Bk.fresh w 88 zero64).grow (World.grownBy_alloc _ _ none) (by simp), rfl⟩, ?_, rfl, fun j hj => absurd hj (by omega), fun _ => rfl, fun j h1 h2 => ?_⟩
    · have hf := Bk.fresh (w.alloc (.cells zero64 88 (0, 0))) 88 zero64
      rw [show (w.alloc (.cells zero64 88 (0, 0))).heap.size = w.heap.size + 1 by simp] at hf
      exact hf
    · unfold zero64
      rw [List.getElem?_toArray, List.getElem?_replicate, if_pos h2]
      rfl
  case round =>
    obtain ⟨k, hk, rfl, ds, hR⟩ := hrel
    have hcell : ∀ j, wr.cell? ⟨w.heap.size + 1, j, none⟩ = ds[j]? := fun j => hR.blk.cell j
    have hfz : wr.frozen? ⟨w.heap.size + 1, k, none⟩ = false := hR.blk.frozen k
    by_cases hk16 : k < 16
    · have hR := Lib.hid hR
      clear hcell hfz
      have hk64 : k < 64 := by omega
      go_wp2_with fail
      obtain ⟨wy, rfl⟩ : ∃ wy : World, wy = wr := ⟨_, rfl⟩
      go_loopw [5] (fun i wr => ∃ q : Nat, q ≤ 4 ∧ i = .int .i64 q ∧ ∃ ds, WdR w (byt s) k (wpart (byt s) k q) ds wr) (fun i _ => 4 - (intOf i).toNat)
      case atStart => exact ⟨0, by omega, rfl, ds, hR.out⟩
      case round =>
        clear hR
        obtain ⟨q, hq, rfl, ds, hR⟩ := hrel
        by_cases hq4 : q < 4
        · have cK : wr.cell? ⟨w.heap.size + 1, k, none⟩ = some (vU (wpart (byt s) k q)) := (hR.blk.cell k).trans (hR.mid hk64)
          have fK : wr.frozen? ⟨w.heap.size + 1, k, none⟩ = false := hR.blk.frozen k
          have ly : wpart (byt s) k q < 16777216 := Nat.lt_of_lt_of_le (wpart_lt hp k q) (show 256 ^ q ≤ 256 ^ 3 from Nat.pow_le_pow_right (by omega) (by omega))
          have hlt : 4 * k + q < s.size := by omega
          have lb := s[4 * k + q].toNat_lt
          have hnx : Hid (wpart (byt s) k (q + 1) = wpart (byt s) k q * 256 + s[4 * k + q].toNat) := by
            show _ = _
            rw [wpart, byt_at s _ hlt]
          have hix := fun W => index_at (P := Tryd.prog) 9 Tryd.underlying9 s (4 * (k : Int) + q) (4 * k + q) (by omega) hlt W
          generalize s[4 * k + q].toNat = y at *
          generalize wpart (byt s) k q = x at *
          have hR := Lib.hid hR
          have q1 : IntKind.i64.wrap (4 * (k : Int)) = 4 * (k : Int) := IntWalk.i64_in _ (by omega)
          have q2 : IntKind.i64.wrap (4 * (k : Int) + q) = 4 * (k : Int) + q := IntWalk.i64_in _ (by omega)
          go_wp2_with fail
          refine Lex.wp_region_drawn 0 14 (by kernel_rfl) (by kernel_rfl) ?_
          simp only [List.take_succ_cons, List.take_zero, List.drop_succ_cons, List.drop_zero, Lex.moved, Lex.movOf, Act.put, Act.eval, List.setIfInBounds_toArray, List.set_cons_zero, List.set_cons_succ, Lex.getD_zero, Lex.getD_succ]
          repeat (go_big_quiet_step (fail))
          refine wpQuiet_nil ?_
          intro _ hw'
          obtain ⟨nq, hw''⟩ := hw'
          subst hw''
          clear q1 q2
          go_wp2_with fail
          refine NoPanic.normal ?_
          go_wp2_with fail
          go_roundw
          case rel => exact ⟨q + 1, by omega, by go_num, _, (hR.out.drawn nq).put hk64 _ _ (by rw [hnx.out]; omega)⟩
          case measure => simp [intOf]; omega
        · obtain rfl : q = 4 := by omega
          have hR := Lib.hid (hR.next hk64 (by rw [wpart_four, Sh.ws_low _ _ hk16]))
          go_wp2_with fail
          go_roundw
          case rel => exact ⟨k + 1, by omega, by go_num, _, hR.out⟩
          case measure => simp [intOf]; omega
    · by_cases hk64 : k < 64
      · have hws : Hid (Sh.ws (byt s) k = (Sh.ws (byt s) (k - 16) + Sh.sg0 (Sh.ws (byt s) (k - 15)) + Sh.ws (byt s) (k - 7) + Sh.sg1 (Sh.ws (byt s) (k - 2))) % Sh.M) := by
          show _ = _
          rw [← Sh.ws_high (byt s) k (by omega) hk64]
        have c1 : wr.cell? ⟨w.heap.size + 1, k - 15, none⟩ = some (vU (Sh.ws (byt s) (k - 15))) := (hcell _).trans (hR.done _ (by omega))
        have c2 : wr.cell? ⟨w.heap.size + 1, k - 2, none⟩ = some (vU (Sh.ws (byt s) (k - 2))) := (hcell _).trans (hR.done _ (by omega))
        have c3 : wr.cell? ⟨w.heap.size + 1, k - 16, none⟩ = some (vU (Sh.ws (byt s) (k - 16))) := (hcell _).trans (hR.done _ (by omega))
        have c4 : wr.cell? ⟨w.heap.size + 1, k - 7, none⟩ = some (vU (Sh.ws (byt s) (k - 7))) := (hcell _).trans (hR.done _ (by omega))
        have cK : wr.cell? ⟨w.heap.size + 1, k, none⟩ = some (vU 0) := (hcell _).trans (hR.mid hk64)
        have l1 := Sh.ws_lt hp (k - 15) (by omega)
        have l2 := Sh.ws_lt hp (k - 2) (by omega)
        have l3 := Sh.ws_lt hp (k - 16) (by omega)
        have l4 := Sh.ws_lt hp (k - 7) (by omega)
        clear hcell
        unfold Sh.M at l1 l2 l3 l4
        generalize Sh.ws (byt s) (k - 15) = x at *
        generalize Sh.ws (byt s) (k - 2) = y at *
        generalize Sh.ws (byt s) (k - 16) = z at *
        generalize Sh.ws (byt s) (k - 7) = v at *
        have hR := Lib.hid hR
        have t1 : ((k : Int) - 15).toNat = k - 15 := by omega
        have t2 : ((k : Int) - 2).toNat = k - 2 := by omega
        have t3 : ((k : Int) - 16).toNat = k - 16 := by omega
        have t4 : ((k : Int) - 7).toNat = k - 7 := by omega
        have q1 : IntKind.i64.wrap ((k : Int) - 15) = (k : Int) - 15 := IntWalk.i64_in _ (by omega)
        have q2 : IntKind.i64.wrap ((k : Int) - 2) = (k : Int) - 2 := IntWalk.i64_in _ (by omega)
        have q3 : IntKind.i64.wrap ((k : Int) - 16) = (k : Int) - 16 := IntWalk.i64_in _ (by omega)
        have q4 : IntKind.i64.wrap ((k : Int) - 7) = (k : Int) - 7 := IntWalk.i64_in _ (by omega)
        have W34 := Lib.hid (And.intro q3 q4)
        clear q3 q4
        have T7 : Hid (∀ W, Calls Tryd.prog 63 #[.int .u32 (x : Int), .int .i64 7] W fun e w' => e = .returned (.int .u32 (Sh.rotr x 7 : Nat)) ∧ w' = W) := fun W => turned_q 7 x W l1 (by omega)
        have T18 : Hid (∀ W, Calls Tryd.prog 63 #[.int .u32 (x : Int), .int .i64 18] W fun e w' => e = .returned (.int .u32 (Sh.rotr x 18 : Nat)) ∧ w' = W) := fun W => turned_q 18 x W l1 (by omega)
        have T3 : Hid (∀ W, Calls Tryd.prog 70 #[.int .u32 (x : Int), .int .i64 3] W fun e w' => e = .returned (.int .u32 (x / 8 : Nat)) ∧ w' = W) := fun W => low_q 3 x W l1 (by omega)
        have T17 : Hid (∀ W, Calls Tryd.prog 63 #[.int .u32 (y : Int), .int .i64 17] W fun e w' => e = .returned (.int .u32 (Sh.rotr y 17 : Nat)) ∧ w' = W) := fun W => turned_q 17 y W l2 (by omega)
        have T19 : Hid (∀ W, Calls Tryd.prog 63 #[.int .u32 (y : Int), .int .i64 19] W fun e w' => e = .returned (.int .u32 (Sh.rotr y 19 : Nat)) ∧ w' = W) := fun W => turned_q 19 y W l2 (by omega)
        have T10 : Hid (∀ W, Calls Tryd.prog 70 #[.int .u32 (y : Int), .int .i64 10] W fun e w' => e = .returned (.int .u32 (y / 1024 : Nat)) ∧ w' = W) := fun W => low_q 10 y W l2 (by omega)
        go_wp2_with fail
        go_quiet (fail)
        obtain ⟨wq, hwq⟩ : ∃ wq : World, wq = wr.drewN nq := ⟨_, rfl⟩
        rw [← hwq]
        have hR := Lib.hid (hwq ▸ hR.out.drawn nq)
        have c3 : wq.cell? ⟨w.heap.size + 1, k - 16, none⟩ = some (vU z) := by rw [hwq]; exact c3
        have c4 : wq.cell? ⟨w.heap.size + 1, k - 7, none⟩ = some (vU v) := by rw [hwq]; exact c4
        have cK : wq.cell? ⟨w.heap.size + 1, k, none⟩ = some (vU 0) := by rw [hwq]; exact cK
        have fK : wq.frozen? ⟨w.heap.size + 1, k, none⟩ = false := by rw [hwq]; exact hfz
        clear hwq c1 c2 hfz q1 q2
        go_wp2_with fail
        obtain ⟨q3, q4⟩ := W34.out
        refine Lex.wp_region_drawn 0 29 (by kernel_rfl) (by kernel_rfl) ?_
        simp only [List.take_succ_cons, List.take_zero, List.drop_succ_cons, List.drop_zero, Lex.moved, Lex.movOf, Act.put, Act.eval, List.setIfInBounds_toArray, List.set_cons_zero, List.set_cons_succ, Lex.getD_zero, Lex.getD_succ]
        repeat (go_big_quiet_step ((first | (go_at_call 63; first | with_reducible exact Calls.quiet_of_same (T7.out _) | with_reducible exact Calls.quiet_of_same (T18.out _) | with_reducible exact Calls.quiet_of_same (T17.out _) | with_reducible exact Calls.quiet_of_same (T19.out _)) | (go_at_call 70; first | with_reducible exact Calls.quiet_of_same (T3.out _) | with_reducible exact Calls.quiet_of_same (T10.out _)))))
        refine wpQuiet_nil ?_
        intro _ hw'
        obtain ⟨nq2, hw''⟩ := hw'
        subst hw''
        clear q3 q4
        go_wp2_with fail
        refine NoPanic.normal ?_
        go_wp2_with fail
        go_roundw
        case rel => exact ⟨k + 1, by omega, by go_num, _, ((hR.out.drawn nq2).put hk64 _ (Sh.ws (byt s) k) (by rw [sg0_int x l1, sg1_int y l2, hws.out]; unfold Sh.M; omega)).next hk64 rfl⟩
        case measure => simp [intOf]; omega
      · obtain rfl : k = 64 := by omega
        obtain rfl : ds = wsV (byt s) := wsV_of _ _ hR.size hR.done
        obtain ⟨z, hz, hzs⟩ := hR.res
        have hblk := hR.blk
        have hbel := Lib.hid hR.bel
        have hsz := hR.size
        clear hcell hfz hR
        have hsz := Lib.hid hsz
        have hzs := Lib.hid hzs
        go_wp2_with (first | (refine wpList_load_row rfl 88 _ rfl (w.heap.size + 1) rfl 88 (wsV (byt s)) (0, 0) _ hblk Tryd.underlying88 rfl (by rw [wsV_size]; exact w64_size) ?_) | (refine wpList_store_row rfl 88 _ _ rfl w.heap.size (wsV (byt s)) rfl rfl 88 z hz (by rw [wsV_size]; exact w64_size) (hzs.out.trans (wsV_size _).symm) (wsV_one _) ?_))
        exact bodyPost_ret (v := .agg (wsV (byt s))) (results_cell_row Tryd.results61 _ _ w.heap.size 88 (wsV (byt s)) (0, 0) _ (by simp [Act.put]) (setRow_heap _ _ _ _ _ _ hz) Tryd.underlying88 rfl (by rw [wsV_size]; exact w64_size)) rfl ⟨rfl, below_one hbel.out (one_row (one_refl _ _) _) (Nat.le_of_lt (Bk.lt hz)) (fun g hg => by cases hg; exact Nat.le_refl _)⟩
end Go.Proofs.YtflfmacfodkedaaDoor
