/-
  The walk of the document's step: the eight numbers behind a block.
-/
import Derived.Test.YtflfmacfodkedaaDoorShaStep
import Derived.Test.YtflfmacfodkedaaDoorLex
namespace Go.Proofs.YtflfmacfodkedaaDoor
set_option linter.unusedSimpArgs false
set_option linter.unusedVariables false
open Go Go.RowKit
attribute [local irreducible] Sh.ws

theorem round_stV (a b c d e f g h vk vw y1 : Nat) (h1 : y1 = Sh.first ⟨a, b, c, d, e, f, g, h⟩ vk vw) :
    (((((((((stV ⟨a, b, c, d, e, f, g, h⟩).setIfInBounds 0 (.int .u32 (((y1 : Int) + ((Sh.bg0 a : Nat) + (Sh.maj a b c : Nat))) % 4294967296))).setIfInBounds 1 (vU a)).setIfInBounds 2 (vU b)).setIfInBounds 3 (vU c)).setIfInBounds 4 (.int .u32 (((d : Int) + y1) % 4294967296))).setIfInBounds 5 (vU e)).setIfInBounds 6 (vU f)).setIfInBounds 7 (vU g)) = stV (Sh.rnd ⟨a, b, c, d, e, f, g, h⟩ vk vw) := by
  have e1 : ((y1 : Int) + ((Sh.bg0 a : Nat) + (Sh.maj a b c : Nat))) % 4294967296 = (((Sh.first ⟨a, b, c, d, e, f, g, h⟩ vk vw + Sh.second ⟨a, b, c, d, e, f, g, h⟩) % Sh.M : Nat) : Int) := by
    rw [← h1]
    unfold Sh.second Sh.M
    simp only
    generalize Sh.bg0 a = y1
    generalize Sh.maj a b c = y2
    omega
  have e2 : ((d : Int) + y1) % 4294967296 = (((d + Sh.first ⟨a, b, c, d, e, f, g, h⟩ vk vw) % Sh.M : Nat) : Int) := by
    rw [← h1]
    unfold Sh.M
    omega
  rw [e1, e2]
  simp only [stV, Sh.rnd, List.setIfInBounds_toArray, List.set_cons_zero, List.set_cons_succ]
/-- The eight sums, one by one. -/
def upd8 (S R : Sh.St) : Nat → Array Value
  | 0 => stV S
  | k + 1 => (upd8 S R k).setIfInBounds k (plusV S R k)
theorem stV_at (S : Sh.St) (j : Nat) (hj : j < 8) : (stV S)[j]? = some (vU (S.l.getD j 0)) := row_at S j hj
theorem upd8_out (S R : Sh.St) (k : Nat) (hk : k < 8) : (upd8 S R k)[k]? = some (vU (S.l.getD k 0)) := by
  have h : ∀ q j, q ≤ j → (upd8 S R q)[j]? = (stV S)[j]? := by
    intro q
    induction q with
    | zero => intro j _; rfl
    | succ q ih =>
      intro j hj
      rw [upd8, Array.getElem?_setIfInBounds, if_neg (by omega)]
      exact ih j (by omega)
  rw [h k k (Nat.le_refl _)]
  exact stV_at S k hk
theorem upd8_all (S R : Sh.St) : upd8 S R 8 = stV (Sh.plus S R) := by
  simp only [upd8, stV, plusV, List.setIfInBounds_toArray, List.set_cons_zero, List.set_cons_succ]
  rfl
theorem ready_none {md : Region.Mode} {ops : Array Oper} {L : Array Bool} (h : Region.ready md ops L = []) {i : Nat} {o : Oper} (hi : i < L.size) (ho : ops[i]? = some o)
    (hd : ∀ e ∈ o.after, Region.binds md e = true → L.getD e.on false = true) : L.getD i false = true := by
  cases hv : L.getD i true with
  | false =>
    have := mem_ready.2 ⟨hv, o, ho, hd⟩
    rw [h] at this
    cases this
  | true =>
    rw [Array.getD_eq_getD_getElem?] at hv ⊢
    rw [Array.getElem?_eq_getElem hi] at hv ⊢
    exact hv
set_option maxRecDepth 100000 in
set_option maxHeartbeats 4000000 in
theorem rstep_any (S : Sh.St) (s : ByteArray) (w : World) (hS : S.ok) (hs : s.size = 64) : Calls Tryd.prog 56 #[.agg (stV S), .string s] w fun e w' => e = .returned (.agg (stV (Sh.comp S (byt s)))) ∧ Below w.heap.size w w' := by
  have hp := byt_lt s
  have HS := Lib.hid hs
  clear hs
  go_enter Tryd.func56, Tryd.ntmps56
  go_wp2_with fail
  obtain ⟨w1, hw1⟩ : ∃ w1 : World, w1 = ({ (w.alloc (.cells (stV S) 80)).alloc (.cells zero8 80) with drawn := ((w.alloc (.cells (stV S) 80)).alloc (.cells zero8 80)).drawn + 1 }) := ⟨_, rfl⟩
  have b0 : Bk w1 w.heap.size 80 (stV S) := by rw [hw1]; exact Bk.grow (row := none) (Bk.fresh w 80 (stV S)) (one_draw (World.grownBy_alloc _ _ none) 1) (by simp)
  have b1 : Bk w1 (w.heap.size + 1) 80 zero8 := by
    have hf := Bk.fresh (w.alloc (.cells (stV S) 80)) 80 zero8
    rw [show (w.alloc (.cells (stV S) 80 (0, 0))).heap.size = w.heap.size + 1 by simp] at hf
    rw [hw1]
    exact hf
  have hB : Below w.heap.size w w1 := by
    rw [hw1]
    exact below_drawn (((Below.refl _ _).alloc (Nat.le_refl _) _).alloc (by simp) _) 1
  have hB := Lib.hid hB
  have b0 := Lib.hid b0
  have b1 := Lib.hid b1
  have hg1 : w.heap.size + 1 < w1.heap.size := b1.out.lt
  refine Lex.wp_region_inv (StJ S s w1 w.heap.size) (by kernel_rfl) ?h0 ?hend ?hstep
  case h0 =>
    refine ⟨undef, undef, undef, undef, undef, undef, undef, by unfold stF; rfl, rfl, ?_⟩
    have e : ∀ i, (Array.replicate 10 false).getD i false = false := fun i => by
      rw [Array.getD_eq_getD_getElem?, Array.getElem?_replicate]; split <;> rfl
    simp only [List.length_cons, List.length_nil, Nat.zero_add, Nat.reduceAdd, e]
    refine ⟨?_, by simp, by simp, by simp, by simp, by simp, by simp, by simp, by simp, by simp, by simp, by simp, by simp, by simp⟩
    rw [hw1]
    exact Below.refl _ _
  case hend =>
    intro L a wx hJ hready
    obtain ⟨v5, v6, v7, v14, v15, v16, v17, rfl, hLs, hI⟩ := hJ
    have l0 := ready_none hready (i := 0) (by omega) rfl (by simp [Region.binds])
    have m0 : L[0]?.getD false = true := by simpa using l0
    have l1 := ready_none hready (i := 1) (by omega) rfl (by simp [Region.binds, m0])
    have m1 : L[1]?.getD false = true := by simpa using l1
    have l2 := ready_none hready (i := 2) (by omega) rfl (by simp [Region.binds, m0, m1])
    have m2 : L[2]?.getD false = true := by simpa using l2
    have l3 := ready_none hready (i := 3) (by omega) rfl (by simp [Region.binds, m0, m1, m2])
    have m3 : L[3]?.getD false = true := by simpa using l3
    have l4 := ready_none hready (i := 4) (by omega) rfl (by simp [Region.binds, m0, m1, m2, m3])
    have m4 : L[4]?.getD false = true := by simpa using l4
    have l5 := ready_none hready (i := 5) (by omega) rfl (by simp [Region.binds, m0, m1, m2, m3, m4])
    have m5 : L[5]?.getD false = true := by simpa using l5
    have l6 := ready_none hready (i := 6) (by omega) rfl (by simp [Region.binds, m0, m1, m2, m3, m4, m5])
    have m6 : L[6]?.getD false = true := by simpa using l6
    have l7 := ready_none hready (i := 7) (by omega) rfl (by simp [Region.binds, m0, m1, m2, m3, m4, m5, m6])
    have m7 : L[7]?.getD false = true := by simpa using l7
    have l8 := ready_none hready (i := 8) (by omega) rfl (by simp [Region.binds, m0, m1, m2, m3, m4, m5, m6, m7])
    have m8 : L[8]?.getD false = true := by simpa using l8
    have l9 := ready_none hready (i := 9) (by omega) rfl (by simp [Region.binds, m0, m1, m2, m3, m4, m5, m6, m7, m8])
    have m9 : L[9]?.getD false = true := by simpa using l9
    clear hready
    obtain rfl := hI.c0 l0
    obtain rfl := hI.c1 l1
    obtain rfl := hI.c2 l2
    obtain rfl := hI.c3 l3
    obtain ⟨g5, x5, rfl, f5, k5, z5, r5⟩ := hI.a5 l4
    obtain ⟨g6, x6, rfl, f6, k6, z6, r6⟩ := hI.a6 l5
    obtain ⟨g7, x7, rfl, f7, k7, z7, r7⟩ := hI.a7 l6
    obtain rfl := r5 l7
    obtain rfl := r6 l8
    obtain rfl := r7 l9
    have n57 : g5 ≠ g7 := fun e => hI.d57 l4 l6 (by rw [e])
    have n67 : g6 ≠ g7 := fun e => hI.d67 l5 l6 (by rw [e])
    have hBx := Lib.hid (hB.out.trans (hI.bel.mono (by omega)))
    have hb0 := Lib.hid (b0.out.below hI.bel (by omega))
    have hb1 := Lib.hid (b1.out.below hI.bel (by omega))
    have k5 := Lib.hid k5
    have k6 := Lib.hid k6
    have hlt7 := k7.lt
    have hlt6 := k6.out.lt
    have hlt5 := k5.out.lt
    have hlt0 := hb0.out.lt
    have k7 := Lib.hid k7
    clear l0 l1 l2 l3 l4 l5 l6 l7 l8 l9 m0 m1 m2 m3 m4 m5 m6 m7 m8 m9 hI hLs hw1 b0 b1 hB z5 z6 z7 r5 r6 r7
    unfold stF
    go_wp2_with fail
    go_loopw [8] (fun i wr => ∃ k : Nat, k ≤ 64 ∧ i = .int .i64 k ∧ Hid (wx.grownBy wr (some g7)) ∧ Hid (Bk wr g7 80 (stV (Sh.rounds S (byt s) k)))) (fun i _ => 64 - (intOf i).toNat)
    case atStart => exact ⟨0, by omega, rfl, Lib.hid (one_refl _ _), k7⟩
    case round =>
      obtain ⟨k, hk, rfl, hG, hV⟩ := hrel
      by_cases hk64 : k < 64
      · have hok := Sh.rounds_ok hS (byt s) k
        have hnx : Hid (Sh.rounds S (byt s) (k + 1) = Sh.rnd (Sh.rounds S (byt s) k) (Sh.kk k) (Sh.ws (byt s) k)) := rfl
        have lw := Sh.ws_lt hp k hk64
        have lk := Sh.kk_lt k hk64
        have cw : wr.cell? ⟨g5, k, none⟩ = some (vU (Sh.ws (byt s) k)) := ((k5.out.grow hG.out (by simpa using n57)).cell k).trans (wsV_at _ k hk64)
        have ck : wr.cell? ⟨g6, k, none⟩ = some (vU (Sh.kk k)) := ((k6.out.grow hG.out (by simpa using n67)).cell k).trans (keysV_at k hk64)
        generalize Sh.rounds S (byt s) k = R at *
        obtain ⟨a, b, c, d, e, f, g, h⟩ := R
        obtain ⟨la, lb, lc, ld, le, lf, lg, lh⟩ := hok
        simp only at la lb lc ld le lf lg lh
        unfold Sh.M at la lb lc ld le lf lg lh lw lk
        generalize Sh.ws (byt s) k = vw at *
        generalize Sh.kk k = vk at *
        have x0 : wr.cell? ⟨g7, 0, none⟩ = some (vU a) := hV.out.cell 0
        have x1 : wr.cell? ⟨g7, 1, none⟩ = some (vU b) := hV.out.cell 1
        have x2 : wr.cell? ⟨g7, 2, none⟩ = some (vU c) := hV.out.cell 2
        have x3 : wr.cell? ⟨g7, 3, none⟩ = some (vU d) := hV.out.cell 3
        have x4 : wr.cell? ⟨g7, 4, none⟩ = some (vU e) := hV.out.cell 4
        have x5 : wr.cell? ⟨g7, 5, none⟩ = some (vU f) := hV.out.cell 5
        have x6 : wr.cell? ⟨g7, 6, none⟩ = some (vU g) := hV.out.cell 6
        have x7 : wr.cell? ⟨g7, 7, none⟩ = some (vU h) := hV.out.cell 7
        have fz : ∀ j, wr.frozen? ⟨g7, j, none⟩ = false := hV.out.frozen
        have T6 : Hid (∀ W, Calls Tryd.prog 63 #[.int .u32 (e : Int), .int .i64 6] W fun e' w' => e' = .returned (.int .u32 (Sh.rotr e 6 : Nat)) ∧ w' = W) := fun W => turned_q 6 e W le (by omega)
        have T11 : Hid (∀ W, Calls Tryd.prog 63 #[.int .u32 (e : Int), .int .i64 11] W fun e' w' => e' = .returned (.int .u32 (Sh.rotr e 11 : Nat)) ∧ w' = W) := fun W => turned_q 11 e W le (by omega)
        have T25 : Hid (∀ W, Calls Tryd.prog 63 #[.int .u32 (e : Int), .int .i64 25] W fun e' w' => e' = .returned (.int .u32 (Sh.rotr e 25 : Nat)) ∧ w' = W) := fun W => turned_q 25 e W le (by omega)
        have T2 : Hid (∀ W, Calls Tryd.prog 63 #[.int .u32 (a : Int), .int .i64 2] W fun e' w' => e' = .returned (.int .u32 (Sh.rotr a 2 : Nat)) ∧ w' = W) := fun W => turned_q 2 a W la (by omega)
        have T13 : Hid (∀ W, Calls Tryd.prog 63 #[.int .u32 (a : Int), .int .i64 13] W fun e' w' => e' = .returned (.int .u32 (Sh.rotr a 13 : Nat)) ∧ w' = W) := fun W => turned_q 13 a W la (by omega)
        have T22 : Hid (∀ W, Calls Tryd.prog 63 #[.int .u32 (a : Int), .int .i64 22] W fun e' w' => e' = .returned (.int .u32 (Sh.rotr a 22 : Nat)) ∧ w' = W) := fun W => turned_q 22 a W la (by omega)
        go_wp2_with fail
        go_quiet ((go_at_call 63; first | with_reducible exact Calls.quiet_of_same (T6.out _) | with_reducible exact Calls.quiet_of_same (T11.out _) | with_reducible exact Calls.quiet_of_same (T25.out _)))
        rw [show (if IntKind.u32.signed = true then (-1 : Int) else IntKind.u32.max) = IntKind.u32.max from rfl, bg1_int e le, ch_int e f g le lf lg]
        have hy1 : Hid ((((h : Int) + (Sh.bg1 e : Nat) + (Sh.ch e f g : Nat) + vk) % 4294967296 + vw) % 4294967296 = ((Sh.first ⟨a, b, c, d, e, f, g, h⟩ vk vw : Nat) : Int)) := by
          show _ = _
          unfold Sh.first Sh.M
          simp only
          generalize Sh.bg1 e = q1
          generalize Sh.ch e f g = q2
          omega
        rw [hy1.out]
        have ly1 : Sh.first ⟨a, b, c, d, e, f, g, h⟩ vk vw < 4294967296 := Nat.mod_lt _ (by decide)
        obtain ⟨y1, hy⟩ : ∃ y, y = Sh.first ⟨a, b, c, d, e, f, g, h⟩ vk vw := ⟨_, rfl⟩
        rw [← hy] at ly1 ⊢
        have HY1 := Lib.hid hy
        clear hy hy1 T6 T11 T25 cw ck lw lk
        obtain ⟨wq, hwq⟩ : ∃ wq : World, wq = wr.drewN nq := ⟨_, rfl⟩
        rw [← hwq]
        have x0 : wq.cell? ⟨g7, 0, none⟩ = some (vU a) := by rw [hwq]; exact x0
        have x1 : wq.cell? ⟨g7, 1, none⟩ = some (vU b) := by rw [hwq]; exact x1
        have x2 : wq.cell? ⟨g7, 2, none⟩ = some (vU c) := by rw [hwq]; exact x2
        have x3 : wq.cell? ⟨g7, 3, none⟩ = some (vU d) := by rw [hwq]; exact x3
        have x4 : wq.cell? ⟨g7, 4, none⟩ = some (vU e) := by rw [hwq]; exact x4
        have x5 : wq.cell? ⟨g7, 5, none⟩ = some (vU f) := by rw [hwq]; exact x5
        have x6 : wq.cell? ⟨g7, 6, none⟩ = some (vU g) := by rw [hwq]; exact x6
        have x7 : wq.cell? ⟨g7, 7, none⟩ = some (vU h) := by rw [hwq]; exact x7
        have fz : ∀ j, wq.frozen? ⟨g7, j, none⟩ = false := by rw [hwq]; exact fz
        have hG := Lib.hid (hwq ▸ one_draw hG.out nq)
        have hV := Lib.hid (hwq ▸ hV.out.drawn nq)
        clear hwq
        go_wp2_with fail
        go_quiet ((go_at_call 63; first | with_reducible exact Calls.quiet_of_same (T2.out _) | with_reducible exact Calls.quiet_of_same (T13.out _) | with_reducible exact Calls.quiet_of_same (T22.out _)))
        go_wp2_with fail
        rw [bg0_int a la, maj_int a b c la lb lc]
        go_roundw
        case rel =>
          refine ⟨k + 1, by omega, by go_num, ?_, ?_⟩
          · exact one_put (one_put (one_put (one_put (one_put (one_put (one_put (one_put (one_draw hG.out _) _ _) _ _) _ _) _ _) _ _) _ _) _ _) _ _
          · rw [hnx.out, ← round_stV a b c d e f g h vk vw y1 HY1.out]
            exact ((((((((hV.out.drawn _).put 0 _).put 1 _).put 2 _).put 3 _).put 4 _).put 5 _).put 6 _).put 7 _
        case measure => simp [intOf]; omega
      · obtain rfl : k = 64 := by omega
        have hR := Sh.rounds_ok hS (byt s) 64
        have hcomp : Hid (Sh.comp S (byt s) = Sh.plus S (Sh.rounds S (byt s) 64)) := rfl
        generalize Sh.rounds S (byt s) 64 = R at *
        have hb0 := Lib.hid (hb0.out.grow hG.out (by simp; omega))
        have hb1 := Lib.hid (hb1.out.grow hG.out (by simp; omega))
        have hBz := Lib.hid (below_one hBx.out hG.out (by omega) (fun g hg => by cases hg; omega))
        clear k5 k6 k7 hBx hG
        go_wp2_with fail
        obtain ⟨wz, rfl⟩ : ∃ wz : World, wz = wr := ⟨_, rfl⟩
        go_loopw [13] (fun i wr => ∃ k : Nat, k ≤ 8 ∧ i = .int .i64 k ∧ Hid (wz.grownBy wr (some w.heap.size)) ∧ Hid (Bk wr w.heap.size 80 (upd8 S R k))) (fun i _ => 8 - (intOf i).toNat)
        case atStart => exact ⟨0, by omega, rfl, Lib.hid (one_refl _ _), hb0⟩
        case round =>
          clear hb0
          obtain ⟨k, hk, rfl, hG, hU⟩ := hrel
          by_cases hk8 : k < 8
          · have lx := ok_lt hS k
            have ly := ok_lt hR k
            have hpv : Hid (plusV S R k = vU ((S.l.getD k 0 + R.l.getD k 0) % Sh.M)) := rfl
            have cx : wr.cell? ⟨w.heap.size, k, none⟩ = some (vU (S.l.getD k 0)) := (hU.out.cell k).trans (upd8_out S R k hk8)
            have cy : wr.cell? ⟨g7, k, none⟩ = some (vU (R.l.getD k 0)) := ((hV.out.grow hG.out (by simp; omega)).cell k).trans (row_at R k hk8)
            have fx : wr.frozen? ⟨w.heap.size, k, none⟩ = false := hU.out.frozen _
            generalize S.l.getD k 0 = x at *
            generalize R.l.getD k 0 = y at *
            go_wp2_with fail
            refine Lex.wp_region_drawn 0 9 (by kernel_rfl) (by kernel_rfl) ?_
            simp only [List.take_succ_cons, List.take_zero, List.drop_succ_cons, List.drop_zero, Lex.moved, Lex.movOf, Act.put, Act.eval, List.setIfInBounds_toArray, List.set_cons_zero, List.set_cons_succ, Lex.getD_zero, Lex.getD_succ]
            repeat (go_big_quiet_step (fail))
            refine wpQuiet_nil ?_
            intro _ hw'
            obtain ⟨nq4, hw''⟩ := hw'
            subst hw''
            go_wp2_with fail
            refine NoPanic.normal ?_
            go_wp2_with fail
            go_roundw
            case rel =>
              refine ⟨k + 1, by omega, by go_num, ?_, ?_⟩
              · exact one_put (one_draw hG.out _) _ _
              · have hput := (hU.out.drawn nq4).put k (plusV S R k)
                rw [show upd8 S R (k + 1) = (upd8 S R k).setIfInBounds k (plusV S R k) from rfl]
                rw [hpv.out, vU_add] at hput ⊢
                exact hput
            case measure => simp [intOf]; omega
          · obtain rfl : k = 8 := by omega
            have hU8 := hU.out
            have hb1' := hb1.out.grow hG.out (by simp)
            rw [upd8_all, ← hcomp.out] at hU8
            obtain ⟨C, hC⟩ : ∃ C, C = Sh.comp S (byt s) := ⟨_, rfl⟩
            rw [← hC] at hU8
            have HC := Lib.hid hC
            clear hC
            have hzs := hBz.out.size
            have hBf := Lib.hid (below_one hBz.out hG.out (by omega) (fun g hg => by cases hg; exact Nat.le_refl _))
            clear hG hU hV hBz
            go_wp2_with (first | (refine wpList_load_row rfl 80 _ rfl w.heap.size rfl 80 (stV C) (0, 0) _ hU8 Tryd.underlying80 rfl (by rw [stV_size]; exact w8_size) ?_) | (refine wpList_store_row rfl 80 _ _ rfl (w.heap.size + 1) (stV C) rfl rfl 80 zero8 hb1' (by rw [stV_size]; exact w8_size) rfl (stV_one _) ?_))
            exact bodyPost_ret (v := .agg (stV C)) (results_cell_row Tryd.results56 _ _ (w.heap.size + 1) 80 (stV C) (0, 0) _ (by simp [Act.put]) (setRow_heap _ _ _ _ _ _ hb1') Tryd.underlying80 rfl (by rw [stV_size]; exact w8_size)) rfl ⟨by rw [HC.out], below_one hBf.out (one_row (one_refl _ _) _) (by have := Bk.lt hb1'; omega) (fun g hg => by cases hg; omega)⟩
  case hstep =>
    clear hw1
    intro i o ho L a wx hJ hun hdep
    obtain ⟨v5, v6, v7, v14, v15, v16, v17, rfl, hLs, hI⟩ := hJ
    rcases i with _ | _ | _ | _ | _ | _ | _ | _ | _ | _ | i
    · cases ho
      refine ⟨rfl, ?_⟩
      unfold stF
      go_simp
      exact ⟨v5, v6, v7, _, v15, v16, v17, rfl, StL.of0 hLs hI.op0⟩
    · have d0 : L.getD 0 false = true := by cases ho; exact hdep ⟨0, .data⟩ (by simp) rfl
      obtain rfl := hI.c0 d0
      cases ho
      refine ⟨rfl, ?_⟩
      unfold stF
      go_simp
      refine (rwords_any s wx HS.out).mono ?_
      rintro e w2 ⟨rfl, hb⟩
      exact ⟨v5, v6, v7, _, _, v16, v17, rfl, StL.of1 hLs (hI.world hb).op1⟩
    · cases ho
      refine ⟨rfl, ?_⟩
      unfold stF
      go_simp
      refine (rkeys_any wx).mono ?_
      rintro e w2 ⟨rfl, hb⟩
      exact ⟨v5, v6, v7, _, _, _, v17, rfl, StL.of2 hLs (hI.world hb).op2⟩
    · cases ho
      refine ⟨rfl, ?_⟩
      unfold stF
      refine wp_load_row 80 _ rfl w.heap.size rfl 80 (stV S) (0, 0) _ (b0.out.below hI.bel (by omega)) Tryd.underlying80 rfl (by rw [stV_size]; exact w8_size) ?_
      exact ⟨v5, v6, v7, _, _, _, _, rfl, StL.of3 hLs hI.op3⟩
    · cases ho
      refine ⟨rfl, ?_⟩
      unfold stF
      go_simp
      exact ⟨_, v6, v7, _, _, _, _, rfl, StL.of4 hLs (hI.op4 (getD_un hun))⟩
    · cases ho
      refine ⟨rfl, ?_⟩
      unfold stF
      go_simp
      exact ⟨v5, _, v7, _, _, _, _, rfl, StL.of5 hLs (hI.op5 (getD_un hun))⟩
    · cases ho
      refine ⟨rfl, ?_⟩
      unfold stF
      go_simp
      exact ⟨v5, v6, _, _, _, _, _, rfl, StL.of6 hLs (hI.op6 (getD_un hun))⟩
    · have d4 : L.getD 4 false = true := by cases ho; exact hdep ⟨4, .data⟩ (by simp) rfl
      have d1 : L.getD 1 false = true := by cases ho; exact hdep ⟨1, .data⟩ (by simp) rfl
      obtain rfl := hI.c1 d1
      obtain ⟨g, cs, rfl, e2, e3, e4, e5⟩ := hI.a5 d4
      cases ho
      refine ⟨rfl, ?_⟩
      unfold stF
      refine wp_store_row 88 _ _ rfl g (wsV (byt s)) rfl rfl 88 cs e3 (by rw [wsV_size]; exact w64_size) (e4.trans (wsV_size _).symm) (wsV_one _) ?_
      exact ⟨_, v6, v7, _, _, _, _, rfl, StL.of7 hLs (hI.op7 d4 rfl e2 e3)⟩
    · have d5 : L.getD 5 false = true := by cases ho; exact hdep ⟨5, .data⟩ (by simp) rfl
      have d2 : L.getD 2 false = true := by cases ho; exact hdep ⟨2, .data⟩ (by simp) rfl
      obtain rfl := hI.c2 d2
      obtain ⟨g, cs, rfl, e2, e3, e4, e5⟩ := hI.a6 d5
      cases ho
      refine ⟨rfl, ?_⟩
      unfold stF
      refine wp_store_row 88 _ _ rfl g keysV rfl rfl 88 cs e3 w64_size (e4.trans keysV_size.symm) keysV_one ?_
      exact ⟨v5, _, v7, _, _, _, _, rfl, StL.of8 hLs (hI.op8 d5 rfl e2 e3)⟩
    · have d6 : L.getD 6 false = true := by cases ho; exact hdep ⟨6, .data⟩ (by simp) rfl
      have d3 : L.getD 3 false = true := by cases ho; exact hdep ⟨3, .data⟩ (by simp) rfl
      obtain rfl := hI.c3 d3
      obtain ⟨g, cs, rfl, e2, e3, e4, e5⟩ := hI.a7 d6
      cases ho
      refine ⟨rfl, ?_⟩
      unfold stF
      refine wp_store_row 80 _ _ rfl g (stV S) rfl rfl 80 cs e3 (by rw [stV_size]; exact w8_size) (e4.trans (stV_size _).symm) (stV_one _) ?_
      exact ⟨v5, v6, _, _, _, _, _, rfl, StL.of9 hLs (hI.op9 d6 rfl e2 e3)⟩
    · cases ho
end Go.Proofs.YtflfmacfodkedaaDoor
