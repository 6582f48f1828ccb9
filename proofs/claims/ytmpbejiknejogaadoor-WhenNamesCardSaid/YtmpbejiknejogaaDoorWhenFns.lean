/-
  The walks of package when.
-/
import Derived.Test.YtmpbejiknejogaaDoorBase
import Derived.Test.YtmpbejiknejogaaDoorWhen
import Derived.Test.YtmpbejiknejogaaDoorMem
import Derived.Test.YtmpbejiknejogaaDoorWhenShelf
import Derived.IntWalk
import Derived.Lib.QuietBelow
import Derived.Lib.LaidTab
import Derived.Lib.SmallJoins
namespace Go.Proofs.YtmpbejiknejogaaDoor
set_option linter.unusedSimpArgs false
set_option linter.unusedVariables false
open Go Go.RowKit

/-- The tables stand where they were laid. -/
structure Tb (w : World) : Prop where
  bef : ∀ i, i < 13 → w.cell? ⟨0, i, none⟩ = some (.int .i64 (Wh.bef i))
  pow : Lib.TabIs Tryd.prog w "internal/strconv.uint64pow10" .u64 Lib.pow10Tab
theorem gPow : Tryd.prog.globalNamed "internal/strconv.uint64pow10" = some 1 := by kernel_rfl
theorem Tb.lt {w : World} (h : Tb w) : 0 < w.heap.size := World.block_lt_of_cell? w _ (h.bef 0 (by omega))
theorem Tb.plt {w : World} (h : Tb w) : 1 < w.heap.size := by
  have := h.pow.cell gPow 0 (by rw [Lib.pow10Tab_length]; omega)
  exact World.block_lt_of_cell? w _ this
theorem Tb.below {B : Nat} {w w' : World} (h : Tb w) (hb : Below B w w') (hB : 0 < B) (hP : 1 < B) : Tb w' :=
  ⟨fun i hi => (hb.cell (p := ⟨0, i, none⟩) hB).trans (h.bef i hi), var?_below hb gPow hP h.pow⟩
theorem Tb.to {w w' : World} (h : Tb w) (hb : Below w.heap.size w w') : Tb w' := h.below hb h.lt h.plt
theorem flipw {P : Program} {f : FuncId} {args : Array Value} {w : World} {v : Value} (h : Calls P f args w fun e w' => e = .returned v ∧ w = w') : Calls P f args w fun e w' => e = .returned v ∧ w' = w := h.mono fun _ _ ⟨a, b⟩ => ⟨a, b.symm⟩

set_option maxHeartbeats 400000 in
theorem leaps_any (y : Int) (w : World) (h0 : 0 ≤ y) (h1 : y ≤ 10000) : Calls Tryd.prog 32 #[.int .i64 y] w fun e w' => e = .returned (.int .i64 (Wh.lps y)) ∧ w = w' := by
  go_enter Tryd.func32, Tryd.ntmps32
  go_wp2
  go_ret
  exact ⟨ret_i rfl, rfl⟩
set_option maxHeartbeats 400000 in
theorem start_any (y : Int) (w : World) (h0 : 1970 ≤ y) (h1 : y ≤ 10000) : Calls Tryd.prog 27 #[.int .i64 y] w fun e w' => e = .returned (.int .i64 (Wh.start y)) ∧ w = w' := by
  have hb : 0 ≤ Wh.lps (y - 1) ∧ Wh.lps (y - 1) ≤ 10000 := by unfold Wh.lps; omega
  have e477 : Hid (Wh.lps 1969 = 477) := rfl
  go_enter Tryd.func27, Tryd.ntmps27
  go_wp2_with fail
  refine (leaps_any (y - 1) _ (by omega) (by omega)).mono ?_
  rintro e _ ⟨rfl, rfl⟩
  go_wp2_with fail
  refine (leaps_any 1969 _ (by omega) (by omega)).mono ?_
  rintro e _ ⟨rfl, rfl⟩
  rw [e477.out]
  go_wp2_with fail
  go_ret
  exact ⟨ret_i rfl, rfl⟩
set_option maxHeartbeats 400000 in
theorem leap_any (y : Int) (w : World) (h0 : 0 ≤ y) : Calls Tryd.prog 24 #[.int .i64 y] w fun e w' => e = .returned (.bool (Wh.leap y)) ∧ w = w' := by
  go_enter Tryd.func24, Tryd.ntmps24
  go_wp2
  all_goals
    go_ret
    refine ⟨ret_b ?_, rfl⟩
    unfold Wh.leap
    rw [Bool.eq_iff_iff]
    simp
    try omega
set_option maxHeartbeats 400000 in
theorem upTo_any (n h : Int) (w : World) : Calls Tryd.prog 26 #[.int .i64 n, .int .i64 h] w fun e w' => e = .returned (.bool (decide (0 ≤ n ∧ n ≤ h))) ∧ w = w' := by
  go_enter Tryd.func26, Tryd.ntmps26
  go_wp2
  all_goals
    go_ret
    refine ⟨ret_b ?_, rfl⟩
    rw [Bool.eq_iff_iff]
    simp
    try omega
set_option maxHeartbeats 400000 in
theorem over_any (a b : Int) (w : World) : Calls Tryd.prog 23 #[.int .i64 a, .int .i64 b] w fun e w' => e = .returned (.bool (decide (a ≤ b))) ∧ w = w' := by
  go_enter Tryd.func23, Tryd.ntmps23
  go_wp2
  all_goals
    go_ret
    refine ⟨ret_b ?_, rfl⟩
    try simp
set_option maxHeartbeats 800000 in
theorem days_any (y m : Int) (w : World) (hT : Tb w) : Calls Tryd.prog 13 #[.int .i64 y, .int .i64 m] w fun e w' => e = .returned (.int .i64 (Wh.dim y m)) ∧ Below w.heap.size w w' := by
  by_cases h1 : y < 1970
  · rw [Wh.dim_out (.inl h1)]
    go_enter Tryd.func13, Tryd.ntmps13
    go_wp2_with fail
    go_ret
    exact ⟨rfl, Below.refl _ _⟩
  by_cases h2 : 9999 < y
  · rw [Wh.dim_out (.inr (.inl h2))]
    go_enter Tryd.func13, Tryd.ntmps13
    go_wp2_with fail
    go_ret
    exact ⟨rfl, Below.refl _ _⟩
  by_cases h3 : m < 1
  · rw [Wh.dim_out (.inr (.inr (.inl h3)))]
    go_enter Tryd.func13, Tryd.ntmps13
    go_wp2_with fail
    go_ret
    exact ⟨rfl, Below.refl _ _⟩
  by_cases h4 : 12 < m
  · rw [Wh.dim_out (.inr (.inr (.inr h4)))]
    go_enter Tryd.func13, Tryd.ntmps13
    go_wp2_with fail
    go_ret
    exact ⟨rfl, Below.refl _ _⟩
  obtain ⟨j, rfl⟩ : ∃ j : Nat, m = (j : Int) + 1 := ⟨(m - 1).toNat, by omega⟩
  have hj : j < 12 := by omega
  have hd : Hid (Wh.dim y ((j : Int) + 1) = Wh.bef (j + 1) - Wh.bef j + if (j : Int) + 1 = 2 then Wh.lp y else 0) := Wh.dim_bef (j + 1) (by omega) (by omega) (by omega) (by omega)
  have c1 := hT.bef (j + 1) (by omega)
  have c2 := hT.bef j (by omega)
  have b1 := Wh.bef_bd (j + 1) (by omega)
  have b2 := Wh.bef_bd j (by omega)
  have hl := Wh.lp_cases y
  generalize Wh.bef (j + 1) = u at *
  generalize Wh.bef j = v at *
  have i1 : (0 : Int) ≤ (j : Int) + 1 := by omega
  have i2 : (j : Int) + 1 < 13 := by omega
  have i3 : (0 : Int) ≤ (j : Int) := by omega
  have i4 : (j : Int) < 13 := by omega
  have w1 : IntKind.i64.wrap ((j : Int) + 1 - 1) = (j : Int) := by rw [show (j : Int) + 1 - 1 = j by omega]; exact IntWalk.i64_in _ (by omega)
  have w2 : ((j : Int) + 1).toNat = j + 1 := by omega
  have w3 : IntKind.i64.wrap (u - v) = u - v := IntWalk.i64_in _ (by omega)
  have W := Lib.hid (And.intro w1 (And.intro w2 w3))
  have hb3 : -365 ≤ u - v ∧ u - v ≤ 365 := by omega
  clear w1 w2 w3
  by_cases hm : j = 1
  · subst hm
    rcases hl with ⟨l1, l2⟩ | ⟨l1, l2⟩
    · have hr : Hid (Wh.dim y (((1 : Nat) : Int) + 1) = u - v + 1) := by
        show _ = _
        rw [hd.out, l2]; rfl
      have C := Lib.hid (fun W => (leap_any y W (by omega)))
      have L := Lib.hid l1
      clear l1 l2 hd
      obtain ⟨w1, w2, w3⟩ := W.out
      go_enter Tryd.func13, Tryd.ntmps13
      go_wp2_with fail
      go_quiet (fail)
      clear w1 w2 w3
      go_wp2_with fail
      refine (C.out _).mono ?_
      rintro e _ ⟨rfl, rfl⟩
      rw [L.out]
      go_wp2_with fail
      go_ret
      exact ⟨ret_i hr.out.symm, below_drawn (Below.refl _ _) _⟩
    · have hr : Hid (Wh.dim y (((1 : Nat) : Int) + 1) = u - v) := by
        show _ = _
        rw [hd.out, l2]; simp
      have C := Lib.hid (fun W => (leap_any y W (by omega)))
      have L := Lib.hid l1
      clear l1 l2 hd
      obtain ⟨w1, w2, w3⟩ := W.out
      go_enter Tryd.func13, Tryd.ntmps13
      go_wp2_with fail
      go_quiet (fail)
      clear w1 w2 w3
      go_wp2_with fail
      refine (C.out _).mono ?_
      rintro e _ ⟨rfl, rfl⟩
      rw [L.out]
      go_wp2_with fail
      go_ret
      exact ⟨ret_i hr.out.symm, below_drawn (Below.refl _ _) _⟩
  · have hr : Hid (Wh.dim y ((j : Int) + 1) = u - v) := by
      show _ = _
      rw [hd.out, if_neg (by omega)]; omega
    have n1 : (((j : Int) + 1) == 2) = false := by rw [beq_eq_false_iff_ne]; omega
    clear hl hd
    obtain ⟨w1, w2, w3⟩ := W.out
    go_enter Tryd.func13, Tryd.ntmps13
    go_wp2_with fail
    go_quiet (fail)
    clear w1 w2 w3
    go_wp2_with fail
    go_ret
    exact ⟨ret_i hr.out.symm, below_drawn (Below.refl _ _) _⟩
end Go.Proofs.YtmpbejiknejogaaDoor
