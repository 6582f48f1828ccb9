/-
  The walks of Read and Show of package when.
-/
import Derived.Test.YtmpbejiknejogaaDoorWhenFns2
namespace Go.Proofs.YtmpbejiknejogaaDoor
set_option linter.unusedSimpArgs false
set_option linter.unusedVariables false
open Go Go.RowKit

set_option maxRecDepth 100000 in
set_option maxHeartbeats 4000000 in
theorem read_no (s : ByteArray) (w : World) (hs : s.size ≤ maxLen) (hT : Tb w) (hg : Wh.good s = false) :
    Calls Tryd.prog 14 #[.string s] w fun e w' => e = .returned (.tuple #[.int .i64 (Wh.rdV s), .int .i64 (Wh.rdE s)]) ∧ Below w.heap.size w w' := by
  have HR := Lib.hid (Wh.rd_no hg)
  have hB : Hid (Below w.heap.size w w) := Below.refl _ _
  have HT := Lib.hid hT
  have HG := Lib.hid hg
  clear hT hg
  by_cases hz : s.size = 20
  · have hz1 : 20 ≤ s.size := by omega
    have hz2 : s.size ≤ 20 := by omega
    have HZ := Lib.hid hz
    clear hz hs
    have bb4 := Uf.b_at s 4 (by omega)
    have bb7 := Uf.b_at s 7 (by omega)
    have bb10 := Uf.b_at s 10 (by omega)
    have bb13 := Uf.b_at s 13 (by omega)
    have bb16 := Uf.b_at s 16 (by omega)
    have bb19 := Uf.b_at s 19 (by omega)
    by_cases c4 : s[4].toNat ≠ 45
    · have n4 : ((s[4].toNat : Int) != 45) = true := by rw [bne_iff_ne]; omega
      clear bb4 bb7 bb10 bb13 bb16 bb19 c4
      go_enter Tryd.func14, Tryd.ntmps14
      go_wp2_with fail
      go_ret2
      exact ⟨ret_ii HR.out.1.symm HR.out.2.symm, hB.out⟩
    have n4 : ((s[4].toNat : Int) != 45) = false := by rw [bne_eq_false_iff_eq]; omega
    by_cases c7 : s[7].toNat ≠ 45
    · have n7 : ((s[7].toNat : Int) != 45) = true := by rw [bne_iff_ne]; omega
      clear bb4 bb7 bb10 bb13 bb16 bb19 c7
      go_enter Tryd.func14, Tryd.ntmps14
      go_wp2_with fail
      go_ret2
      exact ⟨ret_ii HR.out.1.symm HR.out.2.symm, hB.out⟩
    have n7 : ((s[7].toNat : Int) != 45) = false := by rw [bne_eq_false_iff_eq]; omega
    by_cases c10 : s[10].toNat ≠ 84
    · have n10 : ((s[10].toNat : Int) != 84) = true := by rw [bne_iff_ne]; omega
      clear bb4 bb7 bb10 bb13 bb16 bb19 c10
      go_enter Tryd.func14, Tryd.ntmps14
      go_wp2_with fail
      go_ret2
      exact ⟨ret_ii HR.out.1.symm HR.out.2.symm, hB.out⟩
    have n10 : ((s[10].toNat : Int) != 84) = false := by rw [bne_eq_false_iff_eq]; omega
    by_cases c13 : s[13].toNat ≠ 58
    · have n13 : ((s[13].toNat : Int) != 58) = true := by rw [bne_iff_ne]; omega
      clear bb4 bb7 bb10 bb13 bb16 bb19 c13
      go_enter Tryd.func14, Tryd.ntmps14
      go_wp2_with fail
      go_ret2
      exact ⟨ret_ii HR.out.1.symm HR.out.2.symm, hB.out⟩
    have n13 : ((s[13].toNat : Int) != 58) = false := by rw [bne_eq_false_iff_eq]; omega
    by_cases c16 : s[16].toNat ≠ 58
    · have n16 : ((s[16].toNat : Int) != 58) = true := by rw [bne_iff_ne]; omega
      clear bb4 bb7 bb10 bb13 bb16 bb19 c16
      go_enter Tryd.func14, Tryd.ntmps14
      go_wp2_with fail
      go_ret2
      exact ⟨ret_ii HR.out.1.symm HR.out.2.symm, hB.out⟩
    have n16 : ((s[16].toNat : Int) != 58) = false := by rw [bne_eq_false_iff_eq]; omega
    by_cases c19 : s[19].toNat ≠ 90
    · have n19 : ((s[19].toNat : Int) != 90) = true := by rw [bne_iff_ne]; omega
      clear bb4 bb7 bb10 bb13 bb16 bb19 c19
      go_enter Tryd.func14, Tryd.ntmps14
      go_wp2_with fail
      go_ret2
      exact ⟨ret_ii HR.out.1.symm HR.out.2.symm, hB.out⟩
    have n19 : ((s[19].toNat : Int) != 90) = false := by rw [bne_eq_false_iff_eq]; omega
    have hsep : Hid (Wh.seps s = true) := by
      show _ = _
      unfold Wh.seps
      rw [bb4, bb7, bb10, bb13, bb16, bb19]
      simp; omega
    clear bb4 c4 bb7 c7 bb10 c10 bb13 c13 bb16 c16 bb19 c19
    have D0 := Lib.hid (fun W => dig4 s (by omega) W)
    have D5 := Lib.hid (fun W => dig2 s 5 (by omega) W)
    have D8 := Lib.hid (fun W => dig2 s 8 (by omega) W)
    have D11 := Lib.hid (fun W => dig2 s 11 (by omega) W)
    have D14 := Lib.hid (fun W => dig2 s 14 (by omega) W)
    have D17 := Lib.hid (fun W => dig2 s 17 (by omega) W)
    have q5 := Wh.f2_bd s 5
    have q8 := Wh.f2_bd s 8
    have q11 := Wh.f2_bd s 11
    have q14 := Wh.f2_bd s 14
    have q17 := Wh.f2_bd s 17
    have G2 : Hid (¬ (1 ≤ Wh.f2 s 8 ∧ Wh.f2 s 8 ≤ Wh.dim (Wh.f4 s) (Wh.f2 s 5) ∧ (0 ≤ Wh.f2 s 11 ∧ Wh.f2 s 11 ≤ 23) ∧ (0 ≤ Wh.f2 s 14 ∧ Wh.f2 s 14 ≤ 59) ∧ (0 ≤ Wh.f2 s 17 ∧ Wh.f2 s 17 ≤ 59))) := by
      rintro ⟨g1, g2, g3, g4, g5⟩
      have : Wh.good s = true := by
        unfold Wh.good
        rw [hsep.out]
        simp only [Bool.and_eq_true, decide_eq_true_eq]
        exact ⟨⟨⟨⟨⟨⟨HZ.out, trivial⟩, g1⟩, g2⟩, g3⟩, g4⟩, g5⟩
      rw [HG.out] at this
      cases this
    have DY := Lib.hid (fun W (h : Tb W) => days_any (Wh.f4 s) (Wh.f2 s 5) W h)
    have db := Wh.dim_bd (Wh.f4 s) (Wh.f2 s 5)
    generalize Wh.dim (Wh.f4 s) (Wh.f2 s 5) = dm at *
    generalize Wh.f4 s = y at *
    generalize Wh.f2 s 5 = m at *
    generalize Wh.f2 s 8 = d at *
    generalize Wh.f2 s 11 = h at *
    generalize Wh.f2 s 14 = mi at *
    generalize Wh.f2 s 17 = sc at *
    by_cases e1 : d < 1
    · go_enter Tryd.func14, Tryd.ntmps14
      go_wp2_with fail
      go_quiet ((go_at_call 25; first | with_reducible exact Calls.quiet_of_same (D0.out _) | with_reducible exact Calls.quiet_of_same (D5.out _) | with_reducible exact Calls.quiet_of_same (D8.out _)))
      replace hB := Lib.hid (below_drawn hB.out nq)
      go_wp2_with fail
      go_ret2
      exact ⟨ret_ii HR.out.1.symm HR.out.2.symm, hB.out⟩
    by_cases e2 : dm < d
    · go_enter Tryd.func14, Tryd.ntmps14
      go_wp2_with fail
      go_quiet ((go_at_call 25; first | with_reducible exact Calls.quiet_of_same (D0.out _) | with_reducible exact Calls.quiet_of_same (D5.out _) | with_reducible exact Calls.quiet_of_same (D8.out _)))
      replace hB := Lib.hid (below_drawn hB.out nq)
      go_wp2_with fail
      refine (DY.out _ (HT.out.to hB.out)).mono ?_
      rintro e w1 ⟨rfl, hb1⟩
      replace hB := Lib.hid (keep_trans hB.out hb1)
      clear hb1
      go_wp2_with fail
      go_ret2
      exact ⟨ret_ii HR.out.1.symm HR.out.2.symm, hB.out⟩
    by_cases u0_ : ¬ (0 ≤ h ∧ h ≤ 23)
    · have U0 : Hid (∀ W, Calls Tryd.prog 26 #[.int .i64 h, .int .i64 23] W fun e w' => e = .returned (.bool false) ∧ W = w') := fun W => by
        have := upTo_any h 23 W
        rwa [show decide (0 ≤ h ∧ h ≤ 23) = false by simp; omega] at this
      go_enter Tryd.func14, Tryd.ntmps14
      go_wp2_with fail
      go_quiet ((go_at_call 25; first | with_reducible exact Calls.quiet_of_same (D0.out _) | with_reducible exact Calls.quiet_of_same (D5.out _) | with_reducible exact Calls.quiet_of_same (D8.out _)))
      replace hB := Lib.hid (below_drawn hB.out nq)
      go_wp2_with fail
      refine (DY.out _ (HT.out.to hB.out)).mono ?_
      rintro e w1 ⟨rfl, hb1⟩
      replace hB := Lib.hid (keep_trans hB.out hb1)
      clear hb1
      go_wp2_with fail
      go_quiet ((go_at_call 25; first | with_reducible exact Calls.quiet_of_same (D11.out _) | with_reducible exact Calls.quiet_of_same (D14.out _) | with_reducible exact Calls.quiet_of_same (D17.out _)))
      obtain ⟨wq, hwq⟩ : ∃ wq : World, wq = w1.drewN nq := ⟨_, rfl⟩
      replace hB := Lib.hid (show Below w.heap.size w wq from hwq ▸ below_drawn hB.out nq)
      rw [← hwq]
      clear hwq nq
      go_wp2_with fail
      refine (U0.out _).mono ?_
      rintro e _ ⟨rfl, rfl⟩
      go_wp2_with fail
      go_ret2
      exact ⟨ret_ii HR.out.1.symm HR.out.2.symm, hB.out⟩
    by_cases u1_ : ¬ (0 ≤ mi ∧ mi ≤ 59)
    · have U0 : Hid (∀ W, Calls Tryd.prog 26 #[.int .i64 h, .int .i64 23] W fun e w' => e = .returned (.bool true) ∧ W = w') := fun W => by
        have := upTo_any h 23 W
        rwa [show decide (0 ≤ h ∧ h ≤ 23) = true by simp; omega] at this
      have U1 : Hid (∀ W, Calls Tryd.prog 26 #[.int .i64 mi, .int .i64 59] W fun e w' => e = .returned (.bool false) ∧ W = w') := fun W => by
        have := upTo_any mi 59 W
        rwa [show decide (0 ≤ mi ∧ mi ≤ 59) = false by simp; omega] at this
      go_enter Tryd.func14, Tryd.ntmps14
      go_wp2_with fail
      go_quiet ((go_at_call 25; first | with_reducible exact Calls.quiet_of_same (D0.out _) | with_reducible exact Calls.quiet_of_same (D5.out _) | with_reducible exact Calls.quiet_of_same (D8.out _)))
      replace hB := Lib.hid (below_drawn hB.out nq)
      go_wp2_with fail
      refine (DY.out _ (HT.out.to hB.out)).mono ?_
      rintro e w1 ⟨rfl, hb1⟩
      replace hB := Lib.hid (keep_trans hB.out hb1)
      clear hb1
      go_wp2_with fail
      go_quiet ((go_at_call 25; first | with_reducible exact Calls.quiet_of_same (D11.out _) | with_reducible exact Calls.quiet_of_same (D14.out _) | with_reducible exact Calls.quiet_of_same (D17.out _)))
      obtain ⟨wq, hwq⟩ : ∃ wq : World, wq = w1.drewN nq := ⟨_, rfl⟩
      replace hB := Lib.hid (show Below w.heap.size w wq from hwq ▸ below_drawn hB.out nq)
      rw [← hwq]
      clear hwq nq
      go_wp2_with fail
      refine (U0.out _).mono ?_
      rintro e _ ⟨rfl, rfl⟩
      go_wp2_with fail
      refine (U1.out _).mono ?_
      rintro e _ ⟨rfl, rfl⟩
      go_wp2_with fail
      go_ret2
      exact ⟨ret_ii HR.out.1.symm HR.out.2.symm, hB.out⟩
    by_cases u2_ : ¬ (0 ≤ sc ∧ sc ≤ 59)
    · have U0 : Hid (∀ W, Calls Tryd.prog 26 #[.int .i64 h, .int .i64 23] W fun e w' => e = .returned (.bool true) ∧ W = w') := fun W => by
        have := upTo_any h 23 W
        rwa [show decide (0 ≤ h ∧ h ≤ 23) = true by simp; omega] at this
      have U1 : Hid (∀ W, Calls Tryd.prog 26 #[.int .i64 mi, .int .i64 59] W fun e w' => e = .returned (.bool true) ∧ W = w') := fun W => by
        have := upTo_any mi 59 W
        rwa [show decide (0 ≤ mi ∧ mi ≤ 59) = true by simp; omega] at this
      have U2 : Hid (∀ W, Calls Tryd.prog 26 #[.int .i64 sc, .int .i64 59] W fun e w' => e = .returned (.bool false) ∧ W = w') := fun W => by
        have := upTo_any sc 59 W
        rwa [show decide (0 ≤ sc ∧ sc ≤ 59) = false by simp; omega] at this
      go_enter Tryd.func14, Tryd.ntmps14
      go_wp2_with fail
      go_quiet ((go_at_call 25; first | with_reducible exact Calls.quiet_of_same (D0.out _) | with_reducible exact Calls.quiet_of_same (D5.out _) | with_reducible exact Calls.quiet_of_same (D8.out _)))
      replace hB := Lib.hid (below_drawn hB.out nq)
      go_wp2_with fail
      refine (DY.out _ (HT.out.to hB.out)).mono ?_
      rintro e w1 ⟨rfl, hb1⟩
      replace hB := Lib.hid (keep_trans hB.out hb1)
      clear hb1
      go_wp2_with fail
      go_quiet ((go_at_call 25; first | with_reducible exact Calls.quiet_of_same (D11.out _) | with_reducible exact Calls.quiet_of_same (D14.out _) | with_reducible exact Calls.quiet_of_same (D17.out _)))
      obtain ⟨wq, hwq⟩ : ∃ wq : World, wq = w1.drewN nq := ⟨_, rfl⟩
      replace hB := Lib.hid (show Below w.heap.size w wq from hwq ▸ below_drawn hB.out nq)
      rw [← hwq]
      clear hwq nq
      go_wp2_with fail
      refine (U0.out _).mono ?_
      rintro e _ ⟨rfl, rfl⟩
      go_wp2_with fail
      refine (U1.out _).mono ?_
      rintro e _ ⟨rfl, rfl⟩
      go_wp2_with fail
      refine (U2.out _).mono ?_
      rintro e _ ⟨rfl, rfl⟩
      go_wp2_with fail
      go_ret2
      exact ⟨ret_ii HR.out.1.symm HR.out.2.symm, hB.out⟩
    exact absurd ⟨by omega, by omega, by omega, by omega, by omega⟩ G2.out
  · have n1 : ((s.size : Int) != 20) = true := by rw [bne_iff_ne]; omega
    clear hz
    go_enter Tryd.func14, Tryd.ntmps14
    go_wp2_with fail
    go_ret2
    exact ⟨ret_ii HR.out.1.symm HR.out.2.symm, hB.out⟩

set_option maxRecDepth 100000 in
set_option maxHeartbeats 4000000 in
theorem read_yes (s : ByteArray) (w : World) (hT : Tb w) (hg : Wh.good s = true) :
    Calls Tryd.prog 14 #[.string s] w fun e w' => e = .returned (.tuple #[.int .i64 (Wh.rdV s), .int .i64 (Wh.rdE s)]) ∧ Below w.heap.size w w' := by
  obtain ⟨hz, hsep, hd, ht⟩ := (Wh.good_iff s).1 hg
  have hv : Wh.rdV s = Wh.sec (Wh.f4 s) (Wh.f2 s 5) (Wh.f2 s 8) (Wh.f2 s 11) (Wh.f2 s 14) (Wh.f2 s 17) ∧ Wh.rdE s = 0 := by
    unfold Wh.rdV Wh.rdE; rw [hg]; exact ⟨rfl, rfl⟩
  have hB : Hid (Below w.heap.size w w) := Below.refl _ _
  have HT := Lib.hid hT
  have hz1 : 20 ≤ s.size := by omega
  have hz2 : s.size ≤ 20 := by omega
  clear hz
  unfold Wh.seps at hsep
  simp only [Bool.and_eq_true, beq_iff_eq] at hsep
  obtain ⟨⟨⟨⟨⟨s4, s7⟩, s10⟩, s13⟩, s16⟩, s19⟩ := hsep
  rw [Uf.b_at s 4 (by omega)] at s4
  rw [Uf.b_at s 7 (by omega)] at s7
  rw [Uf.b_at s 10 (by omega)] at s10
  rw [Uf.b_at s 13 (by omega)] at s13
  rw [Uf.b_at s 16 (by omega)] at s16
  rw [Uf.b_at s 19 (by omega)] at s19
  have n4 : ((s[4].toNat : Int) != 45) = false := by rw [bne_eq_false_iff_eq]; omega
  have n7 : ((s[7].toNat : Int) != 45) = false := by rw [bne_eq_false_iff_eq]; omega
  have n10 : ((s[10].toNat : Int) != 84) = false := by rw [bne_eq_false_iff_eq]; omega
  have n13 : ((s[13].toNat : Int) != 58) = false := by rw [bne_eq_false_iff_eq]; omega
  have n16 : ((s[16].toNat : Int) != 58) = false := by rw [bne_eq_false_iff_eq]; omega
  have n19 : ((s[19].toNat : Int) != 90) = false := by rw [bne_eq_false_iff_eq]; omega
  clear hg hT s4 s7 s10 s13 s16 s19
  have D0 := Lib.hid (fun W => dig4 s (by omega) W)
  have D5 := Lib.hid (fun W => dig2 s 5 (by omega) W)
  have D8 := Lib.hid (fun W => dig2 s 8 (by omega) W)
  have D11 := Lib.hid (fun W => dig2 s 11 (by omega) W)
  have D14 := Lib.hid (fun W => dig2 s 14 (by omega) W)
  have D17 := Lib.hid (fun W => dig2 s 17 (by omega) W)
  have DY := Lib.hid (fun W (h : Tb W) => days_any (Wh.f4 s) (Wh.f2 s 5) W h)
  have q1 := hd.y1; have q2 := hd.y2; have q3 := hd.m1; have q4 := hd.m2; have q5 := hd.d1; have q6 := hd.d2
  have q7 := ht.h1; have q8 := ht.h2; have q9 := ht.m1; have q10 := ht.m2; have q11 := ht.s1; have q12 := ht.s2
  have db := Wh.dim_bd (Wh.f4 s) (Wh.f2 s 5)
  have HV := Lib.hid hv
  have hw := hd.within
  have hS := Wh.start_bd (Wh.f4 s) q1 (by omega)
  clear hd ht hv
  generalize Wh.dim (Wh.f4 s) (Wh.f2 s 5) = dm at *
  generalize Wh.f4 s = y at *
  generalize Wh.f2 s 5 = m at *
  generalize Wh.f2 s 8 = d at *
  generalize Wh.f2 s 11 = h at *
  generalize Wh.f2 s 14 = mi at *
  generalize Wh.f2 s 17 = sc at *
  obtain ⟨j, rfl⟩ : ∃ j : Nat, m = (j : Int) + 1 := ⟨(m - 1).toNat, by omega⟩
  have hj : j < 12 := by omega
  have hcm := Wh.cm_bef (y := y) (j + 1) (by omega) (by omega)
  have bv := Wh.bef_bd j (by omega)
  have CB := Lib.hid (HT.out.bef j (by omega))
  rw [show j + 1 - 1 = j from rfl] at hcm
  have hdn : Wh.dn y ((j : Int) + 1) d = Wh.start y + Wh.cm y (((j + 1 : Nat) : Int)) + d - 1 := rfl
  have U0 : Hid (∀ W, Calls Tryd.prog 26 #[.int .i64 h, .int .i64 23] W fun e w' => e = .returned (.bool true) ∧ W = w') := fun W => by
    have := upTo_any h 23 W
    rwa [show decide (0 ≤ h ∧ h ≤ 23) = true by simp; omega] at this
  have U1 : Hid (∀ W, Calls Tryd.prog 26 #[.int .i64 mi, .int .i64 59] W fun e w' => e = .returned (.bool true) ∧ W = w') := fun W => by
    have := upTo_any mi 59 W
    rwa [show decide (0 ≤ mi ∧ mi ≤ 59) = true by simp; omega] at this
  have U2 : Hid (∀ W, Calls Tryd.prog 26 #[.int .i64 sc, .int .i64 59] W fun e w' => e = .returned (.bool true) ∧ W = w') := fun W => by
    have := upTo_any sc 59 W
    rwa [show decide (0 ≤ sc ∧ sc ≤ 59) = true by simp; omega] at this
  have SY := Lib.hid (fun W => flipw (start_any y W (by omega) (by omega)))
  have LY := Lib.hid (fun W => leap_any y W (by omega))
  have hlp := Wh.lp_cases y
  generalize Wh.start y = S at *
  generalize Wh.bef j = v at *
  have i3 : (0 : Int) ≤ (j : Int) := by omega
  have i4 : (j : Int) < 13 := by omega
  have w1_ : IntKind.i64.wrap ((j : Int) + 1 - 1) = (j : Int) := by rw [show (j : Int) + 1 - 1 = j by omega]; exact IntWalk.i64_in _ (by omega)
  have w2_ : IntKind.i64.wrap (S + v) = S + v := IntWalk.i64_in _ (by omega)
  have w3_ : IntKind.i64.wrap (S + v + d) = S + v + d := IntWalk.i64_in _ (by omega)
  have w4_ : IntKind.i64.wrap (S + v + d - 1) = S + v + d - 1 := IntWalk.i64_in _ (by omega)
  have WW := Lib.hid (And.intro w1_ (And.intro w2_ (And.intro w3_ w4_)))
  clear w1_ w2_ w3_ w4_ hw
  by_cases hc : 2 ≤ j
  · rcases hlp with ⟨hl1, hl2⟩ | ⟨hl1, hl2⟩
    · have HVV : Hid (Wh.rdV s = (S + v + d - 1 + 1) * 86400 + (h * 3600 + mi * 60 + sc)) := by
        show _ = _
        rw [HV.out.1]
        unfold Wh.sec
        rw [hdn, hcm, if_pos (by omega), hl2]
        omega
      have L := Lib.hid hl1
      clear hdn hcm hl1 hl2
      go_enter Tryd.func14, Tryd.ntmps14
      go_wp2_with fail
      go_quiet ((go_at_call 25; first | with_reducible exact Calls.quiet_of_same (D0.out _) | with_reducible exact Calls.quiet_of_same (D5.out _) | with_reducible exact Calls.quiet_of_same (D8.out _)))
      replace hB := Lib.hid (below_drawn hB.out nq)
      go_wp2_with fail
      refine (DY.out _ (HT.out.to hB.out)).mono ?_
      rintro e w1 ⟨rfl, hb1⟩
      replace hB := Lib.hid (keep_trans hB.out hb1)
      clear hb1
      go_wp2_with fail
      go_quiet ((go_at_call 25; first | with_reducible exact Calls.quiet_of_same (D11.out _) | with_reducible exact Calls.quiet_of_same (D14.out _) | with_reducible exact Calls.quiet_of_same (D17.out _)))
      obtain ⟨wq, hwq⟩ : ∃ wq : World, wq = w1.drewN nq := ⟨_, rfl⟩
      replace hB := Lib.hid (show Below w.heap.size w wq from hwq ▸ below_drawn hB.out nq)
      rw [← hwq]
      clear hwq nq
      go_wp2_with fail
      refine (U0.out _).mono ?_
      rintro e _ ⟨rfl, rfl⟩
      go_wp2_with fail
      refine (U1.out _).mono ?_
      rintro e _ ⟨rfl, rfl⟩
      go_wp2_with fail
      refine (U2.out _).mono ?_
      rintro e _ ⟨rfl, rfl⟩
      have CC : wq.cell? ⟨0, j, none⟩ = some (.int .i64 v) := (hB.out.cell (p := ⟨0, j, none⟩) HT.out.lt).trans CB.out
      obtain ⟨w1_, w2_, w3_, w4_⟩ := WW.out
      go_wp2_with fail
      go_quiet ((go_at_call 27; with_reducible exact Calls.quiet_of_same (SY.out _)))
      clear w1_ w2_ w3_ w4_
      go_wp2_with fail
      refine (LY.out _).mono ?_
      rintro e _ ⟨rfl, rfl⟩
      rw [L.out]
      go_wp2_with fail
      go_ret2
      exact ⟨ret_ii (by first | exact HVV.out.symm | (rw [HVV.out]; omega)) HV.out.2.symm, below_drawn hB.out _⟩
    · have HVV : Hid (Wh.rdV s = (S + v + d - 1) * 86400 + (h * 3600 + mi * 60 + sc)) := by
        show _ = _
        rw [HV.out.1]
        unfold Wh.sec
        rw [hdn, hcm, if_pos (by omega), hl2]
        omega
      have L := Lib.hid hl1
      clear hdn hcm hl1 hl2
      go_enter Tryd.func14, Tryd.ntmps14
      go_wp2_with fail
      go_quiet ((go_at_call 25; first | with_reducible exact Calls.quiet_of_same (D0.out _) | with_reducible exact Calls.quiet_of_same (D5.out _) | with_reducible exact Calls.quiet_of_same (D8.out _)))
      replace hB := Lib.hid (below_drawn hB.out nq)
      go_wp2_with fail
      refine (DY.out _ (HT.out.to hB.out)).mono ?_
      rintro e w1 ⟨rfl, hb1⟩
      replace hB := Lib.hid (keep_trans hB.out hb1)
      clear hb1
      go_wp2_with fail
      go_quiet ((go_at_call 25; first | with_reducible exact Calls.quiet_of_same (D11.out _) | with_reducible exact Calls.quiet_of_same (D14.out _) | with_reducible exact Calls.quiet_of_same (D17.out _)))
      obtain ⟨wq, hwq⟩ : ∃ wq : World, wq = w1.drewN nq := ⟨_, rfl⟩
      replace hB := Lib.hid (show Below w.heap.size w wq from hwq ▸ below_drawn hB.out nq)
      rw [← hwq]
      clear hwq nq
      go_wp2_with fail
      refine (U0.out _).mono ?_
      rintro e _ ⟨rfl, rfl⟩
      go_wp2_with fail
      refine (U1.out _).mono ?_
      rintro e _ ⟨rfl, rfl⟩
      go_wp2_with fail
      refine (U2.out _).mono ?_
      rintro e _ ⟨rfl, rfl⟩
      have CC : wq.cell? ⟨0, j, none⟩ = some (.int .i64 v) := (hB.out.cell (p := ⟨0, j, none⟩) HT.out.lt).trans CB.out
      obtain ⟨w1_, w2_, w3_, w4_⟩ := WW.out
      go_wp2_with fail
      go_quiet ((go_at_call 27; with_reducible exact Calls.quiet_of_same (SY.out _)))
      clear w1_ w2_ w3_ w4_
      go_wp2_with fail
      refine (LY.out _).mono ?_
      rintro e _ ⟨rfl, rfl⟩
      rw [L.out]
      go_wp2_with fail
      go_ret2
      exact ⟨ret_ii (by first | exact HVV.out.symm | (rw [HVV.out]; omega)) HV.out.2.symm, below_drawn hB.out _⟩
  · have HVV : Hid (Wh.rdV s = (S + v + d - 1) * 86400 + (h * 3600 + mi * 60 + sc)) := by
      show _ = _
      rw [HV.out.1]
      unfold Wh.sec
      rw [hdn, hcm, if_neg (by omega)]
      omega
    clear hdn hcm hlp
    go_enter Tryd.func14, Tryd.ntmps14
    go_wp2_with fail
    go_quiet ((go_at_call 25; first | with_reducible exact Calls.quiet_of_same (D0.out _) | with_reducible exact Calls.quiet_of_same (D5.out _) | with_reducible exact Calls.quiet_of_same (D8.out _)))
    replace hB := Lib.hid (below_drawn hB.out nq)
    go_wp2_with fail
    refine (DY.out _ (HT.out.to hB.out)).mono ?_
    rintro e w1 ⟨rfl, hb1⟩
    replace hB := Lib.hid (keep_trans hB.out hb1)
    clear hb1
    go_wp2_with fail
    go_quiet ((go_at_call 25; first | with_reducible exact Calls.quiet_of_same (D11.out _) | with_reducible exact Calls.quiet_of_same (D14.out _) | with_reducible exact Calls.quiet_of_same (D17.out _)))
    obtain ⟨wq, hwq⟩ : ∃ wq : World, wq = w1.drewN nq := ⟨_, rfl⟩
    replace hB := Lib.hid (show Below w.heap.size w wq from hwq ▸ below_drawn hB.out nq)
    rw [← hwq]
    clear hwq nq
    go_wp2_with fail
    refine (U0.out _).mono ?_
    rintro e _ ⟨rfl, rfl⟩
    go_wp2_with fail
    refine (U1.out _).mono ?_
    rintro e _ ⟨rfl, rfl⟩
    go_wp2_with fail
    refine (U2.out _).mono ?_
    rintro e _ ⟨rfl, rfl⟩
    have CC : wq.cell? ⟨0, j, none⟩ = some (.int .i64 v) := (hB.out.cell (p := ⟨0, j, none⟩) HT.out.lt).trans CB.out
    obtain ⟨w1_, w2_, w3_, w4_⟩ := WW.out
    go_wp2_with fail
    go_quiet ((go_at_call 27; with_reducible exact Calls.quiet_of_same (SY.out _)))
    clear w1_ w2_ w3_ w4_
    go_wp2_with fail
    go_ret2
    exact ⟨ret_ii (by first | exact HVV.out.symm | (rw [HVV.out]; omega)) HV.out.2.symm, below_drawn hB.out _⟩
theorem read_any (s : ByteArray) (w : World) (hs : s.size ≤ maxLen) (hT : Tb w) :
    Calls Tryd.prog 14 #[.string s] w fun e w' => e = .returned (.tuple #[.int .i64 (Wh.rdV s), .int .i64 (Wh.rdE s)]) ∧ Below w.heap.size w w' := by
  cases h : Wh.good s with
  | true => exact read_yes s w hT h
  | false => exact read_no s w hs hT h
end Go.Proofs.YtmpbejiknejogaaDoor
