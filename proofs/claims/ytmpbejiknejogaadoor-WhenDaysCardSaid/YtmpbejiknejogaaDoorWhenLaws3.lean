/-
  The statement WhenDays, walked: it returns true.
-/
import Derived.Test.YtmpbejiknejogaaDoorWhenLaw
namespace Go.Proofs.YtmpbejiknejogaaDoor
set_option linter.unusedSimpArgs false
set_option linter.unusedVariables false
open Go Go.RowKit


set_option maxRecDepth 100000 in
set_option maxHeartbeats 4000000 in
theorem whenDays_walk (n : Int) (w : World)  (hT : Tb w) :
    Calls Tryd.prog 11 #[.int .i64 n] w fun e w' => e = .returned (.bool true) ∧ Below w.heap.size w w' := by
  have hB : Hid (Below w.heap.size w w) := Below.refl _ _
  have HT := Lib.hid hT
  clear hT
  by_cases h0 : n < 0
  · go_enter Tryd.func11, Tryd.ntmps11
    go_wp2_with fail
    refine (wawake_any _ (HT.out.to hB.out)).mono ?_
    rintro e w1 ⟨rfl, hb1⟩
    replace hB := Lib.hid (keep_trans hB.out hb1)
    clear hb1
    go_wp2_with fail
    go_ret
    exact ⟨rfl, hB.out⟩
  by_cases h1 : 253402214399 < n
  · go_enter Tryd.func11, Tryd.ntmps11
    go_wp2_with fail
    refine (wawake_any _ (HT.out.to hB.out)).mono ?_
    rintro e w1 ⟨rfl, hb1⟩
    replace hB := Lib.hid (keep_trans hB.out hb1)
    clear hb1
    go_wp2_with fail
    go_ret
    exact ⟨rfl, hB.out⟩
  obtain ⟨y, m, d, hd, hn⟩ := Wh.day_of (n / 86400) (by omega) (by omega)
  have C1 := Lib.hid (fun W (h : Tb W) => show_any n y m d W h (by omega) (by omega) hd hn)
  have ht := (Wh.sec_back hd (by omega) hn).1
  obtain ⟨b0, b1, b2, b3, b4, b5⟩ := Wh.tx_nb hd ht
  have hz20 : (Wh.txn y m d n).size = 20 := by unfold Wh.txn; rw [Wh.tx_size]
  have N0 := Lib.hid (fun W => number_any (Wh.txn y m d n) 0 4 0 4 W rfl rfl (by omega) (by omega) (by omega))
  have N1 := Lib.hid (fun W => number_any (Wh.txn y m d n) 5 2 5 7 W rfl rfl (by omega) (by omega) (by omega))
  have N2 := Lib.hid (fun W => number_any (Wh.txn y m d n) 8 2 8 10 W rfl rfl (by omega) (by omega) (by omega))
  have N3 := Lib.hid (fun W => number_any (Wh.txn y m d n) 11 2 11 13 W rfl rfl (by omega) (by omega) (by omega))
  have N4 := Lib.hid (fun W => number_any (Wh.txn y m d n) 14 2 14 16 W rfl rfl (by omega) (by omega) (by omega))
  have N5 := Lib.hid (fun W => number_any (Wh.txn y m d n) 17 2 17 19 W rfl rfl (by omega) (by omega) (by omega))
  rw [show Wh.nb (Wh.txn y m d n) 0 4 = y from b0] at N0
  rw [show Wh.nb (Wh.txn y m d n) 5 2 = m from b1] at N1
  rw [show Wh.nb (Wh.txn y m d n) 8 2 = d from b2] at N2
  rw [show Wh.nb (Wh.txn y m d n) 11 2 = n % 86400 / 3600 from b3] at N3
  rw [show Wh.nb (Wh.txn y m d n) 14 2 = n % 86400 / 60 % 60 from b4] at N4
  rw [show Wh.nb (Wh.txn y m d n) 17 2 = n % 86400 % 60 from b5] at N5
  obtain ⟨r, hr⟩ : ∃ r, n % 86400 = r := ⟨_, rfl⟩
  rw [hr] at N3 N4 N5
  have hrb : 0 ≤ r ∧ r ≤ 86399 := by omega
  have q1 := hd.y1; have q2 := hd.y2; have q3 := hd.m1; have q4 := hd.m2; have q5 := hd.d1; have q6 := hd.d2; have q7 := Wh.dim_bd y m
  have DM := Lib.hid (fun W (h : Tb W) => days_any y m W h)
  have nr : ((r / 3600 * 3600 + r / 60 % 60 * 60 + r % 60) != r) = false := by rw [bne_eq_false_iff_eq]; omega
  have tail := fun y' m' d' => Wh.tx_tail10 y m d (n % 86400 / 3600) (n % 86400 / 60 % 60) (n % 86400 % 60) y' m' d'
  have tail2 : ∀ y' m' d', Wh.txn y' m' d' (n + 86400) = Wh.dg y' 4 ++ ⟨#[45]⟩ ++ Wh.dg m' 2 ++ ⟨#[45]⟩ ++ Wh.dg d' 2 ++ (Wh.txn y m d n).extract 10 (Wh.txn y m d n).size := fun y' m' d' => by
    unfold Wh.txn
    rw [show (n + 86400) % 86400 = n % 86400 by omega]
    exact tail y' m' d'
  have TL := Lib.hid tail2
  clear tail tail2
  have zg : ∀ k j, (Wh.dg k j).size ≤ j := fun k j => Nat.le_of_eq (Wh.dg_size k j)
  have ZG := Lib.hid zg
  clear zg b0 b1 b2 b3 b4 b5 ht
  rcases Wh.vd_next hd (by omega) with ⟨c1, c2, c3⟩ | ⟨c1, c2, c3, c4⟩ | ⟨c1, c2, c3, c4⟩
  · have C2 := Lib.hid (fun W (h : Tb W) => show_any (n + 86400) y m (d + 1) W h (by omega) (by omega) c2 (by omega))
    rw [TL.out] at C2
    have e1 := c2.y1; have e2 := c2.y2; have e3 := c2.m1; have e4 := c2.m2; have e5 := c2.d1; have e6 := c2.d2; have e7 := Wh.dim_bd y m
    have T1 := Lib.hid (fun W => text_any y 4 4 W rfl (by omega) (by omega) (by omega))
    have T2 := Lib.hid (fun W => text_any m 2 2 W rfl (by omega) (by omega) (by omega))
    have T3 := Lib.hid (fun W => text_any (d + 1) 2 2 W rfl (by omega) (by omega) (by omega))
    have z1 := ZG.out y 4
    have z2 := ZG.out m 2
    have z3 := ZG.out (d + 1) 2
    clear e6 e7 c2 c3 hd hn
    generalize Wh.dim y m = dm at *
    generalize Wh.dg y 4 = g1 at *
    generalize Wh.dg m 2 = g2 at *
    generalize Wh.dg (d + 1) 2 = g3 at *
    generalize Wh.txn y m d n = s at *
    have hz1 : 20 ≤ s.size := by omega
    have hz2 : s.size ≤ 20 := by omega
    have nz : ((s.size : Int) != 20) = false := by rw [bne_eq_false_iff_eq]; omega
    clear hz20
    go_enter Tryd.func11, Tryd.ntmps11
    go_wp2_with fail
    refine (wawake_any _ (HT.out.to hB.out)).mono ?_
    rintro e w1 ⟨rfl, hb1⟩
    replace hB := Lib.hid (keep_trans hB.out hb1)
    clear hb1
    go_wp2_with fail
    refine (C1.out _ (HT.out.to hB.out)).mono ?_
    rintro e w1 ⟨rfl, hb1⟩
    replace hB := Lib.hid (keep_trans hB.out hb1)
    clear hb1
    go_wp2_with fail
    refine (C2.out _ (HT.out.to hB.out)).mono ?_
    rintro e w1 ⟨rfl, hb1⟩
    replace hB := Lib.hid (keep_trans hB.out hb1)
    clear hb1
    go_wp2_with fail
    refine (N3.out _).mono ?_
    rintro e _ ⟨rfl, rfl⟩
    go_wp2_with fail
    refine (N4.out _).mono ?_
    rintro e _ ⟨rfl, rfl⟩
    go_wp2_with fail
    refine (N5.out _).mono ?_
    rintro e _ ⟨rfl, rfl⟩
    go_wp2_with fail
    refine (N0.out _).mono ?_
    rintro e _ ⟨rfl, rfl⟩
    go_wp2_with fail
    refine (N1.out _).mono ?_
    rintro e _ ⟨rfl, rfl⟩
    go_wp2_with fail
    refine (N2.out _).mono ?_
    rintro e _ ⟨rfl, rfl⟩
    go_wp2_with fail
    refine (DM.out _ (HT.out.to hB.out)).mono ?_
    rintro e w1 ⟨rfl, hb1⟩
    replace hB := Lib.hid (keep_trans hB.out hb1)
    clear hb1
    go_wp2_with fail
    refine wp_region_quiet_below (by kernel_rfl) (by kernel_rfl) ?_
    repeat (go_big_quiet_step ((go_at_call 15; first | with_reducible exact Calls.regrown_of (T1.out _) | with_reducible exact Calls.regrown_of (T2.out _) | with_reducible exact Calls.regrown_of (T3.out _))))
    refine wpQuiet_nil ?_
    intro _ hw'
    obtain ⟨⟨dq, osq⟩, hw''⟩ := hw'
    subst hw''
    replace hB := Lib.hid (hB.out.trans ((below_regrown w1 dq osq).mono hB.out.size))
    go_wp2_with fail
    go_ret
    exact ⟨rfl, hB.out⟩
  · have C2 := Lib.hid (fun W (h : Tb W) => show_any (n + 86400) y (m + 1) 1 W h (by omega) (by omega) c3 (by omega))
    rw [TL.out] at C2
    have e1 := c3.y1; have e2 := c3.y2; have e3 := c3.m1; have e4 := c3.m2; have e5 := c3.d1; have e6 := c3.d2; have e7 := Wh.dim_bd y (m + 1)
    have T1 := Lib.hid (fun W => text_any y 4 4 W rfl (by omega) (by omega) (by omega))
    have T2 := Lib.hid (fun W => text_any (m + 1) 2 2 W rfl (by omega) (by omega) (by omega))
    have T3 := Lib.hid (fun W => text_any 1 2 2 W rfl (by omega) (by omega) (by omega))
    have z1 := ZG.out y 4
    have z2 := ZG.out (m + 1) 2
    have z3 := ZG.out 1 2
    clear e6 e7 c3 c4 hd hn
    generalize Wh.dim y m = dm at *
    generalize Wh.dg y 4 = g1 at *
    generalize Wh.dg (m + 1) 2 = g2 at *
    generalize Wh.dg 1 2 = g3 at *
    generalize Wh.txn y m d n = s at *
    have hz1 : 20 ≤ s.size := by omega
    have hz2 : s.size ≤ 20 := by omega
    have nz : ((s.size : Int) != 20) = false := by rw [bne_eq_false_iff_eq]; omega
    clear hz20
    have hdl : ¬ d < dm := by omega
    clear c1
    go_enter Tryd.func11, Tryd.ntmps11
    go_wp2_with fail
    refine (wawake_any _ (HT.out.to hB.out)).mono ?_
    rintro e w1 ⟨rfl, hb1⟩
    replace hB := Lib.hid (keep_trans hB.out hb1)
    clear hb1
    go_wp2_with fail
    refine (C1.out _ (HT.out.to hB.out)).mono ?_
    rintro e w1 ⟨rfl, hb1⟩
    replace hB := Lib.hid (keep_trans hB.out hb1)
    clear hb1
    go_wp2_with fail
    refine (C2.out _ (HT.out.to hB.out)).mono ?_
    rintro e w1 ⟨rfl, hb1⟩
    replace hB := Lib.hid (keep_trans hB.out hb1)
    clear hb1
    go_wp2_with fail
    refine (N3.out _).mono ?_
    rintro e _ ⟨rfl, rfl⟩
    go_wp2_with fail
    refine (N4.out _).mono ?_
    rintro e _ ⟨rfl, rfl⟩
    go_wp2_with fail
    refine (N5.out _).mono ?_
    rintro e _ ⟨rfl, rfl⟩
    go_wp2_with fail
    refine (N0.out _).mono ?_
    rintro e _ ⟨rfl, rfl⟩
    go_wp2_with fail
    refine (N1.out _).mono ?_
    rintro e _ ⟨rfl, rfl⟩
    go_wp2_with fail
    refine (N2.out _).mono ?_
    rintro e _ ⟨rfl, rfl⟩
    go_wp2_with fail
    refine (DM.out _ (HT.out.to hB.out)).mono ?_
    rintro e w1 ⟨rfl, hb1⟩
    replace hB := Lib.hid (keep_trans hB.out hb1)
    clear hb1
    go_wp2_with fail
    refine wp_region_quiet_below (by kernel_rfl) (by kernel_rfl) ?_
    repeat (go_big_quiet_step ((go_at_call 15; first | with_reducible exact Calls.regrown_of (T1.out _) | with_reducible exact Calls.regrown_of (T2.out _) | with_reducible exact Calls.regrown_of (T3.out _))))
    refine wpQuiet_nil ?_
    intro _ hw'
    obtain ⟨⟨dq, osq⟩, hw''⟩ := hw'
    subst hw''
    replace hB := Lib.hid (hB.out.trans ((below_regrown w1 dq osq).mono hB.out.size))
    go_wp2_with fail
    go_ret
    exact ⟨rfl, hB.out⟩
  · have C2 := Lib.hid (fun W (h : Tb W) => show_any (n + 86400) (y + 1) 1 1 W h (by omega) (by omega) c3 (by omega))
    rw [TL.out] at C2
    have e1 := c3.y1; have e2 := c3.y2; have e3 := c3.m1; have e4 := c3.m2; have e5 := c3.d1; have e6 := c3.d2; have e7 := Wh.dim_bd (y + 1) 1
    have T1 := Lib.hid (fun W => text_any (y + 1) 4 4 W rfl (by omega) (by omega) (by omega))
    have T2 := Lib.hid (fun W => text_any 1 2 2 W rfl (by omega) (by omega) (by omega))
    have T3 := Lib.hid (fun W => text_any 1 2 2 W rfl (by omega) (by omega) (by omega))
    have z1 := ZG.out (y + 1) 4
    have z2 := ZG.out 1 2
    have z3 := ZG.out 1 2
    clear e6 e7 c3 c4 hd hn
    generalize Wh.dim y m = dm at *
    generalize Wh.dg (y + 1) 4 = g1 at *
    generalize Wh.dg 1 2 = g2 at *
    generalize Wh.txn y m d n = s at *
    have hz1 : 20 ≤ s.size := by omega
    have hz2 : s.size ≤ 20 := by omega
    have nz : ((s.size : Int) != 20) = false := by rw [bne_eq_false_iff_eq]; omega
    clear hz20
    have hm12 : ¬ m < 12 := by omega
    have hdl : ¬ d < dm := by omega
    clear c1 c2
    go_enter Tryd.func11, Tryd.ntmps11
    go_wp2_with fail
    refine (wawake_any _ (HT.out.to hB.out)).mono ?_
    rintro e w1 ⟨rfl, hb1⟩
    replace hB := Lib.hid (keep_trans hB.out hb1)
    clear hb1
    go_wp2_with fail
    refine (C1.out _ (HT.out.to hB.out)).mono ?_
    rintro e w1 ⟨rfl, hb1⟩
    replace hB := Lib.hid (keep_trans hB.out hb1)
    clear hb1
    go_wp2_with fail
    refine (C2.out _ (HT.out.to hB.out)).mono ?_
    rintro e w1 ⟨rfl, hb1⟩
    replace hB := Lib.hid (keep_trans hB.out hb1)
    clear hb1
    go_wp2_with fail
    refine (N3.out _).mono ?_
    rintro e _ ⟨rfl, rfl⟩
    go_wp2_with fail
    refine (N4.out _).mono ?_
    rintro e _ ⟨rfl, rfl⟩
    go_wp2_with fail
    refine (N5.out _).mono ?_
    rintro e _ ⟨rfl, rfl⟩
    go_wp2_with fail
    refine (N0.out _).mono ?_
    rintro e _ ⟨rfl, rfl⟩
    go_wp2_with fail
    refine (N1.out _).mono ?_
    rintro e _ ⟨rfl, rfl⟩
    go_wp2_with fail
    refine (N2.out _).mono ?_
    rintro e _ ⟨rfl, rfl⟩
    go_wp2_with fail
    refine (DM.out _ (HT.out.to hB.out)).mono ?_
    rintro e w1 ⟨rfl, hb1⟩
    replace hB := Lib.hid (keep_trans hB.out hb1)
    clear hb1
    go_wp2_with fail
    refine wp_region_quiet_below (by kernel_rfl) (by kernel_rfl) ?_
    repeat (go_big_quiet_step ((go_at_call 15; first | with_reducible exact Calls.regrown_of (T1.out _) | with_reducible exact Calls.regrown_of (T2.out _) | with_reducible exact Calls.regrown_of (T3.out _))))
    refine wpQuiet_nil ?_
    intro _ hw'
    obtain ⟨⟨dq, osq⟩, hw''⟩ := hw'
    subst hw''
    replace hB := Lib.hid (hB.out.trans ((below_regrown w1 dq osq).mono hB.out.size))
    go_wp2_with fail
    go_ret
    exact ⟨rfl, hB.out⟩
end Go.Proofs.YtmpbejiknejogaaDoor
