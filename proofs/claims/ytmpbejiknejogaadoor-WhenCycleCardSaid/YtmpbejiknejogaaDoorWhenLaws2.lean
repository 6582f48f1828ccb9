/-
  The statements WhenOrder and WhenCycle, walked: it returns true.
-/
import Derived.Test.YtmpbejiknejogaaDoorWhenLaw
namespace Go.Proofs.YtmpbejiknejogaaDoor
set_option linter.unusedSimpArgs false
set_option linter.unusedVariables false
open Go Go.RowKit


set_option maxRecDepth 100000 in
set_option maxHeartbeats 4000000 in
theorem whenOrder_walk (a b : Int) (w : World)  (hT : Tb w) :
    Calls Tryd.prog 10 #[.int .i64 a, .int .i64 b] w fun e w' => e = .returned (.bool true) ∧ Below w.heap.size w w' := by
  have hB : Hid (Below w.heap.size w w) := Below.refl _ _
  have HT := Lib.hid hT
  clear hT
  by_cases h0 : a < 0
  · go_enter Tryd.func10, Tryd.ntmps10
    go_wp2_with fail
    refine (wawake_any _ (HT.out.to hB.out)).mono ?_
    rintro e w1 ⟨rfl, hb1⟩
    replace hB := Lib.hid (keep_trans hB.out hb1)
    clear hb1
    go_wp2_with fail
    go_ret
    exact ⟨rfl, hB.out⟩
  by_cases h1 : 253402300799 < a
  · go_enter Tryd.func10, Tryd.ntmps10
    go_wp2_with fail
    refine (wawake_any _ (HT.out.to hB.out)).mono ?_
    rintro e w1 ⟨rfl, hb1⟩
    replace hB := Lib.hid (keep_trans hB.out hb1)
    clear hb1
    go_wp2_with fail
    go_ret
    exact ⟨rfl, hB.out⟩
  by_cases h2 : b < 0
  · go_enter Tryd.func10, Tryd.ntmps10
    go_wp2_with fail
    refine (wawake_any _ (HT.out.to hB.out)).mono ?_
    rintro e w1 ⟨rfl, hb1⟩
    replace hB := Lib.hid (keep_trans hB.out hb1)
    clear hb1
    go_wp2_with fail
    go_ret
    exact ⟨rfl, hB.out⟩
  by_cases h3 : 253402300799 < b
  · go_enter Tryd.func10, Tryd.ntmps10
    go_wp2_with fail
    refine (wawake_any _ (HT.out.to hB.out)).mono ?_
    rintro e w1 ⟨rfl, hb1⟩
    replace hB := Lib.hid (keep_trans hB.out hb1)
    clear hb1
    go_wp2_with fail
    go_ret
    exact ⟨rfl, hB.out⟩
  obtain ⟨y, m, d, hd, hn⟩ := Wh.day_of (a / 86400) (by omega) (by omega)
  obtain ⟨y', m', d', hd', hn'⟩ := Wh.day_of (b / 86400) (by omega) (by omega)
  have C1 := Lib.hid (fun W (h : Tb W) => show_any a y m d W h (by omega) (by omega) hd hn)
  have C2 := Lib.hid (fun W (h : Tb W) => show_any b y' m' d' W h (by omega) (by omega) hd' hn')
  obtain ⟨o1, o2⟩ := Wh.txn_order hd hd' hn hn' (by omega) (by omega)
  clear hd hn hd' hn'
  generalize Wh.txn y m d a = s at *
  generalize Wh.txn y' m' d' b = t at *
  go_enter Tryd.func10, Tryd.ntmps10
  go_wp2_with fail
  refine (wawake_any _ (HT.out.to hB.out)).mono ?_
  rintro e w1 ⟨rfl, hb1⟩
  replace hB := Lib.hid (keep_trans hB.out hb1)
  clear hb1
  go_wp2_with fail
  refine (C1.out _ (HT.out.to hB.out)).mono ?_
  rintro e w1 ⟨rfl, hb1⟩
  replace hB := Lib.hid (keep_trans hB.out hb1)
  clear hb1
  go_wp2_with fail
  refine (C2.out _ (HT.out.to hB.out)).mono ?_
  rintro e w1 ⟨rfl, hb1⟩
  replace hB := Lib.hid (keep_trans hB.out hb1)
  clear hb1
  go_wp2_with fail
  go_ret
  exact ⟨rfl, hB.out⟩

set_option maxRecDepth 100000 in
set_option maxHeartbeats 4000000 in
theorem whenCycle_walk (n : Int) (w : World)  (hT : Tb w) :
    Calls Tryd.prog 4 #[.int .i64 n] w fun e w' => e = .returned (.bool true) ∧ Below w.heap.size w w' := by
  have hB : Hid (Below w.heap.size w w) := Below.refl _ _
  have HT := Lib.hid hT
  clear hT
  by_cases h0 : n < 0
  · go_enter Tryd.func4, Tryd.ntmps4
    go_wp2_with fail
    refine (wawake_any _ (HT.out.to hB.out)).mono ?_
    rintro e w1 ⟨rfl, hb1⟩
    replace hB := Lib.hid (keep_trans hB.out hb1)
    clear hb1
    go_wp2_with fail
    go_ret
    exact ⟨rfl, hB.out⟩
  by_cases h1 : 240779519999 < n
  · go_enter Tryd.func4, Tryd.ntmps4
    go_wp2_with fail
    refine (wawake_any _ (HT.out.to hB.out)).mono ?_
    rintro e w1 ⟨rfl, hb1⟩
    replace hB := Lib.hid (keep_trans hB.out hb1)
    clear hb1
    go_wp2_with fail
    go_ret
    exact ⟨rfl, hB.out⟩
  obtain ⟨y, m, d, hd, hn⟩ := Wh.day_of (n / 86400) (by omega) (by omega)
  have C1 := Lib.hid (fun W (h : Tb W) => show_any n y m d W h (by omega) (by omega) hd hn)
  obtain ⟨hd2, hn2⟩ := Wh.vd_400 hd (by omega)
  have C2 := Lib.hid (fun W (h : Tb W) => show_any (n + 12622780800) (y + 400) m d W h (by omega) (by omega) hd2 (by omega))
  have ht := (Wh.sec_back hd (by omega) hn).1
  have hnb := (Wh.tx_nb hd ht).1
  have htx : Wh.txn (y + 400) m d (n + 12622780800) = Wh.dg (y + 400) 4 ++ (Wh.txn y m d n).extract 4 (Wh.txn y m d n).size := by
    unfold Wh.txn
    rw [show (n + 12622780800) % 86400 = n % 86400 by omega]
    exact Wh.tx_tail4 _ _ _ _ _ _ _
  have hz20 : (Wh.txn y m d n).size = 20 := by unfold Wh.txn; rw [Wh.tx_size]
  have hnb2 : Wh.nb (Wh.txn y m d n) 0 4 = y := hnb
  have q1 := hd.y1; have q2 := hd.y2
  have hy4 := hd2.y2
  have N1 := Lib.hid (fun W => number_any (Wh.txn y m d n) 0 4 0 4 W rfl rfl (by omega) (by omega) (by omega))
  rw [hnb2] at N1
  have T1 := Lib.hid (fun W => text_any (y + 400) 4 4 W rfl (by omega) (by omega) (by omega))
  rw [htx] at C2
  have hg4 := Wh.dg_size (y + 400) 4
  have hg4' : (Wh.dg (y + 400) 4).size ≤ 4 := by omega
  clear hd hn hd2 hn2 ht hnb hnb2 htx hg4
  generalize Wh.dg (y + 400) 4 = g at *
  generalize Wh.txn y m d n = s at *
  have hz1 : 20 ≤ s.size := by omega
  have hz2 : s.size ≤ 20 := by omega
  have nz : ((s.size : Int) == 20) = true := by rw [beq_iff_eq]; omega
  clear hz20
  have NB : Hid (∀ W, Calls Tryd.prog 17 #[.string s, .int .i64 0, .int .i64 4] W fun e w' => e = .returned (.int .i64 y) ∧ Below W.heap.size W w') := fun W => (N1.out W).mono fun _ _ ⟨a, b⟩ => ⟨a, b ▸ Below.refl _ _⟩
  have hw400 : IntKind.i64.wrap (y + 400) = y + 400 := IntWalk.i64_in _ (by omega)
  have WW := Lib.hid hw400
  clear hw400
  go_enter Tryd.func4, Tryd.ntmps4
  go_wp2_with fail
  refine (wawake_any _ (HT.out.to hB.out)).mono ?_
  rintro e w1 ⟨rfl, hb1⟩
  replace hB := Lib.hid (keep_trans hB.out hb1)
  clear hb1
  go_wp2_with fail
  refine (C1.out _ (HT.out.to hB.out)).mono ?_
  rintro e w1 ⟨rfl, hb1⟩
  replace hB := Lib.hid (keep_trans hB.out hb1)
  clear hb1
  go_wp2_with fail
  refine (C2.out _ (HT.out.to hB.out)).mono ?_
  rintro e w1 ⟨rfl, hb1⟩
  replace hB := Lib.hid (keep_trans hB.out hb1)
  clear hb1
  go_wp2_with fail
  have hw400 := WW.out
  refine wp_region_quiet_below (by kernel_rfl) (by kernel_rfl) ?_
  repeat (go_big_quiet_step (first | (go_at_call 17; with_reducible exact Calls.regrown_of (NB.out _)) | (go_at_call 15; with_reducible exact Calls.regrown_of (T1.out _))))
  refine wpQuiet_nil ?_
  intro _ hw'
  obtain ⟨⟨dq, osq⟩, hw''⟩ := hw'
  subst hw''
  replace hB := Lib.hid (hB.out.trans ((below_regrown w1 dq osq).mono hB.out.size))
  go_wp2_with fail
  go_ret
  exact ⟨rfl, hB.out⟩
end Go.Proofs.YtmpbejiknejogaaDoor
