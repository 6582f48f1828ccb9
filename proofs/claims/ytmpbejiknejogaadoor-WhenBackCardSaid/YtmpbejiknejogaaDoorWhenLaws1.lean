/-
  The statements WhenReads, WhenShows, WhenMonths and WhenBack, walked: they return true.
-/
import Derived.Test.YtmpbejiknejogaaDoorWhenLoc
namespace Go.Proofs.YtmpbejiknejogaaDoor
set_option linter.unusedSimpArgs false
set_option linter.unusedVariables false
open Go Go.RowKit


set_option maxRecDepth 100000 in
set_option maxHeartbeats 4000000 in
theorem whenReads_walk (s : ByteArray) (w : World) (hs : s.size ≤ maxLen) (hT : Tb w) :
    Calls Tryd.prog 5 #[.string s] w fun e w' => e = .returned (.bool true) ∧ Below w.heap.size w w' := by
  have hB : Hid (Below w.heap.size w w) := Below.refl _ _
  have HT := Lib.hid hT
  clear hT
  by_cases h : 3000 < s.size
  · go_enter Tryd.func5, Tryd.ntmps5
    go_wp2_with fail
    refine (wawake_any _ (HT.out.to hB.out)).mono ?_
    rintro e w1 ⟨rfl, hb1⟩
    replace hB := Lib.hid (keep_trans hB.out hb1)
    clear hb1
    go_wp2_with fail
    go_ret
    exact ⟨rfl, hB.out⟩
  go_enter Tryd.func5, Tryd.ntmps5
  go_wp2_with fail
  refine (read_any s _ hs (HT.out.to hB.out)).mono ?_
  rintro e w1 ⟨rfl, hb1⟩
  replace hB := Lib.hid (keep_trans hB.out hb1)
  clear hb1
  go_wp2_with fail
  refine (rread_any s _ hs).mono ?_
  rintro e w1 ⟨rfl, hb1⟩
  replace hB := Lib.hid (keep_trans hB.out hb1)
  clear hb1
  go_wp2_with fail
  refine (wawake_any _ (HT.out.to hB.out)).mono ?_
  rintro e w1 ⟨rfl, hb1⟩
  replace hB := Lib.hid (keep_trans hB.out hb1)
  clear hb1
  go_wp2_with fail
  go_ret
  exact ⟨rfl, hB.out⟩

set_option maxRecDepth 100000 in
set_option maxHeartbeats 4000000 in
theorem whenShows_walk (n : Int) (w : World)  (hT : Tb w) :
    Calls Tryd.prog 6 #[.int .i64 n] w fun e w' => e = .returned (.bool true) ∧ Below w.heap.size w w' := by
  have hB : Hid (Below w.heap.size w w) := Below.refl _ _
  have HT := Lib.hid hT
  clear hT
  by_cases h : n < 0 ∨ 253402300799 < n
  · go_enter Tryd.func6, Tryd.ntmps6
    go_wp2_with fail
    refine (show_no n _ h).mono ?_
    rintro e _ ⟨rfl, rfl⟩
    go_wp2_with fail
    refine (rshow_no n _ h).mono ?_
    rintro e _ ⟨rfl, rfl⟩
    go_wp2_with fail
    refine (wawake_any _ (HT.out.to hB.out)).mono ?_
    rintro e w1 ⟨rfl, hb1⟩
    replace hB := Lib.hid (keep_trans hB.out hb1)
    clear hb1
    go_wp2_with fail
    go_ret
    exact ⟨rfl, hB.out⟩
  obtain ⟨y, m, d, hd, hn⟩ := Wh.day_of (n / 86400) (by omega) (by omega)
  have C1 := Lib.hid (fun W (h : Tb W) => show_any n y m d W h (by omega) (by omega) hd hn)
  have C2 := Lib.hid (fun W => rshow_any n y m d W (by omega) (by omega) hd hn)
  clear hd hn h
  go_enter Tryd.func6, Tryd.ntmps6
  go_wp2_with fail
  refine (C1.out _ (HT.out.to hB.out)).mono ?_
  rintro e w1 ⟨rfl, hb1⟩
  replace hB := Lib.hid (keep_trans hB.out hb1)
  clear hb1
  go_wp2_with fail
  refine (C2.out _).mono ?_
  rintro e w1 ⟨rfl, hb1⟩
  replace hB := Lib.hid (keep_trans hB.out hb1)
  clear hb1
  go_wp2_with fail
  refine (wawake_any _ (HT.out.to hB.out)).mono ?_
  rintro e w1 ⟨rfl, hb1⟩
  replace hB := Lib.hid (keep_trans hB.out hb1)
  clear hb1
  go_wp2_with fail
  go_ret
  exact ⟨rfl, hB.out⟩

set_option maxRecDepth 100000 in
set_option maxHeartbeats 4000000 in
theorem whenMonths_walk (y m : Int) (w : World)  (hT : Tb w) :
    Calls Tryd.prog 7 #[.int .i64 y, .int .i64 m] w fun e w' => e = .returned (.bool true) ∧ Below w.heap.size w w' := by
  have hB : Hid (Below w.heap.size w w) := Below.refl _ _
  have HT := Lib.hid hT
  clear hT
  go_enter Tryd.func7, Tryd.ntmps7
  go_wp2_with fail
  refine (days_any y m _ (HT.out.to hB.out)).mono ?_
  rintro e w1 ⟨rfl, hb1⟩
  replace hB := Lib.hid (keep_trans hB.out hb1)
  clear hb1
  go_wp2_with fail
  refine (rdays_any y m _).mono ?_
  rintro e _ ⟨rfl, rfl⟩
  go_wp2_with fail
  refine (wawake_any _ (HT.out.to hB.out)).mono ?_
  rintro e w1 ⟨rfl, hb1⟩
  replace hB := Lib.hid (keep_trans hB.out hb1)
  clear hb1
  go_wp2_with fail
  go_ret
  exact ⟨rfl, hB.out⟩

set_option maxRecDepth 100000 in
set_option maxHeartbeats 4000000 in
theorem whenBack_walk (n m : Int) (s : ByteArray) (w : World) (hs : s.size ≤ maxLen) (hT : Tb w) :
    Calls Tryd.prog 9 #[.int .i64 n, .int .i64 m, .string s] w fun e w' => e = .returned (.bool true) ∧ Below w.heap.size w w' := by
  have hB : Hid (Below w.heap.size w w) := Below.refl _ _
  have HT := Lib.hid hT
  clear hT
  by_cases h : 3000 < s.size
  · go_enter Tryd.func9, Tryd.ntmps9
    go_wp2_with fail
    refine (wawake_any _ (HT.out.to hB.out)).mono ?_
    rintro e w1 ⟨rfl, hb1⟩
    replace hB := Lib.hid (keep_trans hB.out hb1)
    clear hb1
    go_wp2_with fail
    go_ret
    exact ⟨rfl, hB.out⟩
  by_cases hn0 : n < 0
  · have hn := hn0
    cases hg : Wh.good s with
    | false =>
      have R := Lib.hid (Wh.rd_no hg)
      clear hg
      go_enter Tryd.func9, Tryd.ntmps9
      go_wp2_with fail
      refine (wawake_any _ (HT.out.to hB.out)).mono ?_
      rintro e w1 ⟨rfl, hb1⟩
      replace hB := Lib.hid (keep_trans hB.out hb1)
      clear hb1
      go_wp2_with fail
      refine (show_no n _ (.inl hn)).mono ?_
      rintro e _ ⟨rfl, rfl⟩
      go_wp2_with fail
      refine (read_any s _ hs (HT.out.to hB.out)).mono ?_
      rintro e w1 ⟨rfl, hb1⟩
      rw [R.out.1, R.out.2]
      replace hB := Lib.hid (keep_trans hB.out hb1)
      clear hb1
      go_wp2_with fail
      go_ret
      exact ⟨rfl, hB.out⟩
    | true =>
      obtain ⟨v1, v2, v3, v4, v5⟩ := Wh.txn_rd hg
      have RE : Wh.rdE s = 0 := by unfold Wh.rdE; rw [hg]; rfl
      have SB := Lib.hid (fun W (h : Tb W) => show_any (Wh.rdV s) _ _ _ W h v4 v5 v1 v2)
      rw [← v3] at SB
      have RS := Lib.hid (fun W (h : Tb W) => read_any s W hs h)
      rw [RE] at RS
      have OV := Lib.hid (fun W => over_any n m W)
      clear hg v1 v2 v3 RE
      generalize Wh.rdV s = k at *
      go_enter Tryd.func9, Tryd.ntmps9
      go_wp2_with fail
      refine (wawake_any _ (HT.out.to hB.out)).mono ?_
      rintro e w1 ⟨rfl, hb1⟩
      replace hB := Lib.hid (keep_trans hB.out hb1)
      clear hb1
      go_wp2_with fail
      refine (show_no n _ (.inl hn)).mono ?_
      rintro e _ ⟨rfl, rfl⟩
      go_wp2_with fail
      refine (RS.out _ (HT.out.to hB.out)).mono ?_
      rintro e w1 ⟨rfl, hb1⟩
      replace hB := Lib.hid (keep_trans hB.out hb1)
      clear hb1
      go_wp2_with fail
      refine (SB.out _ (HT.out.to hB.out)).mono ?_
      rintro e w1 ⟨rfl, hb1⟩
      replace hB := Lib.hid (keep_trans hB.out hb1)
      clear hb1
      go_wp2_with fail
      refine (OV.out _).mono ?_
      rintro e _ ⟨rfl, rfl⟩
      go_wp2_with fail
      go_ret
      exact ⟨rfl, hB.out⟩
  by_cases hn1 : 253402300799 < n
  · have hn := hn1
    cases hg : Wh.good s with
    | false =>
      have R := Lib.hid (Wh.rd_no hg)
      clear hg
      go_enter Tryd.func9, Tryd.ntmps9
      go_wp2_with fail
      refine (wawake_any _ (HT.out.to hB.out)).mono ?_
      rintro e w1 ⟨rfl, hb1⟩
      replace hB := Lib.hid (keep_trans hB.out hb1)
      clear hb1
      go_wp2_with fail
      refine (show_no n _ (.inr hn)).mono ?_
      rintro e _ ⟨rfl, rfl⟩
      go_wp2_with fail
      refine (read_any s _ hs (HT.out.to hB.out)).mono ?_
      rintro e w1 ⟨rfl, hb1⟩
      rw [R.out.1, R.out.2]
      replace hB := Lib.hid (keep_trans hB.out hb1)
      clear hb1
      go_wp2_with fail
      go_ret
      exact ⟨rfl, hB.out⟩
    | true =>
      obtain ⟨v1, v2, v3, v4, v5⟩ := Wh.txn_rd hg
      have RE : Wh.rdE s = 0 := by unfold Wh.rdE; rw [hg]; rfl
      have SB := Lib.hid (fun W (h : Tb W) => show_any (Wh.rdV s) _ _ _ W h v4 v5 v1 v2)
      rw [← v3] at SB
      have RS := Lib.hid (fun W (h : Tb W) => read_any s W hs h)
      rw [RE] at RS
      have OV := Lib.hid (fun W => over_any n m W)
      clear hg v1 v2 v3 RE
      generalize Wh.rdV s = k at *
      go_enter Tryd.func9, Tryd.ntmps9
      go_wp2_with fail
      refine (wawake_any _ (HT.out.to hB.out)).mono ?_
      rintro e w1 ⟨rfl, hb1⟩
      replace hB := Lib.hid (keep_trans hB.out hb1)
      clear hb1
      go_wp2_with fail
      refine (show_no n _ (.inr hn)).mono ?_
      rintro e _ ⟨rfl, rfl⟩
      go_wp2_with fail
      refine (RS.out _ (HT.out.to hB.out)).mono ?_
      rintro e w1 ⟨rfl, hb1⟩
      replace hB := Lib.hid (keep_trans hB.out hb1)
      clear hb1
      go_wp2_with fail
      refine (SB.out _ (HT.out.to hB.out)).mono ?_
      rintro e w1 ⟨rfl, hb1⟩
      replace hB := Lib.hid (keep_trans hB.out hb1)
      clear hb1
      go_wp2_with fail
      refine (OV.out _).mono ?_
      rintro e _ ⟨rfl, rfl⟩
      go_wp2_with fail
      go_ret
      exact ⟨rfl, hB.out⟩
  obtain ⟨y, mo, d, hd, hnn⟩ := Wh.day_of (n / 86400) (by omega) (by omega)
  have C1 := Lib.hid (fun W (h : Tb W) => show_any n y mo d W h (by omega) (by omega) hd hnn)
  have RT := Wh.rd_txn hd (n := n) (by omega) hnn
  have RD := Lib.hid (fun W (h : Tb W) => read_any (Wh.txn y mo d n) W (by unfold Wh.txn; rw [Wh.tx_size]; decide) h)
  rw [RT.1, RT.2] at RD
  have hz20 : (Wh.txn y mo d n).size = 20 := by unfold Wh.txn; rw [Wh.tx_size]
  clear hd hnn RT
  generalize Wh.txn y mo d n = t at *
  have nz : ((t.size : Int) != 20) = false := by rw [bne_eq_false_iff_eq]; omega
  have nz2 : ((t.size : Int) == 20) = true := by rw [beq_iff_eq]; omega
  clear hz20
  cases hg : Wh.good s with
  | false =>
    have R := Lib.hid (Wh.rd_no hg)
    clear hg
    go_enter Tryd.func9, Tryd.ntmps9
    go_wp2_with fail
    refine (wawake_any _ (HT.out.to hB.out)).mono ?_
    rintro e w1 ⟨rfl, hb1⟩
    replace hB := Lib.hid (keep_trans hB.out hb1)
    clear hb1
    go_wp2_with fail
    refine (C1.out _ (HT.out.to hB.out)).mono ?_
    rintro e w1 ⟨rfl, hb1⟩
    replace hB := Lib.hid (keep_trans hB.out hb1)
    clear hb1
    go_wp2_with fail
    refine (RD.out _ (HT.out.to hB.out)).mono ?_
    rintro e w1 ⟨rfl, hb1⟩
    replace hB := Lib.hid (keep_trans hB.out hb1)
    clear hb1
    go_wp2_with fail
    refine (read_any s _ hs (HT.out.to hB.out)).mono ?_
    rintro e w1 ⟨rfl, hb1⟩
    rw [R.out.1, R.out.2]
    replace hB := Lib.hid (keep_trans hB.out hb1)
    clear hb1
    go_wp2_with fail
    go_ret
    exact ⟨rfl, hB.out⟩
  | true =>
    obtain ⟨v1, v2, v3, v4, v5⟩ := Wh.txn_rd hg
    have RE : Wh.rdE s = 0 := by unfold Wh.rdE; rw [hg]; rfl
    have SB := Lib.hid (fun W (h : Tb W) => show_any (Wh.rdV s) _ _ _ W h v4 v5 v1 v2)
    rw [← v3] at SB
    have RS := Lib.hid (fun W (h : Tb W) => read_any s W hs h)
    rw [RE] at RS
    have OV := Lib.hid (fun W => over_any n m W)
    clear hg v1 v2 v3 RE
    generalize Wh.rdV s = k at *
    go_enter Tryd.func9, Tryd.ntmps9
    go_wp2_with fail
    refine (wawake_any _ (HT.out.to hB.out)).mono ?_
    rintro e w1 ⟨rfl, hb1⟩
    replace hB := Lib.hid (keep_trans hB.out hb1)
    clear hb1
    go_wp2_with fail
    refine (C1.out _ (HT.out.to hB.out)).mono ?_
    rintro e w1 ⟨rfl, hb1⟩
    replace hB := Lib.hid (keep_trans hB.out hb1)
    clear hb1
    go_wp2_with fail
    refine (RD.out _ (HT.out.to hB.out)).mono ?_
    rintro e w1 ⟨rfl, hb1⟩
    replace hB := Lib.hid (keep_trans hB.out hb1)
    clear hb1
    go_wp2_with fail
    refine (RS.out _ (HT.out.to hB.out)).mono ?_
    rintro e w1 ⟨rfl, hb1⟩
    replace hB := Lib.hid (keep_trans hB.out hb1)
    clear hb1
    go_wp2_with fail
    refine (SB.out _ (HT.out.to hB.out)).mono ?_
    rintro e w1 ⟨rfl, hb1⟩
    replace hB := Lib.hid (keep_trans hB.out hb1)
    clear hb1
    go_wp2_with fail
    refine (OV.out _).mono ?_
    rintro e _ ⟨rfl, rfl⟩
    go_wp2_with fail
    go_ret
    exact ⟨rfl, hB.out⟩
end Go.Proofs.YtmpbejiknejogaaDoor
