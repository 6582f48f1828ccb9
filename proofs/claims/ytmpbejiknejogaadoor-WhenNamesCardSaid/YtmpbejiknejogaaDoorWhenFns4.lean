/-
  The walk of Show of package when.
-/
import Derived.Test.YtmpbejiknejogaaDoorWhenFns2
namespace Go.Proofs.YtmpbejiknejogaaDoor
set_option linter.unusedSimpArgs false
set_option linter.unusedVariables false
open Go Go.RowKit


set_option maxHeartbeats 1000000 in
theorem show_no (n : Int) (w : World) (h : n < 0 ∨ 253402300799 < n) :
    Calls Tryd.prog 16 #[.int .i64 n] w fun e w' => e = .returned (.tuple #[.string ⟨#[]⟩, .int .i64 1]) ∧ w = w' := by
  rcases h with h | h
  · go_enter Tryd.func16, Tryd.ntmps16
    go_wp2_with fail
    go_ret2
    exact ⟨rfl, rfl⟩
  · have h' : ¬ n < 0 := by omega
    go_enter Tryd.func16, Tryd.ntmps16
    go_wp2_with fail
    go_ret2
    exact ⟨rfl, rfl⟩
set_option maxRecDepth 100000 in
set_option maxHeartbeats 4000000 in
theorem show_any (n y m d : Int) (w : World) (hT : Tb w) (h0 : 0 ≤ n) (h1 : n ≤ 253402300799) (hd : Wh.VD y m d) (hn : Wh.dn y m d = n / 86400) :
    Calls Tryd.prog 16 #[.int .i64 n] w fun e w' => e = .returned (.tuple #[.string (Wh.txn y m d n), .int .i64 0]) ∧ Below w.heap.size w w' := by
  have hB : Hid (Below w.heap.size w w) := Below.refl _ _
  have HT := Lib.hid hT
  have q1 := hd.y1; have q2 := hd.y2; have q3 := hd.m1; have q4 := hd.m2; have q5 := hd.d1; have q6 := hd.d2
  have hw := hd.within
  have db := Wh.dim_bd y m
  have HD := Lib.hid hd
  have hS := Wh.start_bd y q1 (by omega)
  have hkd : Hid (Wh.dn y m d = Wh.start y + Wh.cm y m + d - 1) := rfl
  obtain ⟨k, hk⟩ : ∃ k, k = n / 86400 := ⟨_, rfl⟩
  rw [hn, ← hk] at hw
  have HK : Hid (Wh.start y + Wh.cm y m + d - 1 = k) := by have := hkd.out; show _ = _; rw [← this, hn, hk]
  have hk0 : 0 ≤ n / 86400 ∧ n / 86400 ≤ 2932896 := by omega
  have hr0 : 0 ≤ n % 86400 ∧ n % 86400 ≤ 86399 := by omega
  rw [← hk] at hk0
  obtain ⟨r, hr⟩ : ∃ r, r = n % 86400 := ⟨_, rfl⟩
  rw [← hr] at hr0
  have HX : Hid (Wh.txn y m d n = Wh.tx y m d (r / 3600) (r / 60 % 60) (r % 60)) := by show _ = _; unfold Wh.txn; rw [hr]
  have P1 := Lib.hid (fun W (h : Tb W) => pad4 y W q1 q2 h)
  have P2 := Lib.hid (fun W => padI m W (by omega) (by omega))
  have P3 := Lib.hid (fun W => padI d W (by omega) (by omega))
  have P4 := Lib.hid (fun W => padI (r / 3600) W (by omega) (by omega))
  have P5 := Lib.hid (fun W => padI (r / 60 % 60) W (by omega) (by omega))
  have P6 := Lib.hid (fun W => padI (r % 60) W (by omega) (by omega))
  have z1 : (Wh.d2 (y / 100)).size ≤ 2 := Nat.le_refl _
  have z2 : (Wh.d2 (y % 100)).size ≤ 2 := Nat.le_refl _
  have z3 : (Wh.d2 m).size ≤ 2 := Nat.le_refl _
  have z4 : (Wh.d2 d).size ≤ 2 := Nat.le_refl _
  have z5 : (Wh.d2 (r / 3600)).size ≤ 2 := Nat.le_refl _
  have z6 : (Wh.d2 (r / 60 % 60)).size ≤ 2 := Nat.le_refl _
  have z7 : (Wh.d2 (r % 60)).size ≤ 2 := Nat.le_refl _
  have hk' : n / 86400 = k := hk.symm
  have hr' : n % 86400 = r := hr.symm
  clear hd hT hn hkd hk hr
  go_enter Tryd.func16, Tryd.ntmps16
  go_wp2_with fail
  rw [hk', hr']
  clear hk' hr'
  go_loop [6] (fun v => ∃ a : Int, 1970 ≤ a ∧ a ≤ y ∧ v = .int .i64 a) (fun v => (y - intOf v).toNat)
  case atStart => exact ⟨1970, by omega, q1, rfl⟩
  case round =>
    obtain ⟨a, ha, hay, rfl⟩ := hrel
    by_cases hlt : a < y
    · have hs2 := Wh.start_mono (a + 1) y (by omega)
      have hs3 := Wh.start_bd (a + 1) (by omega) (by omega)
      have C := Lib.hid (fun W => start_any (a + 1) W (by omega) (by omega))
      generalize Wh.start (a + 1) = S1 at *
      go_wp2_with fail
      refine (C.out _).mono ?_
      rintro e _ ⟨rfl, rfl⟩
      go_wp2_with fail
      go_round
      case rel => exact ⟨a + 1, by omega, by omega, rfl⟩
      case measure => simp [intOf]; omega
    · obtain rfl : a = y := by omega
      have CY := Lib.hid (fun W => start_any a W (by omega) (by omega))
      have hs1 := Wh.start_succ a
      have hl := Wh.lp_01 a
      by_cases h99 : a < 9999
      · have CZ := Lib.hid (fun W => start_any (a + 1) W (by omega) (by omega))
        have hs3 := Wh.start_bd (a + 1) (by omega) (by omega)
        clear hs1
        generalize Wh.start (a + 1) = S1 at *
        go_wp2_with fail
        refine (CZ.out _).mono ?_
        rintro e _ ⟨rfl, rfl⟩
        go_wp2_with fail
        refine (CY.out _).mono ?_
        rintro e _ ⟨rfl, rfl⟩
        go_wp2_with fail
        go_loopw [4, 7] (fun u v wr => ∃ b : Int, 1 ≤ b ∧ b ≤ m ∧ v = .int .i64 b ∧ u = .int .i64 (k - Wh.start a - Wh.cm a b) ∧ Hid (Below w.heap.size w wr)) (fun _ v _ => (12 - intOf v).toNat)
        case atStart => exact ⟨1, by omega, q3, rfl, by rw [Wh.cm_1, Int.sub_zero], hB⟩
        case round =>
          clear hB
          obtain ⟨b, hb1, hbm, rfl, rfl, hB⟩ := hrel
          have hcb := Wh.cm_bd (y := a) (m := b) hb1 (by omega)
          by_cases hlt : b < m
          · have hc2 := Wh.cm_mono (y := a) q1 q2 (a := b + 1) (b := m) (by omega) (by omega) (by omega)
            have hc1 := Wh.cm_succ (y := a) (m := b) q1 q2 hb1 (by omega)
            have hdb := Wh.dim_bd a b
            have C := Lib.hid (fun W (h : Tb W) => days_any a b W h)
            have hcs := Lib.hid hc1
            have hc3 : Wh.cm a b + Wh.dim a b ≤ k - Wh.start a := by omega
            clear hc1
            generalize Wh.dim a b = D at *
            go_wp2_with fail
            refine (C.out _ (HT.out.to hB.out)).mono ?_
            rintro e w1 ⟨rfl, hb⟩
            replace hB := Lib.hid (keep_trans hB.out hb)
            clear hb
            go_wp2_with fail
            refine (C.out _ (HT.out.to hB.out)).mono ?_
            rintro e w2 ⟨rfl, hb⟩
            replace hB := Lib.hid (keep_trans hB.out hb)
            clear hb
            go_wp2_with fail
            go_roundw
            case rel => exact ⟨b + 1, by omega, by omega, rfl, by rw [hcs.out]; congr 1; omega, hB⟩
            case measure => simp [intOf]; omega
          · obtain rfl : b = m := by omega
            have hday : k - Wh.start a - Wh.cm a b = d - 1 := by have := HK.out; omega
            have hdd : d - 1 + 1 = d := by omega
            by_cases h12 : b < 12
            · have hdl : d - 1 < Wh.dim a b := by omega
              have C := Lib.hid (fun W (h : Tb W) => days_any a b W h)
              rw [hday]
              clear hday hw hcb
              generalize Wh.dim a b = D at *
              go_wp2_with fail
              refine (C.out _ (HT.out.to hB.out)).mono ?_
              rintro e w1 ⟨rfl, hb⟩
              replace hB := Lib.hid (keep_trans hB.out hb)
              clear hb
              go_wp2_with fail
              refine (P1.out _ (HT.out.to hB.out)).mono ?_
              rintro e w3 ⟨rfl, hb⟩
              replace hB := Lib.hid (keep_trans hB.out hb)
              clear hb
              go_wp2_with fail
              refine (P2.out _).mono ?_
              rintro e _ ⟨rfl, rfl⟩
              go_wp2_with fail
              refine (P3.out _).mono ?_
              rintro e _ ⟨rfl, rfl⟩
              go_wp2_with fail
              refine (P4.out _).mono ?_
              rintro e _ ⟨rfl, rfl⟩
              go_wp2_with fail
              refine (P5.out _).mono ?_
              rintro e _ ⟨rfl, rfl⟩
              go_wp2_with fail
              refine (P6.out _).mono ?_
              rintro e _ ⟨rfl, rfl⟩
              go_wp2_with fail
              go_ret2
              exact ⟨ret_si HX.out.symm rfl, hB.out⟩
            · rw [hday]
              clear hday hw hcb
              go_wp2_with fail
              refine (P1.out _ (HT.out.to hB.out)).mono ?_
              rintro e w3 ⟨rfl, hb⟩
              replace hB := Lib.hid (keep_trans hB.out hb)
              clear hb
              go_wp2_with fail
              refine (P2.out _).mono ?_
              rintro e _ ⟨rfl, rfl⟩
              go_wp2_with fail
              refine (P3.out _).mono ?_
              rintro e _ ⟨rfl, rfl⟩
              go_wp2_with fail
              refine (P4.out _).mono ?_
              rintro e _ ⟨rfl, rfl⟩
              go_wp2_with fail
              refine (P5.out _).mono ?_
              rintro e _ ⟨rfl, rfl⟩
              go_wp2_with fail
              refine (P6.out _).mono ?_
              rintro e _ ⟨rfl, rfl⟩
              go_wp2_with fail
              go_ret2
              exact ⟨ret_si HX.out.symm rfl, hB.out⟩
      · clear hs1
        go_wp2_with fail
        refine (CY.out _).mono ?_
        rintro e _ ⟨rfl, rfl⟩
        go_wp2_with fail
        go_loopw [4, 7] (fun u v wr => ∃ b : Int, 1 ≤ b ∧ b ≤ m ∧ v = .int .i64 b ∧ u = .int .i64 (k - Wh.start a - Wh.cm a b) ∧ Hid (Below w.heap.size w wr)) (fun _ v _ => (12 - intOf v).toNat)
        case atStart => exact ⟨1, by omega, q3, rfl, by rw [Wh.cm_1, Int.sub_zero], hB⟩
        case round =>
          clear hB
          obtain ⟨b, hb1, hbm, rfl, rfl, hB⟩ := hrel
          have hcb := Wh.cm_bd (y := a) (m := b) hb1 (by omega)
          by_cases hlt : b < m
          · have hc2 := Wh.cm_mono (y := a) q1 q2 (a := b + 1) (b := m) (by omega) (by omega) (by omega)
            have hc1 := Wh.cm_succ (y := a) (m := b) q1 q2 hb1 (by omega)
            have hdb := Wh.dim_bd a b
            have C := Lib.hid (fun W (h : Tb W) => days_any a b W h)
            have hcs := Lib.hid hc1
            have hc3 : Wh.cm a b + Wh.dim a b ≤ k - Wh.start a := by omega
            clear hc1
            generalize Wh.dim a b = D at *
            go_wp2_with fail
            refine (C.out _ (HT.out.to hB.out)).mono ?_
            rintro e w1 ⟨rfl, hb⟩
            replace hB := Lib.hid (keep_trans hB.out hb)
            clear hb
            go_wp2_with fail
            refine (C.out _ (HT.out.to hB.out)).mono ?_
            rintro e w2 ⟨rfl, hb⟩
            replace hB := Lib.hid (keep_trans hB.out hb)
            clear hb
            go_wp2_with fail
            go_roundw
            case rel => exact ⟨b + 1, by omega, by omega, rfl, by rw [hcs.out]; congr 1; omega, hB⟩
            case measure => simp [intOf]; omega
          · obtain rfl : b = m := by omega
            have hday : k - Wh.start a - Wh.cm a b = d - 1 := by have := HK.out; omega
            have hdd : d - 1 + 1 = d := by omega
            by_cases h12 : b < 12
            · have hdl : d - 1 < Wh.dim a b := by omega
              have C := Lib.hid (fun W (h : Tb W) => days_any a b W h)
              rw [hday]
              clear hday hw hcb
              generalize Wh.dim a b = D at *
              go_wp2_with fail
              refine (C.out _ (HT.out.to hB.out)).mono ?_
              rintro e w1 ⟨rfl, hb⟩
              replace hB := Lib.hid (keep_trans hB.out hb)
              clear hb
              go_wp2_with fail
              refine (P1.out _ (HT.out.to hB.out)).mono ?_
              rintro e w3 ⟨rfl, hb⟩
              replace hB := Lib.hid (keep_trans hB.out hb)
              clear hb
              go_wp2_with fail
              refine (P2.out _).mono ?_
              rintro e _ ⟨rfl, rfl⟩
              go_wp2_with fail
              refine (P3.out _).mono ?_
              rintro e _ ⟨rfl, rfl⟩
              go_wp2_with fail
              refine (P4.out _).mono ?_
              rintro e _ ⟨rfl, rfl⟩
              go_wp2_with fail
              refine (P5.out _).mono ?_
              rintro e _ ⟨rfl, rfl⟩
              go_wp2_with fail
              refine (P6.out _).mono ?_
              rintro e _ ⟨rfl, rfl⟩
              go_wp2_with fail
              go_ret2
              exact ⟨ret_si HX.out.symm rfl, hB.out⟩
            · rw [hday]
              clear hday hw hcb
              go_wp2_with fail
              refine (P1.out _ (HT.out.to hB.out)).mono ?_
              rintro e w3 ⟨rfl, hb⟩
              replace hB := Lib.hid (keep_trans hB.out hb)
              clear hb
              go_wp2_with fail
              refine (P2.out _).mono ?_
              rintro e _ ⟨rfl, rfl⟩
              go_wp2_with fail
              refine (P3.out _).mono ?_
              rintro e _ ⟨rfl, rfl⟩
              go_wp2_with fail
              refine (P4.out _).mono ?_
              rintro e _ ⟨rfl, rfl⟩
              go_wp2_with fail
              refine (P5.out _).mono ?_
              rintro e _ ⟨rfl, rfl⟩
              go_wp2_with fail
              refine (P6.out _).mono ?_
              rintro e _ ⟨rfl, rfl⟩
              go_wp2_with fail
              go_ret2
              exact ⟨ret_si HX.out.symm rfl, hB.out⟩
end Go.Proofs.YtmpbejiknejogaaDoor
