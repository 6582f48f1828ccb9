/-
  The statement WhenLeap, walked: it returns true.
-/
import Derived.Test.YtmpbejiknejogaaDoorWhenLaw
namespace Go.Proofs.YtmpbejiknejogaaDoor
set_option linter.unusedSimpArgs false
set_option linter.unusedVariables false
open Go Go.RowKit


set_option maxRecDepth 100000 in
set_option maxHeartbeats 4000000 in
theorem whenLeap_walk (y : Int) (w : World)  (hT : Tb w) :
    Calls Tryd.prog 3 #[.int .i64 y] w fun e w' => e = .returned (.bool true) ∧ Below w.heap.size w w' := by
  have hB : Hid (Below w.heap.size w w) := Below.refl _ _
  have HT := Lib.hid hT
  clear hT
  have DM := Lib.hid (fun (k : Nat) W (h : Tb W) => days_any y ((k : Int) + 1) W h)
  have SB := Lib.hid (Wh.sum_bd y)
  go_enter Tryd.func3, Tryd.ntmps3
  go_wp2_with fail
  refine (wawake_any _ (HT.out.to hB.out)).mono ?_
  rintro e w1 ⟨rfl, hb1⟩
  replace hB := Lib.hid (keep_trans hB.out hb1)
  clear hb1
  go_wp2_with fail
  go_loopw [3, 4, 5] (fun u v t wr => ∃ k : Nat, k ≤ 12 ∧ t = .int .i64 ((k : Int) + 1) ∧ u = .int .i64 (Wh.sumM y k) ∧ v = .int .i64 (Wh.mostM y k) ∧ Hid (Below w.heap.size w wr)) (fun _ _ t _ => (13 - intOf t).toNat)
  case atStart => exact ⟨0, by omega, rfl, rfl, rfl, hB⟩
  case round =>
    clear hB
    obtain ⟨k, hk, rfl, rfl, rfl, hB⟩ := hrel
    have sb := SB.out k
    by_cases hlt : k < 12
    · have db := Wh.dim_bd y ((k : Int) + 1)
      have hs : Hid (Wh.sumM y (k + 1) = Wh.sumM y k + Wh.dim y ((k : Int) + 1)) := rfl
      have hm : Hid (Wh.mostM y (k + 1) = max (Wh.mostM y k) (Wh.dim y ((k : Int) + 1))) := rfl
      have C := Lib.hid (DM.out k)
      generalize Wh.dim y ((k : Int) + 1) = D at *
      go_wp2_with fail
      refine (C.out _ (HT.out.to hB.out)).mono ?_
      rintro e w2 ⟨rfl, hb⟩
      replace hB := Lib.hid (keep_trans hB.out hb)
      clear hb
      go_wp2_with fail
      refine (C.out _ (HT.out.to hB.out)).mono ?_
      rintro e w3 ⟨rfl, hb⟩
      replace hB := Lib.hid (keep_trans hB.out hb)
      clear hb
      go_wp2_with fail
      go_roundw
      case rel => exact ⟨k + 1, by omega, by go_num, by rw [hs.out], by rw [hm.out], hB⟩
      case measure => simp [intOf]; omega
    · obtain rfl : k = 12 := by omega
      by_cases h1 : y < 1970
      · obtain ⟨s1, s2⟩ := Wh.sum_out (.inl h1) 12
        rw [s1, s2]
        clear s1 s2 sb
        go_wp2_with fail
        go_ret
        exact ⟨rfl, hB.out⟩
      by_cases h2 : 9999 < y
      · obtain ⟨s1, s2⟩ := Wh.sum_out (.inr h2) 12
        rw [s1, s2]
        clear s1 s2 sb
        go_wp2_with fail
        go_ret
        exact ⟨rfl, hB.out⟩
      obtain ⟨s1, s2⟩ := Wh.sum_in (y := y) (by omega) (by omega)
      rw [s1, s2]
      clear s1 s2 sb
      obtain ⟨t1, t2⟩ := Wh.year_text y
      have v1 : Wh.VD y 1 1 := ⟨by omega, by omega, by omega, by omega, by omega, by have := Wh.dim_lo (y := y) (m := 1) (by omega) (by omega) (by omega) (by omega); omega⟩
      have v2 : Wh.VD y 12 31 := ⟨by omega, by omega, by omega, by omega, by omega, by rw [Wh.dim_in (by omega) (by omega) (by omega) (by omega)]; simp⟩
      have r1 := Wh.rd_tx (h := 0) (mi := 0) (s := 0) v1 ⟨by omega, by omega, by omega, by omega, by omega, by omega⟩
      have r2 := Wh.rd_tx (h := 23) (mi := 59) (s := 59) v2 ⟨by omega, by omega, by omega, by omega, by omega, by omega⟩
      have R1 := Lib.hid (fun W (h : Tb W) => read_any (Wh.tx y 1 1 0 0 0) W (by rw [Wh.tx_size]; decide) h)
      have R2 := Lib.hid (fun W (h : Tb W) => read_any (Wh.tx y 12 31 23 59 59) W (by rw [Wh.tx_size]; decide) h)
      rw [r1.1, r1.2, ← t1] at R1
      rw [r2.1, r2.2, ← t2] at R2
      have hb := v1.bd
      have hb2 := v2.bd
      have hS := Wh.start_bd y (by omega) (by omega)
      have e1 : Wh.sec y 1 1 0 0 0 = Wh.start y * 86400 := by unfold Wh.sec Wh.dn; rw [Wh.cm_1]; omega
      have e2 : Wh.sec y 12 31 23 59 59 = (Wh.start y + 365 + Wh.lp y) * 86400 - 1 := by
        have : Wh.cm y 12 = 334 + Wh.lp y := by unfold Wh.cm; simp; omega
        unfold Wh.sec Wh.dn; rw [this]; omega
      rw [e1] at R1
      rw [e2] at R2
      have T1 := Lib.hid (fun W => text_any y 4 4 W rfl (by omega) (by omega) (by omega))
      have hg := Wh.dg_size y 4
      have hg4 : (Wh.dg y 4).size ≤ 4 := by omega
      have hli := Wh.leap_iff y
      have hlc := Wh.lp_cases y
      clear t1 t2 v1 v2 r1 r2 hb hb2 e1 e2 hg
      generalize Wh.dg y 4 = g at *
      generalize Wh.start y = S at *
      by_cases hq : y % 4 = 0
      · by_cases hq2 : y % 100 = 0
        · by_cases hq3 : y % 400 = 0
          · have hl : Wh.lp y = 1 := by
              rcases hlc with ⟨h3, h4⟩ | ⟨h3, h4⟩
              · exact h4
              · rw [hli.2 (by omega)] at h3; cases h3
            rw [hl] at R2 ⊢
            clear hl hlc hli
            have x1 : (y % 4 == 0) = true := by rw [beq_iff_eq]; omega
            have x2 : (y % 100 != 0) = false := by rw [bne_eq_false_iff_eq]; omega
            have x3 : (y % 400 == 0) = true := by rw [beq_iff_eq]; omega
            clear hq hq2 hq3
            have eq1 : (((S + 365 + 1) * 86400 - 1 - S * 86400) == 31622399) = true := by rw [beq_iff_eq]; omega
            go_wp2_with fail
            refine (T1.out _).mono ?_
            rintro e w1 ⟨rfl, hb1⟩
            replace hB := Lib.hid (keep_trans hB.out hb1)
            clear hb1
            go_wp2_with fail
            refine (R1.out _ (HT.out.to hB.out)).mono ?_
            rintro e w1 ⟨rfl, hb1⟩
            replace hB := Lib.hid (keep_trans hB.out hb1)
            clear hb1
            go_wp2_with fail
            refine (T1.out _).mono ?_
            rintro e w1 ⟨rfl, hb1⟩
            replace hB := Lib.hid (keep_trans hB.out hb1)
            clear hb1
            go_wp2_with fail
            refine (R2.out _ (HT.out.to hB.out)).mono ?_
            rintro e w1 ⟨rfl, hb1⟩
            replace hB := Lib.hid (keep_trans hB.out hb1)
            clear hb1
            go_wp2_with fail
            go_ret
            exact ⟨rfl, hB.out⟩
          · have hl : Wh.lp y = 0 := by
              rcases hlc with ⟨h3, h4⟩ | ⟨h3, h4⟩
              · have := hli.1 h3; omega
              · exact h4
            rw [hl] at R2 ⊢
            clear hl hlc hli
            have x1 : (y % 4 == 0) = true := by rw [beq_iff_eq]; omega
            have x2 : (y % 100 != 0) = false := by rw [bne_eq_false_iff_eq]; omega
            have x3 : (y % 400 == 0) = false := by rw [beq_eq_false_iff_ne]; omega
            clear hq hq2 hq3
            have eq1 : (((S + 365) * 86400 - 1 - S * 86400) == 31535999) = true := by rw [beq_iff_eq]; omega
            go_wp2_with fail
            refine (T1.out _).mono ?_
            rintro e w1 ⟨rfl, hb1⟩
            replace hB := Lib.hid (keep_trans hB.out hb1)
            clear hb1
            go_wp2_with fail
            refine (R1.out _ (HT.out.to hB.out)).mono ?_
            rintro e w1 ⟨rfl, hb1⟩
            replace hB := Lib.hid (keep_trans hB.out hb1)
            clear hb1
            go_wp2_with fail
            refine (T1.out _).mono ?_
            rintro e w1 ⟨rfl, hb1⟩
            replace hB := Lib.hid (keep_trans hB.out hb1)
            clear hb1
            go_wp2_with fail
            refine (R2.out _ (HT.out.to hB.out)).mono ?_
            rintro e w1 ⟨rfl, hb1⟩
            replace hB := Lib.hid (keep_trans hB.out hb1)
            clear hb1
            go_wp2_with fail
            go_ret
            exact ⟨rfl, hB.out⟩
        · have hl : Wh.lp y = 1 := by
            rcases hlc with ⟨h3, h4⟩ | ⟨h3, h4⟩
            · exact h4
            · rw [hli.2 (by omega)] at h3; cases h3
          rw [hl] at R2 ⊢
          clear hl hlc hli
          have x1 : (y % 4 == 0) = true := by rw [beq_iff_eq]; omega
          have x2 : (y % 100 != 0) = true := by rw [bne_iff_ne]; omega
          clear hq hq2
          have eq1 : (((S + 365 + 1) * 86400 - 1 - S * 86400) == 31622399) = true := by rw [beq_iff_eq]; omega
          go_wp2_with fail
          refine (T1.out _).mono ?_
          rintro e w1 ⟨rfl, hb1⟩
          replace hB := Lib.hid (keep_trans hB.out hb1)
          clear hb1
          go_wp2_with fail
          refine (R1.out _ (HT.out.to hB.out)).mono ?_
          rintro e w1 ⟨rfl, hb1⟩
          replace hB := Lib.hid (keep_trans hB.out hb1)
          clear hb1
          go_wp2_with fail
          refine (T1.out _).mono ?_
          rintro e w1 ⟨rfl, hb1⟩
          replace hB := Lib.hid (keep_trans hB.out hb1)
          clear hb1
          go_wp2_with fail
          refine (R2.out _ (HT.out.to hB.out)).mono ?_
          rintro e w1 ⟨rfl, hb1⟩
          replace hB := Lib.hid (keep_trans hB.out hb1)
          clear hb1
          go_wp2_with fail
          go_ret
          exact ⟨rfl, hB.out⟩
      · have hl : Wh.lp y = 0 := by
          rcases hlc with ⟨h3, h4⟩ | ⟨h3, h4⟩
          · have := hli.1 h3; omega
          · exact h4
        rw [hl] at R2 ⊢
        clear hl hlc hli
        have x1 : (y % 4 == 0) = false := by rw [beq_eq_false_iff_ne]; omega
        clear hq
        have eq1 : (((S + 365) * 86400 - 1 - S * 86400) == 31535999) = true := by rw [beq_iff_eq]; omega
        go_wp2_with fail
        refine (T1.out _).mono ?_
        rintro e w1 ⟨rfl, hb1⟩
        replace hB := Lib.hid (keep_trans hB.out hb1)
        clear hb1
        go_wp2_with fail
        refine (R1.out _ (HT.out.to hB.out)).mono ?_
        rintro e w1 ⟨rfl, hb1⟩
        replace hB := Lib.hid (keep_trans hB.out hb1)
        clear hb1
        go_wp2_with fail
        refine (T1.out _).mono ?_
        rintro e w1 ⟨rfl, hb1⟩
        replace hB := Lib.hid (keep_trans hB.out hb1)
        clear hb1
        go_wp2_with fail
        refine (R2.out _ (HT.out.to hB.out)).mono ?_
        rintro e w1 ⟨rfl, hb1⟩
        replace hB := Lib.hid (keep_trans hB.out hb1)
        clear hb1
        go_wp2_with fail
        go_ret
        exact ⟨rfl, hB.out⟩
end Go.Proofs.YtmpbejiknejogaaDoor
