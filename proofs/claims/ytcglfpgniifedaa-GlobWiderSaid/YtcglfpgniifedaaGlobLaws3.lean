/-
  The statement GlobWider, walked: it returns true.
-/
import Derived.Test.YtcglfpgniifedaaGlobLaws2
namespace Go.Proofs.Ytcglfpgniifedaa
set_option linter.unusedSimpArgs false
set_option linter.unusedVariables false
open Go Go.RowKit


set_option maxRecDepth 100000 in
set_option maxHeartbeats 4000000 in
theorem globWider_walk0 (p s : ByteArray) (a : Nat) (w : World) (hp : p.size ≤ maxLen) (hs : s.size ≤ maxLen) (ha : a < 256) :
    Calls Try.prog 10 #[.string p, .string s, .int .u8 (a : Int)] w fun e w' => e = .returned (.bool true) ∧ Below w.heap.size w w' := by
  have hB : Hid (Below w.heap.size w w) := Below.refl _ _
  by_cases h3 : 256 ≤ p.size
  · go_enter Try.func10, Try.ntmps10
    go_wp2_with fail
    refine (gawake_any _).mono ?_
    rintro e w1 ⟨rfl, hb1⟩
    replace hB := Lib.hid (keep_trans hB.out hb1)
    clear hb1
    go_wp2_with fail
    go_ret
    exact ⟨rfl, hB.out⟩
  cases hm : Gl.mt p s with
  | false =>
    have D := Lib.hid (gm_says hm hp hs)
    clear hm
    go_enter Try.func10, Try.ntmps10
    go_wp2_with fail
    refine (D.out _).mono ?_
    rintro e w1 ⟨rfl, hb1⟩
    replace hB := Lib.hid (keep_trans hB.out hb1)
    clear hb1
    go_wp2_with fail
    refine (gawake_any _).mono ?_
    rintro e w1 ⟨rfl, hb1⟩
    replace hB := Lib.hid (keep_trans hB.out hb1)
    clear hb1
    go_wp2_with fail
    go_ret
    exact ⟨rfl, hB.out⟩
  | true =>
    have D := Lib.hid (gm_says hm hp hs)
    obtain ⟨i, hi, hle⟩ : ∃ i : Nat, (a : Int) % ((p.size : Int) + 1) = (i : Int) ∧ i ≤ p.size := ⟨a % (p.size + 1), by show (a : Int) % ((p.size + 1 : Nat) : Int) = _; exact (Int.natCast_emod a (p.size + 1)).symm, by have := Nat.mod_lt a (show 0 < p.size + 1 by omega); omega⟩
    have z1 : (p.extract 0 i ++ ⟨#[42]⟩ ++ p.extract i p.size).size ≤ maxLen := by
      rw [ByteArray.size_append, ByteArray.size_append, ByteArray.size_extract, ByteArray.size_extract]
      show min i p.size - 0 + 1 + (min p.size p.size - i) ≤ maxLen
      unfold maxLen; omega
    have z2 : (p.extract 0 i ++ ⟨#[42]⟩ ++ p.extract (i + 1) p.size).size ≤ maxLen := by
      rw [ByteArray.size_append, ByteArray.size_append, ByteArray.size_extract, ByteArray.size_extract]
      show min i p.size - 0 + 1 + (min p.size p.size - (i + 1)) ≤ maxLen
      unfold maxLen; omega
    have zz := Lib.hid (And.intro z1 z2)
    clear z1 z2
    have hpz : p.size < 256 := by omega
    by_cases hlt : i < p.size
    · by_cases hpl : p[i].toNat < 128 ∨ 192 ≤ p[i].toNat
      · by_cases h63 : p[i].toNat = 63
        · have hbyte := p[i].toNat_lt
          have PC : Hid (∀ W, Calls Try.prog 19 #[.int .u8 (p[i].toNat : Int)] W fun e w' => e = .returned (.bool true) ∧ W = w') := fun W => by
            have := plain_any p[i].toNat W p[i].toNat_lt
            rwa [show (decide (p[i].toNat < 128) || decide (192 ≤ p[i].toNat)) = true by simp; omega] at this
          have E1 := Lib.hid (gm_says (Gl.mt_put hm hpz i hle (fun _ => by rw [Uf.b_at p i hlt]; omega)) zz.out.1 hs)
          have n1 : ((i : Int) == (p.size : Int)) = false := by rw [beq_eq_false_iff_ne]; omega
          have E2 := Lib.hid (gm_says (Gl.mt_instead hm hpz i hlt (by rw [Uf.b_at p i hlt]; exact h63)) zz.out.2 hs)
          have n2 : ((p[i].toNat : Int) != 63) = false := by rw [bne_eq_false_iff_eq]; omega
          clear hm hpl h63
          go_enter Try.func10, Try.ntmps10
          go_wp2_with fail
          refine (D.out _).mono ?_
          rintro e w1 ⟨rfl, hb1⟩
          replace hB := Lib.hid (keep_trans hB.out hb1)
          clear hb1
          go_wp2_with fail
          refine (gawake_any _).mono ?_
          rintro e w1 ⟨rfl, hb1⟩
          replace hB := Lib.hid (keep_trans hB.out hb1)
          clear hb1
          go_wp2_with fail
          refine (PC.out _).mono ?_
          rintro e _ ⟨rfl, rfl⟩
          go_wp2_with fail
          have hw5 : w1 = w1 := rfl
          refine wp_region_quiet_below (by kernel_rfl) (by kernel_rfl) ?_
          repeat (go_big_quiet_step ((go_at_call 12; with_reducible exact Calls.regrown_of (E1.out _))))
          refine wpQuiet_nil ?_
          intro _ hw'
          obtain ⟨⟨dq, osq⟩, hw''⟩ := hw'
          subst hw''
          replace hB := Lib.hid (hB.out.trans ((below_regrown w1 dq osq).mono hB.out.size))
          go_wp2_with fail
          obtain ⟨w5, hw5⟩ : ∃ w5, w5 = Go.Sort.grow (redrawn w1 dq) osq := ⟨_, rfl⟩
          rw [← hw5] at hB ⊢
          clear hw5
          refine wp_region_quiet_below (by kernel_rfl) (by kernel_rfl) ?_
          repeat (go_big_quiet_step ((go_at_call 12; with_reducible exact Calls.regrown_of (E2.out _))))
          refine wpQuiet_nil ?_
          intro _ hw'
          obtain ⟨⟨dq, osq⟩, hw''⟩ := hw'
          subst hw''
          replace hB := Lib.hid (hB.out.trans ((below_regrown w5 dq osq).mono hB.out.size))
          go_wp2_with fail
          go_ret
          exact ⟨rfl, hB.out⟩
        · have hbyte := p[i].toNat_lt
          have PC : Hid (∀ W, Calls Try.prog 19 #[.int .u8 (p[i].toNat : Int)] W fun e w' => e = .returned (.bool true) ∧ W = w') := fun W => by
            have := plain_any p[i].toNat W p[i].toNat_lt
            rwa [show (decide (p[i].toNat < 128) || decide (192 ≤ p[i].toNat)) = true by simp; omega] at this
          have E1 := Lib.hid (gm_says (Gl.mt_put hm hpz i hle (fun _ => by rw [Uf.b_at p i hlt]; omega)) zz.out.1 hs)
          have n1 : ((i : Int) == (p.size : Int)) = false := by rw [beq_eq_false_iff_ne]; omega
          have n2 : ((p[i].toNat : Int) != 63) = true := by rw [bne_iff_ne]; omega
          clear hm hpl h63
          go_enter Try.func10, Try.ntmps10
          go_wp2_with fail
          refine (D.out _).mono ?_
          rintro e w1 ⟨rfl, hb1⟩
          replace hB := Lib.hid (keep_trans hB.out hb1)
          clear hb1
          go_wp2_with fail
          refine (gawake_any _).mono ?_
          rintro e w1 ⟨rfl, hb1⟩
          replace hB := Lib.hid (keep_trans hB.out hb1)
          clear hb1
          go_wp2_with fail
          refine (PC.out _).mono ?_
          rintro e _ ⟨rfl, rfl⟩
          go_wp2_with fail
          have hw5 : w1 = w1 := rfl
          refine wp_region_quiet_below (by kernel_rfl) (by kernel_rfl) ?_
          repeat (go_big_quiet_step ((go_at_call 12; with_reducible exact Calls.regrown_of (E1.out _))))
          refine wpQuiet_nil ?_
          intro _ hw'
          obtain ⟨⟨dq, osq⟩, hw''⟩ := hw'
          subst hw''
          replace hB := Lib.hid (hB.out.trans ((below_regrown w1 dq osq).mono hB.out.size))
          go_wp2_with fail
          obtain ⟨w5, hw5⟩ : ∃ w5, w5 = Go.Sort.grow (redrawn w1 dq) osq := ⟨_, rfl⟩
          rw [← hw5] at hB ⊢
          clear hw5
          refine wp_region_quiet_below (by kernel_rfl) (by kernel_rfl) ?_
          repeat (go_big_quiet_step (fail))
          refine wpQuiet_nil ?_
          intro _ hw'
          obtain ⟨⟨dq, osq⟩, hw''⟩ := hw'
          subst hw''
          replace hB := Lib.hid (hB.out.trans ((below_regrown w5 dq osq).mono hB.out.size))
          go_wp2_with fail
          go_ret
          exact ⟨rfl, hB.out⟩
      · have hbyte := p[i].toNat_lt
        have PC : Hid (∀ W, Calls Try.prog 19 #[.int .u8 (p[i].toNat : Int)] W fun e w' => e = .returned (.bool false) ∧ W = w') := fun W => by
          have := plain_any p[i].toNat W p[i].toNat_lt
          rwa [show (decide (p[i].toNat < 128) || decide (192 ≤ p[i].toNat)) = false by simp; omega] at this
        clear hm hpl
        go_enter Try.func10, Try.ntmps10
        go_wp2_with fail
        refine (D.out _).mono ?_
        rintro e w1 ⟨rfl, hb1⟩
        replace hB := Lib.hid (keep_trans hB.out hb1)
        clear hb1
        go_wp2_with fail
        refine (gawake_any _).mono ?_
        rintro e w1 ⟨rfl, hb1⟩
        replace hB := Lib.hid (keep_trans hB.out hb1)
        clear hb1
        go_wp2_with fail
        refine (PC.out _).mono ?_
        rintro e _ ⟨rfl, rfl⟩
        go_wp2_with fail
        go_ret
        exact ⟨rfl, hB.out⟩
    · have E1 := Lib.hid (gm_says (Gl.mt_put hm hpz i hle (fun h => absurd h hlt)) zz.out.1 hs)
      have n1 : ((i : Int) == (p.size : Int)) = true := by rw [beq_iff_eq]; omega
      clear hm
      go_enter Try.func10, Try.ntmps10
      go_wp2_with fail
      refine (D.out _).mono ?_
      rintro e w1 ⟨rfl, hb1⟩
      replace hB := Lib.hid (keep_trans hB.out hb1)
      clear hb1
      go_wp2_with fail
      refine (gawake_any _).mono ?_
      rintro e w1 ⟨rfl, hb1⟩
      replace hB := Lib.hid (keep_trans hB.out hb1)
      clear hb1
      go_wp2_with fail
      have hw5 : w1 = w1 := rfl
      refine wp_region_quiet_below (by kernel_rfl) (by kernel_rfl) ?_
      repeat (go_big_quiet_step ((go_at_call 12; with_reducible exact Calls.regrown_of (E1.out _))))
      refine wpQuiet_nil ?_
      intro _ hw'
      obtain ⟨⟨dq, osq⟩, hw''⟩ := hw'
      subst hw''
      replace hB := Lib.hid (hB.out.trans ((below_regrown w1 dq osq).mono hB.out.size))
      go_wp2_with fail
      obtain ⟨w5, hw5⟩ : ∃ w5, w5 = Go.Sort.grow (redrawn w1 dq) osq := ⟨_, rfl⟩
      rw [← hw5] at hB ⊢
      clear hw5
      refine wp_region_quiet_below (by kernel_rfl) (by kernel_rfl) ?_
      repeat (go_big_quiet_step (fail))
      refine wpQuiet_nil ?_
      intro _ hw'
      obtain ⟨⟨dq, osq⟩, hw''⟩ := hw'
      subst hw''
      replace hB := Lib.hid (hB.out.trans ((below_regrown w5 dq osq).mono hB.out.size))
      go_wp2_with fail
      go_ret
      exact ⟨rfl, hB.out⟩
theorem globWider_walk (p s : ByteArray) (a : Int) (w : World) (hp : p.size ≤ maxLen) (hs : s.size ≤ maxLen) (ha : (Lit.int .u8 a).wf = true) :
    Calls Try.prog 10 #[.string p, .string s, .int .u8 a] w fun e w' => e = .returned (.bool true) ∧ Below w.heap.size w w' := by
  have h1 := bounds_u8 ha
  obtain ⟨n, rfl⟩ : ∃ n : Nat, a = n := ⟨a.toNat, by omega⟩
  exact globWider_walk0 p s n w hp hs (by omega)
end Go.Proofs.Ytcglfpgniifedaa
