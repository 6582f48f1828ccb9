/-
  The statement NamePaths, walked: it returns true.
-/
import Derived.Test.YtdfbcobicjklhaaNameAwake
namespace Go.Proofs.Ytdfbcobicjklhaa
set_option linter.unusedSimpArgs false
set_option linter.unusedVariables false
open Go Go.RowKit

set_option maxHeartbeats 2000000 in
theorem namePaths_walk (s t : ByteArray) (at_ : Int) (w : World) (hs : s.size ≤ maxLen) (ht : t.size ≤ maxLen) :
    Calls Try.prog 9 #[.string s, .string t, .int .i64 at_] w fun e w' => e = .returned (.bool true) ∧ Below w.heap.size w w' := by
  have hB : Hid (Below w.heap.size w w) := Below.refl _ _
  by_cases h : 3000 < s.size
  · go_enter Try.func9, Try.ntmps9
    go_wp2_with fail
    refine (nawake_any _).mono ?_
    rintro e w1 ⟨rfl, hb1⟩
    replace hB := Lib.hid (keep_trans hB.out hb1)
    clear hb1
    go_wp2_with fail
    go_ret
    exact ⟨rfl, hB.out⟩
  by_cases h' : 3000 < t.size
  · go_enter Try.func9, Try.ntmps9
    go_wp2_with fail
    refine (nawake_any _).mono ?_
    rintro e w1 ⟨rfl, hb1⟩
    replace hB := Lib.hid (keep_trans hB.out hb1)
    clear hb1
    go_wp2_with fail
    go_ret
    exact ⟨rfl, hB.out⟩
  have hs1 : ((⟨#[47]⟩ : ByteArray) ++ s).size ≤ maxLen := by rw [ByteArray.size_append]; show 1 + _ ≤ _; unfold maxLen; omega
  have e1 := Lib.hid (Nm.slash_no s)
  cases hp : Nm.path s with
  | false =>
    have e2 := Lib.hid hp
    by_cases h0 : s.size = 0
    · clear hp
      go_enter Try.func9, Try.ntmps9
      go_wp2_with fail
      refine (nawake_any _).mono ?_
      rintro e w1 ⟨rfl, hb1⟩
      replace hB := Lib.hid (keep_trans hB.out hb1)
      clear hb1
      go_wp2_with fail
      refine (path_any _ _ hs1).mono ?_
      rintro e w1 ⟨rfl, hb1⟩
      rw [e1.out]
      replace hB := Lib.hid (keep_trans hB.out hb1)
      clear hb1
      go_wp2_with fail
      refine (path_any s _ hs).mono ?_
      rintro e w1 ⟨rfl, hb1⟩
      rw [e2.out]
      replace hB := Lib.hid (keep_trans hB.out hb1)
      clear hb1
      go_wp2_with fail
      go_ret
      exact ⟨rfl, hB.out⟩
    by_cases h1 : 256 < s.size
    · clear hp
      go_enter Try.func9, Try.ntmps9
      go_wp2_with fail
      refine (nawake_any _).mono ?_
      rintro e w1 ⟨rfl, hb1⟩
      replace hB := Lib.hid (keep_trans hB.out hb1)
      clear hb1
      go_wp2_with fail
      refine (path_any _ _ hs1).mono ?_
      rintro e w1 ⟨rfl, hb1⟩
      rw [e1.out]
      replace hB := Lib.hid (keep_trans hB.out hb1)
      clear hb1
      go_wp2_with fail
      refine (path_any s _ hs).mono ?_
      rintro e w1 ⟨rfl, hb1⟩
      rw [e2.out]
      replace hB := Lib.hid (keep_trans hB.out hb1)
      clear hb1
      go_wp2_with fail
      go_ret
      exact ⟨rfl, hB.out⟩
    have hp0 : 0 < s.size := by omega
    have n0 : ((s.size : Int) == 0) = false := beq_eq_false_iff_ne.2 (by omega)
    have n1 : decide (256 < (s.size : Int)) = false := decide_eq_false (by omega)
    by_cases h2 : s[0].toNat = 47
    · have n2 : ((s[0].toNat : Int) == 47) = true := beq_iff_eq.2 (by omega)
      clear hp
      go_enter Try.func9, Try.ntmps9
      go_wp2_with fail
      refine (nawake_any _).mono ?_
      rintro e w1 ⟨rfl, hb1⟩
      replace hB := Lib.hid (keep_trans hB.out hb1)
      clear hb1
      go_wp2_with fail
      refine (path_any _ _ hs1).mono ?_
      rintro e w1 ⟨rfl, hb1⟩
      rw [e1.out]
      replace hB := Lib.hid (keep_trans hB.out hb1)
      clear hb1
      go_wp2_with fail
      refine (path_any s _ hs).mono ?_
      rintro e w1 ⟨rfl, hb1⟩
      rw [e2.out]
      replace hB := Lib.hid (keep_trans hB.out hb1)
      clear hb1
      go_wp2_with fail
      go_ret
      exact ⟨rfl, hB.out⟩
    have n2 : ((s[0].toNat : Int) == 47) = false := beq_eq_false_iff_ne.2 (by omega)
    have hv : Hid (Uf.valid s = false) := by
      show _ = _
      cases hv : Uf.valid s with
      | false => rfl
      | true => rw [(Nm.path_iff s).2 ⟨by omega, by omega, by rw [Uf.b_at s 0 hp0]; exact h2, hv⟩] at hp; cases hp
    clear hp
    go_enter Try.func9, Try.ntmps9
    go_wp2_with fail
    refine (nawake_any _).mono ?_
    rintro e w1 ⟨rfl, hb1⟩
    replace hB := Lib.hid (keep_trans hB.out hb1)
    clear hb1
    go_wp2_with fail
    refine (path_any _ _ hs1).mono ?_
    rintro e w1 ⟨rfl, hb1⟩
    rw [e1.out]
    replace hB := Lib.hid (keep_trans hB.out hb1)
    clear hb1
    go_wp2_with fail
    refine (path_any s _ hs).mono ?_
    rintro e w1 ⟨rfl, hb1⟩
    rw [e2.out]
    replace hB := Lib.hid (keep_trans hB.out hb1)
    clear hb1
    go_wp2_with fail
    refine (valid_any s _ hs).mono ?_
    rintro e w1 ⟨rfl, hb1⟩
    rw [hv.out]
    replace hB := Lib.hid (keep_trans hB.out hb1)
    clear hb1
    go_wp2_with fail
    go_ret
    exact ⟨rfl, hB.out⟩
  | true =>
    have e2 := Lib.hid hp
    obtain ⟨p1, p2, p3, p4⟩ := (Nm.path_iff s).1 hp
    obtain ⟨k, hk, hke⟩ := place_of at_ s.size (by omega) (by omega)
    have hks : (s.extract 0 k).size ≤ maxLen := by rw [ByteArray.size_extract]; unfold maxLen; omega
    have e5 := Nm.path_front s k hp hk
    have hz : (s.size : Int) ≠ 0 := by omega
    cases hq : Nm.path t with
    | false =>
      have e3 := Lib.hid hq
      clear hq hp p3 p4
      by_cases hk0 : 0 < k
      · have n5 : decide (0 < (k : Int)) = true := decide_eq_true (by omega)
        rw [decide_eq_true hk0] at e5
        rw [Bool.true_and] at e5
        have e5 := Lib.hid e5
        go_enter Try.func9, Try.ntmps9
        go_wp2_with fail
        refine (nawake_any _).mono ?_
        rintro e w1 ⟨rfl, hb1⟩
        replace hB := Lib.hid (keep_trans hB.out hb1)
        clear hb1
        go_wp2_with fail
        refine (path_any _ _ hs1).mono ?_
        rintro e w1 ⟨rfl, hb1⟩
        rw [e1.out]
        replace hB := Lib.hid (keep_trans hB.out hb1)
        clear hb1
        go_wp2_with fail
        refine (path_any s _ hs).mono ?_
        rintro e w1 ⟨rfl, hb1⟩
        rw [e2.out]
        replace hB := Lib.hid (keep_trans hB.out hb1)
        clear hb1
        go_wp2_with fail
        refine (path_any t _ ht).mono ?_
        rintro e w1 ⟨rfl, hb1⟩
        rw [e3.out]
        replace hB := Lib.hid (keep_trans hB.out hb1)
        clear hb1
        go_wp2_with fail
        refine (path_any _ _ hks).mono ?_
        rintro e w1 ⟨rfl, hb1⟩
        rw [e5.out]
        replace hB := Lib.hid (keep_trans hB.out hb1)
        clear hb1
        go_wp2_with fail
        refine (valid_any _ _ hks).mono ?_
        rintro e w1 ⟨rfl, hb1⟩
        replace hB := Lib.hid (keep_trans hB.out hb1)
        clear hb1
        go_wp2_with fail
        go_ret
        exact ⟨rfl, hB.out⟩
      have n5 : decide (0 < (k : Int)) = false := decide_eq_false (by omega)
      rw [decide_eq_false hk0] at e5
      rw [Bool.false_and] at e5
      have e5 := Lib.hid e5
      go_enter Try.func9, Try.ntmps9
      go_wp2_with fail
      refine (nawake_any _).mono ?_
      rintro e w1 ⟨rfl, hb1⟩
      replace hB := Lib.hid (keep_trans hB.out hb1)
      clear hb1
      go_wp2_with fail
      refine (path_any _ _ hs1).mono ?_
      rintro e w1 ⟨rfl, hb1⟩
      rw [e1.out]
      replace hB := Lib.hid (keep_trans hB.out hb1)
      clear hb1
      go_wp2_with fail
      refine (path_any s _ hs).mono ?_
      rintro e w1 ⟨rfl, hb1⟩
      rw [e2.out]
      replace hB := Lib.hid (keep_trans hB.out hb1)
      clear hb1
      go_wp2_with fail
      refine (path_any t _ ht).mono ?_
      rintro e w1 ⟨rfl, hb1⟩
      rw [e3.out]
      replace hB := Lib.hid (keep_trans hB.out hb1)
      clear hb1
      go_wp2_with fail
      refine (path_any _ _ hks).mono ?_
      rintro e w1 ⟨rfl, hb1⟩
      rw [e5.out]
      replace hB := Lib.hid (keep_trans hB.out hb1)
      clear hb1
      go_wp2_with fail
      go_ret
      exact ⟨rfl, hB.out⟩
    | true =>
      have e3 := Lib.hid hq
      have e4 := Nm.path_join s t hp hq
      have hst : (s ++ ⟨#[47]⟩ ++ t).size ≤ maxLen := by rw [ByteArray.size_append, ByteArray.size_append]; show _ + 1 + _ ≤ _; unfold maxLen; omega
      clear hq hp p3 p4
      by_cases hj : s.size + 1 + t.size ≤ 256
      · rw [decide_eq_true hj] at e4
        have e4 := Lib.hid e4
        have n6 : decide ((s.size : Int) + 1 + (t.size : Int) ≤ 256) = true := decide_eq_true (by omega)
        by_cases hk0 : 0 < k
        · have n5 : decide (0 < (k : Int)) = true := decide_eq_true (by omega)
          rw [decide_eq_true hk0] at e5
          rw [Bool.true_and] at e5
          have e5 := Lib.hid e5
          go_enter Try.func9, Try.ntmps9
          go_wp2_with fail
          refine (nawake_any _).mono ?_
          rintro e w1 ⟨rfl, hb1⟩
          replace hB := Lib.hid (keep_trans hB.out hb1)
          clear hb1
          go_wp2_with fail
          refine (path_any _ _ hs1).mono ?_
          rintro e w1 ⟨rfl, hb1⟩
          rw [e1.out]
          replace hB := Lib.hid (keep_trans hB.out hb1)
          clear hb1
          go_wp2_with fail
          refine (path_any s _ hs).mono ?_
          rintro e w1 ⟨rfl, hb1⟩
          rw [e2.out]
          replace hB := Lib.hid (keep_trans hB.out hb1)
          clear hb1
          go_wp2_with fail
          refine (path_any t _ ht).mono ?_
          rintro e w1 ⟨rfl, hb1⟩
          rw [e3.out]
          replace hB := Lib.hid (keep_trans hB.out hb1)
          clear hb1
          go_wp2_with fail
          refine (path_any _ _ hst).mono ?_
          rintro e w1 ⟨rfl, hb1⟩
          rw [e4.out]
          replace hB := Lib.hid (keep_trans hB.out hb1)
          clear hb1
          go_wp2_with fail
          refine (path_any _ _ hks).mono ?_
          rintro e w1 ⟨rfl, hb1⟩
          rw [e5.out]
          replace hB := Lib.hid (keep_trans hB.out hb1)
          clear hb1
          go_wp2_with fail
          refine (valid_any _ _ hks).mono ?_
          rintro e w1 ⟨rfl, hb1⟩
          replace hB := Lib.hid (keep_trans hB.out hb1)
          clear hb1
          go_wp2_with fail
          go_ret
          exact ⟨rfl, hB.out⟩
        have n5 : decide (0 < (k : Int)) = false := decide_eq_false (by omega)
        rw [decide_eq_false hk0] at e5
        rw [Bool.false_and] at e5
        have e5 := Lib.hid e5
        go_enter Try.func9, Try.ntmps9
        go_wp2_with fail
        refine (nawake_any _).mono ?_
        rintro e w1 ⟨rfl, hb1⟩
        replace hB := Lib.hid (keep_trans hB.out hb1)
        clear hb1
        go_wp2_with fail
        refine (path_any _ _ hs1).mono ?_
        rintro e w1 ⟨rfl, hb1⟩
        rw [e1.out]
        replace hB := Lib.hid (keep_trans hB.out hb1)
        clear hb1
        go_wp2_with fail
        refine (path_any s _ hs).mono ?_
        rintro e w1 ⟨rfl, hb1⟩
        rw [e2.out]
        replace hB := Lib.hid (keep_trans hB.out hb1)
        clear hb1
        go_wp2_with fail
        refine (path_any t _ ht).mono ?_
        rintro e w1 ⟨rfl, hb1⟩
        rw [e3.out]
        replace hB := Lib.hid (keep_trans hB.out hb1)
        clear hb1
        go_wp2_with fail
        refine (path_any _ _ hst).mono ?_
        rintro e w1 ⟨rfl, hb1⟩
        rw [e4.out]
        replace hB := Lib.hid (keep_trans hB.out hb1)
        clear hb1
        go_wp2_with fail
        refine (path_any _ _ hks).mono ?_
        rintro e w1 ⟨rfl, hb1⟩
        rw [e5.out]
        replace hB := Lib.hid (keep_trans hB.out hb1)
        clear hb1
        go_wp2_with fail
        go_ret
        exact ⟨rfl, hB.out⟩
      · rw [decide_eq_false hj] at e4
        have e4 := Lib.hid e4
        have n6 : decide ((s.size : Int) + 1 + (t.size : Int) ≤ 256) = false := decide_eq_false (by omega)
        by_cases hk0 : 0 < k
        · have n5 : decide (0 < (k : Int)) = true := decide_eq_true (by omega)
          rw [decide_eq_true hk0] at e5
          rw [Bool.true_and] at e5
          have e5 := Lib.hid e5
          go_enter Try.func9, Try.ntmps9
          go_wp2_with fail
          refine (nawake_any _).mono ?_
          rintro e w1 ⟨rfl, hb1⟩
          replace hB := Lib.hid (keep_trans hB.out hb1)
          clear hb1
          go_wp2_with fail
          refine (path_any _ _ hs1).mono ?_
          rintro e w1 ⟨rfl, hb1⟩
          rw [e1.out]
          replace hB := Lib.hid (keep_trans hB.out hb1)
          clear hb1
          go_wp2_with fail
          refine (path_any s _ hs).mono ?_
          rintro e w1 ⟨rfl, hb1⟩
          rw [e2.out]
          replace hB := Lib.hid (keep_trans hB.out hb1)
          clear hb1
          go_wp2_with fail
          refine (path_any t _ ht).mono ?_
          rintro e w1 ⟨rfl, hb1⟩
          rw [e3.out]
          replace hB := Lib.hid (keep_trans hB.out hb1)
          clear hb1
          go_wp2_with fail
          refine (path_any _ _ hst).mono ?_
          rintro e w1 ⟨rfl, hb1⟩
          rw [e4.out]
          replace hB := Lib.hid (keep_trans hB.out hb1)
          clear hb1
          go_wp2_with fail
          refine (path_any _ _ hks).mono ?_
          rintro e w1 ⟨rfl, hb1⟩
          rw [e5.out]
          replace hB := Lib.hid (keep_trans hB.out hb1)
          clear hb1
          go_wp2_with fail
          refine (valid_any _ _ hks).mono ?_
          rintro e w1 ⟨rfl, hb1⟩
          replace hB := Lib.hid (keep_trans hB.out hb1)
          clear hb1
          go_wp2_with fail
          go_ret
          exact ⟨rfl, hB.out⟩
        have n5 : decide (0 < (k : Int)) = false := decide_eq_false (by omega)
        rw [decide_eq_false hk0] at e5
        rw [Bool.false_and] at e5
        have e5 := Lib.hid e5
        go_enter Try.func9, Try.ntmps9
        go_wp2_with fail
        refine (nawake_any _).mono ?_
        rintro e w1 ⟨rfl, hb1⟩
        replace hB := Lib.hid (keep_trans hB.out hb1)
        clear hb1
        go_wp2_with fail
        refine (path_any _ _ hs1).mono ?_
        rintro e w1 ⟨rfl, hb1⟩
        rw [e1.out]
        replace hB := Lib.hid (keep_trans hB.out hb1)
        clear hb1
        go_wp2_with fail
        refine (path_any s _ hs).mono ?_
        rintro e w1 ⟨rfl, hb1⟩
        rw [e2.out]
        replace hB := Lib.hid (keep_trans hB.out hb1)
        clear hb1
        go_wp2_with fail
        refine (path_any t _ ht).mono ?_
        rintro e w1 ⟨rfl, hb1⟩
        rw [e3.out]
        replace hB := Lib.hid (keep_trans hB.out hb1)
        clear hb1
        go_wp2_with fail
        refine (path_any _ _ hst).mono ?_
        rintro e w1 ⟨rfl, hb1⟩
        rw [e4.out]
        replace hB := Lib.hid (keep_trans hB.out hb1)
        clear hb1
        go_wp2_with fail
        refine (path_any _ _ hks).mono ?_
        rintro e w1 ⟨rfl, hb1⟩
        rw [e5.out]
        replace hB := Lib.hid (keep_trans hB.out hb1)
        clear hb1
        go_wp2_with fail
        go_ret
        exact ⟨rfl, hB.out⟩
end Go.Proofs.Ytdfbcobicjklhaa
