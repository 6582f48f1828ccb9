/-
  The statements GlobItself, GlobRune and GlobWider, walked: they return true.
-/
import Derived.Test.YtcglfpgniifedaaGlobAwake
import Derived.Test.YtcglfpgniifedaaGlobLaw
import Derived.Test.YtcglfpgniifedaaBytes
import Derived.Lib.QuietBelow
namespace Go.Proofs.Ytcglfpgniifedaa
set_option linter.unusedSimpArgs false
set_option linter.unusedVariables false
open Go Go.RowKit

set_option maxHeartbeats 400000 in
theorem plain_any (c : Nat) (w : World) (hc : c < 256) : Calls Try.prog 19 #[.int .u8 (c : Int)] w fun e w' => e = .returned (.bool (decide (c < 128) || decide (192 ≤ c))) ∧ w = w' := by
  go_enter Try.func19, Try.ntmps19
  go_wp2
  all_goals
    go_ret
    refine ⟨ret_b ?_, rfl⟩
    rw [Bool.eq_iff_iff]
    simp
    try omega
theorem say_one (k : Nat) (h : k < 256) (w : World) : (convert 33 9 (.slice (some ⟨w.heap.size, 0, none⟩) 1 1)).run Try.prog (w.alloc (.cells #[.int .u8 (k : Int)] 5)) = .ok (.string ⟨#[UInt8.ofNat k]⟩) (w.alloc (.cells #[.int .u8 (k : Int)] 5)) := by
  have hb := Bk.fresh w 5 #[.int .u8 (k : Int)]
  have := run_convert_bytes_arg (P := Try.prog) (w.alloc (.cells #[.int .u8 (k : Int)] 5)) 33 5 Try.underlying33 Try.underlying5 w.heap.size 0 1 1 [(k : Int)] rfl (fun i hi => by
    have hi' : i = 0 := by have : i < 1 := hi; omega
    subst hi'
    exact hb.cell 0) 9 Try.underlying9
  simpa [strOfNums] using this
set_option maxHeartbeats 400000 in
theorem gis_max (s : ByteArray) (w : World) (hs : s.size ≤ maxLen) :
    Calls Try.prog 17 #[.string s] w fun e w' => e = .returned (.bool (Nm.path s)) ∧ Below w.heap.size w w' := by
  have hs' := hs
  unfold maxLen at hs'
  by_cases h0 : s.size = 0
  · have e : Nm.path s = false := by unfold Nm.path; rw [h0]; rfl
    rw [e]
    have n1 : decide ((s.size : Int) < 1) = true := decide_eq_true (by omega)
    clear e
    go_enter Try.func17, Try.ntmps17
    go_wp2
    all_goals
      go_ret
      exact ⟨rfl, Below.refl _ _⟩
  have hp : 0 < s.size := by omega
  have n0 : decide ((s.size : Int) < 1) = false := decide_eq_false (by omega)
  by_cases h1 : s.size ≤ 256
  · have n1 : decide (256 < (s.size : Int)) = false := decide_eq_false (by omega)
    by_cases h2 : s[0].toNat = 47
    · have e : Nm.path s = false := by unfold Nm.path; rw [Uf.b_at s 0 hp, h2]; simp
      rw [e]
      clear e
      go_enter Try.func17, Try.ntmps17
      go_wp2
      all_goals
        go_ret
        exact ⟨rfl, Below.refl _ _⟩
    · have hr : Hid (Nm.path s = Uf.valid s) := by
        show _ = _
        unfold Nm.path
        rw [Uf.b_at s 0 hp, decide_eq_true h1, decide_eq_true (show 1 ≤ s.size by omega), beq_eq_false_iff_ne.2 h2]; rfl
      have n2 : ((s[0].toNat : Int) == 47) = false := by rw [beq_eq_false_iff_ne]; omega
      go_enter Try.func17, Try.ntmps17
      go_wp2_with (go_at_call 24; refine (rlen_any _ _ (by omega)).mono ?_; rintro e w1 ⟨rfl, hb⟩)
      all_goals
        go_ret
        exact ⟨ret_b hr.out.symm, hb⟩
  · have e : Nm.path s = false := by unfold Nm.path; rw [decide_eq_false h1]; simp
    have n1 : decide (256 < (s.size : Int)) = true := decide_eq_true (by omega)
    rw [e]
    clear e
    go_enter Try.func17, Try.ntmps17
    go_wp2
    all_goals
      go_ret
      exact ⟨rfl, Below.refl _ _⟩


theorem gm_says {p s : ByteArray} {v : Bool} (h : Gl.mt p s = v) (hp : p.size ≤ maxLen) (hs : s.size ≤ maxLen) (w : World) : Calls Try.prog 12 #[.string p, .string s] w fun e w' => e = .returned (.bool v) ∧ Below w.heap.size w w' := by
  have := gmatch_any p s w hp hs
  rwa [h] at this
theorem is_says {s : ByteArray} {v : Bool} (h : Nm.path s = v) (hs : s.size ≤ maxLen) (w : World) : Calls Try.prog 17 #[.string s] w fun e w' => e = .returned (.bool v) ∧ Below w.heap.size w w' := by
  have := gis_max s w hs
  rwa [h] at this


set_option maxRecDepth 100000 in
set_option maxHeartbeats 4000000 in
theorem globItself_walk (s t : ByteArray) (w : World) (hs : s.size ≤ maxLen) (ht : t.size ≤ maxLen) :
    Calls Try.prog 6 #[.string s, .string t] w fun e w' => e = .returned (.bool true) ∧ Below w.heap.size w w' := by
  have hB : Hid (Below w.heap.size w w) := Below.refl _ _
  by_cases h : 1000 < s.size
  · go_enter Try.func6, Try.ntmps6
    go_wp2_with fail
    refine (gawake_any _).mono ?_
    rintro e w1 ⟨rfl, hb1⟩
    replace hB := Lib.hid (keep_trans hB.out hb1)
    clear hb1
    go_wp2_with fail
    go_ret
    exact ⟨rfl, hB.out⟩
  by_cases h' : 1000 < t.size
  · go_enter Try.func6, Try.ntmps6
    go_wp2_with fail
    refine (gawake_any _).mono ?_
    rintro e w1 ⟨rfl, hb1⟩
    replace hB := Lib.hid (keep_trans hB.out hb1)
    clear hb1
    go_wp2_with fail
    go_ret
    exact ⟨rfl, hB.out⟩
  cases hp : Nm.path s with
  | false =>
    have C0 := Lib.hid (is_says hp hs)
    have C1 := Lib.hid (gm_says (Gl.mt_no_left hp t) hs ht)
    have C2 := Lib.hid (gm_says (Gl.mt_no_right hp t) ht hs)
    clear hp
    go_enter Try.func6, Try.ntmps6
    go_wp2_with fail
    refine (gawake_any _).mono ?_
    rintro e w1 ⟨rfl, hb1⟩
    replace hB := Lib.hid (keep_trans hB.out hb1)
    clear hb1
    go_wp2_with fail
    refine (C0.out _).mono ?_
    rintro e w1 ⟨rfl, hb1⟩
    replace hB := Lib.hid (keep_trans hB.out hb1)
    clear hb1
    go_wp2_with fail
    refine (C1.out _).mono ?_
    rintro e w1 ⟨rfl, hb1⟩
    replace hB := Lib.hid (keep_trans hB.out hb1)
    clear hb1
    go_wp2_with fail
    refine (C2.out _).mono ?_
    rintro e w1 ⟨rfl, hb1⟩
    replace hB := Lib.hid (keep_trans hB.out hb1)
    clear hb1
    go_wp2_with fail
    go_ret
    exact ⟨rfl, hB.out⟩
  | true =>
    have C0 := Lib.hid (is_says hp hs)
    have C1 := Lib.hid (gm_says (Gl.mt_self hp) hs hs)
    have PL : Hid ((∀ i, i < s.size → Uf.b s i ≠ 42 ∧ Uf.b s i ≠ 63) → Gl.mt s t = (s.toList == t.toList)) := Gl.mt_plain hp
    clear hp
    go_enter Try.func6, Try.ntmps6
    go_wp2_with fail
    refine (gawake_any _).mono ?_
    rintro e w1 ⟨rfl, hb1⟩
    replace hB := Lib.hid (keep_trans hB.out hb1)
    clear hb1
    go_wp2_with fail
    refine (C0.out _).mono ?_
    rintro e w1 ⟨rfl, hb1⟩
    replace hB := Lib.hid (keep_trans hB.out hb1)
    clear hb1
    go_wp2_with fail
    refine (C1.out _).mono ?_
    rintro e w1 ⟨rfl, hb1⟩
    replace hB := Lib.hid (keep_trans hB.out hb1)
    clear hb1
    go_wp2_with fail
    go_loop [5] (fun i => ∃ k : Nat, k ≤ s.size ∧ i = .int .i64 k ∧ Hid (∀ i, i < k → Uf.b s i ≠ 42 ∧ Uf.b s i ≠ 63)) (fun i => s.size - (intOf i).toNat)
    case atStart => exact ⟨0, Nat.zero_le _, rfl, fun j hj => absurd hj (by omega)⟩
    case round =>
      obtain ⟨k, hk, rfl, hno⟩ := hrel
      by_cases hlt : k < s.size
      · have hbyte := s[k].toNat_lt
        by_cases h42 : s[k].toNat = 42
        · have n1 : ((s[k].toNat : Int) == 42) = true := by rw [beq_iff_eq]; omega
          clear h42
          go_wp2_with fail
          go_ret
          exact ⟨rfl, hB.out⟩
        · have n1 : ((s[k].toNat : Int) == 42) = false := by rw [beq_eq_false_iff_ne]; omega
          by_cases h63 : s[k].toNat = 63
          · have n2 : ((s[k].toNat : Int) == 63) = true := by rw [beq_iff_eq]; omega
            clear h42 h63
            go_wp2_with fail
            go_ret
            exact ⟨rfl, hB.out⟩
          · have n2 : ((s[k].toNat : Int) == 63) = false := by rw [beq_eq_false_iff_ne]; omega
            have hn : Hid (∀ i, i < k + 1 → Uf.b s i ≠ 42 ∧ Uf.b s i ≠ 63) := fun j hj => by
              by_cases e : j = k
              · subst e; rw [Uf.b_at s j hlt]; exact ⟨h42, h63⟩
              · exact hno.out j (by omega)
            clear h42 h63
            go_wp2_with fail
            go_round
            case rel => exact ⟨k + 1, by omega, by go_num, hn⟩
            case measure => simp [intOf]; omega
      · have hk' : k = s.size := by omega
        subst hk'
        have C3 := Lib.hid (gm_says (PL.out hno.out) hs ht)
        go_wp2_with fail
        refine (C3.out _).mono ?_
        rintro e w1 ⟨rfl, hb1⟩
        replace hB := Lib.hid (keep_trans hB.out hb1)
        clear hb1
        go_wp2_with fail
        go_ret
        exact ⟨rfl, hB.out⟩

set_option maxRecDepth 100000 in
set_option maxHeartbeats 4000000 in
theorem globRune_walk0 (p s : ByteArray) (a b : Nat) (w : World) (hp : p.size ≤ maxLen) (hs : s.size ≤ maxLen) (ha : a < 256) (hb : b < 256) :
    Calls Try.prog 9 #[.string p, .string s, .int .u8 (a : Int), .int .u8 (b : Int)] w fun e w' => e = .returned (.bool true) ∧ Below w.heap.size w w' := by
  have hB : Hid (Below w.heap.size w w) := Below.refl _ _
  obtain ⟨A, hA, hA2⟩ : ∃ A : Nat, (a : Int) % 128 = (A : Int) ∧ A < 128 := ⟨a % 128, by omega, Nat.mod_lt _ (by omega)⟩
  obtain ⟨B, hB1, hB2⟩ : ∃ B : Nat, (b : Int) % 128 = (B : Int) ∧ B < 128 := ⟨b % 128, by omega, Nat.mod_lt _ (by omega)⟩
  cases h1 : Nm.path p with
  | false =>
    have C0 := Lib.hid (is_says h1 hp)
    clear h1
    go_enter Try.func9, Try.ntmps9
    go_wp2_with fail
    refine (C0.out _).mono ?_
    rintro e w1 ⟨rfl, hb1⟩
    replace hB := Lib.hid (keep_trans hB.out hb1)
    clear hb1
    go_wp2_with fail
    refine (gawake_any _).mono ?_
    rintro e w1 ⟨rfl, hb1⟩
    replace hB := Lib.hid (keep_trans hB.out hb1)
    clear hb1
    go_wp2_with fail
    go_ret
    exact ⟨rfl, hB.out⟩
  | true =>
    have hpz := path_size h1
    have C0 := Lib.hid (is_says h1 hp)
    cases h2 : Nm.path s with
    | false =>
      have C1 := Lib.hid (is_says h2 hs)
      clear h1 h2
      go_enter Try.func9, Try.ntmps9
      go_wp2_with fail
      refine (C0.out _).mono ?_
      rintro e w1 ⟨rfl, hb1⟩
      replace hB := Lib.hid (keep_trans hB.out hb1)
      clear hb1
      go_wp2_with fail
      refine (C1.out _).mono ?_
      rintro e w1 ⟨rfl, hb1⟩
      replace hB := Lib.hid (keep_trans hB.out hb1)
      clear hb1
      go_wp2_with fail
      refine (gawake_any _).mono ?_
      rintro e w1 ⟨rfl, hb1⟩
      replace hB := Lib.hid (keep_trans hB.out hb1)
      clear hb1
      go_wp2_with fail
      go_ret
      exact ⟨rfl, hB.out⟩
    | true =>
      have hsz := path_size h2
      have C1 := Lib.hid (is_says h2 hs)
      by_cases h3 : 256 ≤ p.size
      · clear h1 h2
        go_enter Try.func9, Try.ntmps9
        go_wp2_with fail
        refine (C0.out _).mono ?_
        rintro e w1 ⟨rfl, hb1⟩
        replace hB := Lib.hid (keep_trans hB.out hb1)
        clear hb1
        go_wp2_with fail
        refine (C1.out _).mono ?_
        rintro e w1 ⟨rfl, hb1⟩
        replace hB := Lib.hid (keep_trans hB.out hb1)
        clear hb1
        go_wp2_with fail
        refine (gawake_any _).mono ?_
        rintro e w1 ⟨rfl, hb1⟩
        replace hB := Lib.hid (keep_trans hB.out hb1)
        clear hb1
        go_wp2_with fail
        go_ret
        exact ⟨rfl, hB.out⟩
      by_cases h4 : 256 ≤ s.size
      · clear h1 h2
        go_enter Try.func9, Try.ntmps9
        go_wp2_with fail
        refine (C0.out _).mono ?_
        rintro e w1 ⟨rfl, hb1⟩
        replace hB := Lib.hid (keep_trans hB.out hb1)
        clear hb1
        go_wp2_with fail
        refine (C1.out _).mono ?_
        rintro e w1 ⟨rfl, hb1⟩
        replace hB := Lib.hid (keep_trans hB.out hb1)
        clear hb1
        go_wp2_with fail
        refine (gawake_any _).mono ?_
        rintro e w1 ⟨rfl, hb1⟩
        replace hB := Lib.hid (keep_trans hB.out hb1)
        clear hb1
        go_wp2_with fail
        go_ret
        exact ⟨rfl, hB.out⟩
      have eB : (UInt8.ofNat B).toNat = B := by rw [UInt8.toNat_ofNat', Nat.mod_eq_of_lt (by omega)]
      have eA : (UInt8.ofNat A).toNat = A := by rw [UInt8.toNat_ofNat', Nat.mod_eq_of_lt (by omega)]
      have M1 := Gl.mt_ask (UInt8.ofNat B) h1 h2 (by omega) (by omega) (by omega)
      have M2 := fun x y => Gl.mt_rune (UInt8.ofNat A) (UInt8.ofNat B) h1 h2 (by omega) (by omega) (by omega) (by omega) x y
      rw [eB] at M1
      rw [eA, eB] at M2
      have z1 : (p ++ ⟨#[63]⟩).size ≤ maxLen := by rw [ByteArray.size_append]; show p.size + 1 ≤ maxLen; unfold maxLen; omega
      have z2 : (s ++ ⟨#[UInt8.ofNat B]⟩).size ≤ maxLen := by rw [ByteArray.size_append]; show s.size + 1 ≤ maxLen; unfold maxLen; omega
      have z3 : (p ++ ⟨#[UInt8.ofNat A]⟩).size ≤ maxLen := by rw [ByteArray.size_append]; show p.size + 1 ≤ maxLen; unfold maxLen; omega
      have cB := Lib.hid (say_one B (by omega))
      have cA := Lib.hid (say_one A (by omega))
      clear h1 h2 eA eB
      cases hm : Gl.mt p s with
      | false =>
        by_cases h42 : A = 42
        · have D := Lib.hid (gm_says hm hp hs)
          have D1 := Lib.hid (gm_says (v := false) (by rw [M1, hm]; rfl) z1 z2)
          have m2 : ((A : Int) == 42) = true := by rw [beq_iff_eq]; omega
          clear hm M1 M2 h42
          go_enter Try.func9, Try.ntmps9
          go_wp2_with fail
          refine (C0.out _).mono ?_
          rintro e w1 ⟨rfl, hb1⟩
          replace hB := Lib.hid (keep_trans hB.out hb1)
          clear hb1
          go_wp2_with fail
          refine (C1.out _).mono ?_
          rintro e w1 ⟨rfl, hb1⟩
          replace hB := Lib.hid (keep_trans hB.out hb1)
          clear hb1
          go_wp2_with fail
          refine (gawake_any _).mono ?_
          rintro e w1 ⟨rfl, hb1⟩
          replace hB := Lib.hid (keep_trans hB.out hb1)
          clear hb1
          go_wp2_with fail
          refine (D.out _).mono ?_
          rintro e w1 ⟨rfl, hb1⟩
          replace hB := Lib.hid (keep_trans hB.out hb1)
          clear hb1
          have k1 := cB.out w1
          replace hB := Lib.hid (hB.out.alloc hB.out.size (.cells #[.int .u8 (B : Int)] 5))
          obtain ⟨w5, rfl⟩ : ∃ w5 : World, w5 = w1 := ⟨_, rfl⟩
          go_wp2_with fail
          refine (D1.out _).mono ?_
          rintro e w1 ⟨rfl, hb1⟩
          replace hB := Lib.hid (keep_trans hB.out hb1)
          clear hb1 k1
          go_wp2_with fail
          go_ret
          exact ⟨rfl, hB.out⟩
        by_cases h63 : A = 63
        · have D := Lib.hid (gm_says hm hp hs)
          have D1 := Lib.hid (gm_says (v := false) (by rw [M1, hm]; rfl) z1 z2)
          have m2 : ((A : Int) == 42) = false := by rw [beq_eq_false_iff_ne]; omega
          have m3 : ((A : Int) == 63) = true := by rw [beq_iff_eq]; omega
          clear hm M1 M2 h42 h63
          go_enter Try.func9, Try.ntmps9
          go_wp2_with fail
          refine (C0.out _).mono ?_
          rintro e w1 ⟨rfl, hb1⟩
          replace hB := Lib.hid (keep_trans hB.out hb1)
          clear hb1
          go_wp2_with fail
          refine (C1.out _).mono ?_
          rintro e w1 ⟨rfl, hb1⟩
          replace hB := Lib.hid (keep_trans hB.out hb1)
          clear hb1
          go_wp2_with fail
          refine (gawake_any _).mono ?_
          rintro e w1 ⟨rfl, hb1⟩
          replace hB := Lib.hid (keep_trans hB.out hb1)
          clear hb1
          go_wp2_with fail
          refine (D.out _).mono ?_
          rintro e w1 ⟨rfl, hb1⟩
          replace hB := Lib.hid (keep_trans hB.out hb1)
          clear hb1
          have k1 := cB.out w1
          replace hB := Lib.hid (hB.out.alloc hB.out.size (.cells #[.int .u8 (B : Int)] 5))
          obtain ⟨w5, rfl⟩ : ∃ w5 : World, w5 = w1 := ⟨_, rfl⟩
          go_wp2_with fail
          refine (D1.out _).mono ?_
          rintro e w1 ⟨rfl, hb1⟩
          replace hB := Lib.hid (keep_trans hB.out hb1)
          clear hb1 k1
          go_wp2_with fail
          go_ret
          exact ⟨rfl, hB.out⟩
        have D := Lib.hid (gm_says hm hp hs)
        have D1 := Lib.hid (gm_says (v := false) (by rw [M1, hm]; rfl) z1 z2)
        have D2 := Lib.hid (gm_says (v := false) (by rw [M2 h42 h63, hm]; rfl) z3 z2)
        have m2 : ((A : Int) == 42) = false := by rw [beq_eq_false_iff_ne]; omega
        have m3 : ((A : Int) == 63) = false := by rw [beq_eq_false_iff_ne]; omega
        clear hm M1 M2 h42 h63
        go_enter Try.func9, Try.ntmps9
        go_wp2_with fail
        refine (C0.out _).mono ?_
        rintro e w1 ⟨rfl, hb1⟩
        replace hB := Lib.hid (keep_trans hB.out hb1)
        clear hb1
        go_wp2_with fail
        refine (C1.out _).mono ?_
        rintro e w1 ⟨rfl, hb1⟩
        replace hB := Lib.hid (keep_trans hB.out hb1)
        clear hb1
        go_wp2_with fail
        refine (gawake_any _).mono ?_
        rintro e w1 ⟨rfl, hb1⟩
        replace hB := Lib.hid (keep_trans hB.out hb1)
        clear hb1
        go_wp2_with fail
        refine (D.out _).mono ?_
        rintro e w1 ⟨rfl, hb1⟩
        replace hB := Lib.hid (keep_trans hB.out hb1)
        clear hb1
        have k1 := cB.out w1
        replace hB := Lib.hid (hB.out.alloc hB.out.size (.cells #[.int .u8 (B : Int)] 5))
        obtain ⟨w5, rfl⟩ : ∃ w5 : World, w5 = w1 := ⟨_, rfl⟩
        go_wp2_with fail
        refine (D1.out _).mono ?_
        rintro e w1 ⟨rfl, hb1⟩
        replace hB := Lib.hid (keep_trans hB.out hb1)
        clear hb1 k1
        have k2 := cA.out w1
        replace hB := Lib.hid (hB.out.alloc hB.out.size (.cells #[.int .u8 (A : Int)] 5))
        obtain ⟨w6, rfl⟩ : ∃ w6 : World, w6 = w1 := ⟨_, rfl⟩
        go_wp2_with fail
        refine (D2.out _).mono ?_
        rintro e w1 ⟨rfl, hb1⟩
        replace hB := Lib.hid (keep_trans hB.out hb1)
        clear hb1 k2
        go_wp2_with fail
        go_ret
        exact ⟨rfl, hB.out⟩
      | true =>
        by_cases hb47 : B = 47
        · by_cases h42 : A = 42
          · have D := Lib.hid (gm_says hm hp hs)
            have D1 := Lib.hid (gm_says (v := false) (by rw [M1, hm]; simp [hb47]) z1 z2)
            have m1 : ((B : Int) != 47) = false := by rw [bne_eq_false_iff_eq]; omega
            have m2 : ((A : Int) == 42) = true := by rw [beq_iff_eq]; omega
            clear hm M1 M2 hb47 h42
            go_enter Try.func9, Try.ntmps9
            go_wp2_with fail
            refine (C0.out _).mono ?_
            rintro e w1 ⟨rfl, hb1⟩
            replace hB := Lib.hid (keep_trans hB.out hb1)
            clear hb1
            go_wp2_with fail
            refine (C1.out _).mono ?_
            rintro e w1 ⟨rfl, hb1⟩
            replace hB := Lib.hid (keep_trans hB.out hb1)
            clear hb1
            go_wp2_with fail
            refine (gawake_any _).mono ?_
            rintro e w1 ⟨rfl, hb1⟩
            replace hB := Lib.hid (keep_trans hB.out hb1)
            clear hb1
            go_wp2_with fail
            refine (D.out _).mono ?_
            rintro e w1 ⟨rfl, hb1⟩
            replace hB := Lib.hid (keep_trans hB.out hb1)
            clear hb1
            have k1 := cB.out w1
            replace hB := Lib.hid (hB.out.alloc hB.out.size (.cells #[.int .u8 (B : Int)] 5))
            obtain ⟨w5, rfl⟩ : ∃ w5 : World, w5 = w1 := ⟨_, rfl⟩
            go_wp2_with fail
            refine (D1.out _).mono ?_
            rintro e w1 ⟨rfl, hb1⟩
            replace hB := Lib.hid (keep_trans hB.out hb1)
            clear hb1 k1
            go_wp2_with fail
            go_ret
            exact ⟨rfl, hB.out⟩
          by_cases h63 : A = 63
          · have D := Lib.hid (gm_says hm hp hs)
            have D1 := Lib.hid (gm_says (v := false) (by rw [M1, hm]; simp [hb47]) z1 z2)
            have m1 : ((B : Int) != 47) = false := by rw [bne_eq_false_iff_eq]; omega
            have m2 : ((A : Int) == 42) = false := by rw [beq_eq_false_iff_ne]; omega
            have m3 : ((A : Int) == 63) = true := by rw [beq_iff_eq]; omega
            clear hm M1 M2 hb47 h42 h63
            go_enter Try.func9, Try.ntmps9
            go_wp2_with fail
            refine (C0.out _).mono ?_
            rintro e w1 ⟨rfl, hb1⟩
            replace hB := Lib.hid (keep_trans hB.out hb1)
            clear hb1
            go_wp2_with fail
            refine (C1.out _).mono ?_
            rintro e w1 ⟨rfl, hb1⟩
            replace hB := Lib.hid (keep_trans hB.out hb1)
            clear hb1
            go_wp2_with fail
            refine (gawake_any _).mono ?_
            rintro e w1 ⟨rfl, hb1⟩
            replace hB := Lib.hid (keep_trans hB.out hb1)
            clear hb1
            go_wp2_with fail
            refine (D.out _).mono ?_
            rintro e w1 ⟨rfl, hb1⟩
            replace hB := Lib.hid (keep_trans hB.out hb1)
            clear hb1
            have k1 := cB.out w1
            replace hB := Lib.hid (hB.out.alloc hB.out.size (.cells #[.int .u8 (B : Int)] 5))
            obtain ⟨w5, rfl⟩ : ∃ w5 : World, w5 = w1 := ⟨_, rfl⟩
            go_wp2_with fail
            refine (D1.out _).mono ?_
            rintro e w1 ⟨rfl, hb1⟩
            replace hB := Lib.hid (keep_trans hB.out hb1)
            clear hb1 k1
            go_wp2_with fail
            go_ret
            exact ⟨rfl, hB.out⟩
          by_cases heq : A = B
          · have D := Lib.hid (gm_says hm hp hs)
            have D1 := Lib.hid (gm_says (v := false) (by rw [M1, hm]; simp [hb47]) z1 z2)
            have D2 := Lib.hid (gm_says (v := true) (by rw [M2 h42 h63, hm]; simp [heq]) z3 z2)
            have m1 : ((B : Int) != 47) = false := by rw [bne_eq_false_iff_eq]; omega
            have m2 : ((A : Int) == 42) = false := by rw [beq_eq_false_iff_ne]; omega
            have m3 : ((A : Int) == 63) = false := by rw [beq_eq_false_iff_ne]; omega
            have m4 : ((A : Int) == (B : Int)) = true := by rw [beq_iff_eq]; omega
            clear hm M1 M2 hb47 h42 h63 heq
            go_enter Try.func9, Try.ntmps9
            go_wp2_with fail
            refine (C0.out _).mono ?_
            rintro e w1 ⟨rfl, hb1⟩
            replace hB := Lib.hid (keep_trans hB.out hb1)
            clear hb1
            go_wp2_with fail
            refine (C1.out _).mono ?_
            rintro e w1 ⟨rfl, hb1⟩
            replace hB := Lib.hid (keep_trans hB.out hb1)
            clear hb1
            go_wp2_with fail
            refine (gawake_any _).mono ?_
            rintro e w1 ⟨rfl, hb1⟩
            replace hB := Lib.hid (keep_trans hB.out hb1)
            clear hb1
            go_wp2_with fail
            refine (D.out _).mono ?_
            rintro e w1 ⟨rfl, hb1⟩
            replace hB := Lib.hid (keep_trans hB.out hb1)
            clear hb1
            have k1 := cB.out w1
            replace hB := Lib.hid (hB.out.alloc hB.out.size (.cells #[.int .u8 (B : Int)] 5))
            obtain ⟨w5, rfl⟩ : ∃ w5 : World, w5 = w1 := ⟨_, rfl⟩
            go_wp2_with fail
            refine (D1.out _).mono ?_
            rintro e w1 ⟨rfl, hb1⟩
            replace hB := Lib.hid (keep_trans hB.out hb1)
            clear hb1 k1
            have k2 := cA.out w1
            replace hB := Lib.hid (hB.out.alloc hB.out.size (.cells #[.int .u8 (A : Int)] 5))
            obtain ⟨w6, rfl⟩ : ∃ w6 : World, w6 = w1 := ⟨_, rfl⟩
            go_wp2_with fail
            refine (D2.out _).mono ?_
            rintro e w1 ⟨rfl, hb1⟩
            replace hB := Lib.hid (keep_trans hB.out hb1)
            clear hb1 k2
            go_wp2_with fail
            go_ret
            exact ⟨rfl, hB.out⟩
          have D := Lib.hid (gm_says hm hp hs)
          have D1 := Lib.hid (gm_says (v := false) (by rw [M1, hm]; simp [hb47]) z1 z2)
          have D2 := Lib.hid (gm_says (v := false) (by rw [M2 h42 h63, hm]; simp [heq]) z3 z2)
          have m1 : ((B : Int) != 47) = false := by rw [bne_eq_false_iff_eq]; omega
          have m2 : ((A : Int) == 42) = false := by rw [beq_eq_false_iff_ne]; omega
          have m3 : ((A : Int) == 63) = false := by rw [beq_eq_false_iff_ne]; omega
          have m4 : ((A : Int) == (B : Int)) = false := by rw [beq_eq_false_iff_ne]; omega
          clear hm M1 M2 hb47 h42 h63 heq
          go_enter Try.func9, Try.ntmps9
          go_wp2_with fail
          refine (C0.out _).mono ?_
          rintro e w1 ⟨rfl, hb1⟩
          replace hB := Lib.hid (keep_trans hB.out hb1)
          clear hb1
          go_wp2_with fail
          refine (C1.out _).mono ?_
          rintro e w1 ⟨rfl, hb1⟩
          replace hB := Lib.hid (keep_trans hB.out hb1)
          clear hb1
          go_wp2_with fail
          refine (gawake_any _).mono ?_
          rintro e w1 ⟨rfl, hb1⟩
          replace hB := Lib.hid (keep_trans hB.out hb1)
          clear hb1
          go_wp2_with fail
          refine (D.out _).mono ?_
          rintro e w1 ⟨rfl, hb1⟩
          replace hB := Lib.hid (keep_trans hB.out hb1)
          clear hb1
          have k1 := cB.out w1
          replace hB := Lib.hid (hB.out.alloc hB.out.size (.cells #[.int .u8 (B : Int)] 5))
          obtain ⟨w5, rfl⟩ : ∃ w5 : World, w5 = w1 := ⟨_, rfl⟩
          go_wp2_with fail
          refine (D1.out _).mono ?_
          rintro e w1 ⟨rfl, hb1⟩
          replace hB := Lib.hid (keep_trans hB.out hb1)
          clear hb1 k1
          have k2 := cA.out w1
          replace hB := Lib.hid (hB.out.alloc hB.out.size (.cells #[.int .u8 (A : Int)] 5))
          obtain ⟨w6, rfl⟩ : ∃ w6 : World, w6 = w1 := ⟨_, rfl⟩
          go_wp2_with fail
          refine (D2.out _).mono ?_
          rintro e w1 ⟨rfl, hb1⟩
          replace hB := Lib.hid (keep_trans hB.out hb1)
          clear hb1 k2
          go_wp2_with fail
          go_ret
          exact ⟨rfl, hB.out⟩
        · by_cases h42 : A = 42
          · have D := Lib.hid (gm_says hm hp hs)
            have D1 := Lib.hid (gm_says (v := true) (by rw [M1, hm]; simp [hb47]) z1 z2)
            have m1 : ((B : Int) != 47) = true := by rw [bne_iff_ne]; omega
            have m2 : ((A : Int) == 42) = true := by rw [beq_iff_eq]; omega
            clear hm M1 M2 hb47 h42
            go_enter Try.func9, Try.ntmps9
            go_wp2_with fail
            refine (C0.out _).mono ?_
            rintro e w1 ⟨rfl, hb1⟩
            replace hB := Lib.hid (keep_trans hB.out hb1)
            clear hb1
            go_wp2_with fail
            refine (C1.out _).mono ?_
            rintro e w1 ⟨rfl, hb1⟩
            replace hB := Lib.hid (keep_trans hB.out hb1)
            clear hb1
            go_wp2_with fail
            refine (gawake_any _).mono ?_
            rintro e w1 ⟨rfl, hb1⟩
            replace hB := Lib.hid (keep_trans hB.out hb1)
            clear hb1
            go_wp2_with fail
            refine (D.out _).mono ?_
            rintro e w1 ⟨rfl, hb1⟩
            replace hB := Lib.hid (keep_trans hB.out hb1)
            clear hb1
            have k1 := cB.out w1
            replace hB := Lib.hid (hB.out.alloc hB.out.size (.cells #[.int .u8 (B : Int)] 5))
            obtain ⟨w5, rfl⟩ : ∃ w5 : World, w5 = w1 := ⟨_, rfl⟩
            go_wp2_with fail
            refine (D1.out _).mono ?_
            rintro e w1 ⟨rfl, hb1⟩
            replace hB := Lib.hid (keep_trans hB.out hb1)
            clear hb1 k1
            go_wp2_with fail
            go_ret
            exact ⟨rfl, hB.out⟩
          by_cases h63 : A = 63
          · have D := Lib.hid (gm_says hm hp hs)
            have D1 := Lib.hid (gm_says (v := true) (by rw [M1, hm]; simp [hb47]) z1 z2)
            have m1 : ((B : Int) != 47) = true := by rw [bne_iff_ne]; omega
            have m2 : ((A : Int) == 42) = false := by rw [beq_eq_false_iff_ne]; omega
            have m3 : ((A : Int) == 63) = true := by rw [beq_iff_eq]; omega
            clear hm M1 M2 hb47 h42 h63
            go_enter Try.func9, Try.ntmps9
            go_wp2_with fail
            refine (C0.out _).mono ?_
            rintro e w1 ⟨rfl, hb1⟩
            replace hB := Lib.hid (keep_trans hB.out hb1)
            clear hb1
            go_wp2_with fail
            refine (C1.out _).mono ?_
            rintro e w1 ⟨rfl, hb1⟩
            replace hB := Lib.hid (keep_trans hB.out hb1)
            clear hb1
            go_wp2_with fail
            refine (gawake_any _).mono ?_
            rintro e w1 ⟨rfl, hb1⟩
            replace hB := Lib.hid (keep_trans hB.out hb1)
            clear hb1
            go_wp2_with fail
            refine (D.out _).mono ?_
            rintro e w1 ⟨rfl, hb1⟩
            replace hB := Lib.hid (keep_trans hB.out hb1)
            clear hb1
            have k1 := cB.out w1
            replace hB := Lib.hid (hB.out.alloc hB.out.size (.cells #[.int .u8 (B : Int)] 5))
            obtain ⟨w5, rfl⟩ : ∃ w5 : World, w5 = w1 := ⟨_, rfl⟩
            go_wp2_with fail
            refine (D1.out _).mono ?_
            rintro e w1 ⟨rfl, hb1⟩
            replace hB := Lib.hid (keep_trans hB.out hb1)
            clear hb1 k1
            go_wp2_with fail
            go_ret
            exact ⟨rfl, hB.out⟩
          by_cases heq : A = B
          · have D := Lib.hid (gm_says hm hp hs)
            have D1 := Lib.hid (gm_says (v := true) (by rw [M1, hm]; simp [hb47]) z1 z2)
            have D2 := Lib.hid (gm_says (v := true) (by rw [M2 h42 h63, hm]; simp [heq]) z3 z2)
            have m1 : ((B : Int) != 47) = true := by rw [bne_iff_ne]; omega
            have m2 : ((A : Int) == 42) = false := by rw [beq_eq_false_iff_ne]; omega
            have m3 : ((A : Int) == 63) = false := by rw [beq_eq_false_iff_ne]; omega
            have m4 : ((A : Int) == (B : Int)) = true := by rw [beq_iff_eq]; omega
            clear hm M1 M2 hb47 h42 h63 heq
            go_enter Try.func9, Try.ntmps9
            go_wp2_with fail
            refine (C0.out _).mono ?_
            rintro e w1 ⟨rfl, hb1⟩
            replace hB := Lib.hid (keep_trans hB.out hb1)
            clear hb1
            go_wp2_with fail
            refine (C1.out _).mono ?_
            rintro e w1 ⟨rfl, hb1⟩
            replace hB := Lib.hid (keep_trans hB.out hb1)
            clear hb1
            go_wp2_with fail
            refine (gawake_any _).mono ?_
            rintro e w1 ⟨rfl, hb1⟩
            replace hB := Lib.hid (keep_trans hB.out hb1)
            clear hb1
            go_wp2_with fail
            refine (D.out _).mono ?_
            rintro e w1 ⟨rfl, hb1⟩
            replace hB := Lib.hid (keep_trans hB.out hb1)
            clear hb1
            have k1 := cB.out w1
            replace hB := Lib.hid (hB.out.alloc hB.out.size (.cells #[.int .u8 (B : Int)] 5))
            obtain ⟨w5, rfl⟩ : ∃ w5 : World, w5 = w1 := ⟨_, rfl⟩
            go_wp2_with fail
            refine (D1.out _).mono ?_
            rintro e w1 ⟨rfl, hb1⟩
            replace hB := Lib.hid (keep_trans hB.out hb1)
            clear hb1 k1
            have k2 := cA.out w1
            replace hB := Lib.hid (hB.out.alloc hB.out.size (.cells #[.int .u8 (A : Int)] 5))
            obtain ⟨w6, rfl⟩ : ∃ w6 : World, w6 = w1 := ⟨_, rfl⟩
            go_wp2_with fail
            refine (D2.out _).mono ?_
            rintro e w1 ⟨rfl, hb1⟩
            replace hB := Lib.hid (keep_trans hB.out hb1)
            clear hb1 k2
            go_wp2_with fail
            go_ret
            exact ⟨rfl, hB.out⟩
          have D := Lib.hid (gm_says hm hp hs)
          have D1 := Lib.hid (gm_says (v := true) (by rw [M1, hm]; simp [hb47]) z1 z2)
          have D2 := Lib.hid (gm_says (v := false) (by rw [M2 h42 h63, hm]; simp [heq]) z3 z2)
          have m1 : ((B : Int) != 47) = true := by rw [bne_iff_ne]; omega
          have m2 : ((A : Int) == 42) = false := by rw [beq_eq_false_iff_ne]; omega
          have m3 : ((A : Int) == 63) = false := by rw [beq_eq_false_iff_ne]; omega
          have m4 : ((A : Int) == (B : Int)) = false := by rw [beq_eq_false_iff_ne]; omega
          clear hm M1 M2 hb47 h42 h63 heq
          go_enter Try.func9, Try.ntmps9
          go_wp2_with fail
          refine (C0.out _).mono ?_
          rintro e w1 ⟨rfl, hb1⟩
          replace hB := Lib.hid (keep_trans hB.out hb1)
          clear hb1
          go_wp2_with fail
          refine (C1.out _).mono ?_
          rintro e w1 ⟨rfl, hb1⟩
          replace hB := Lib.hid (keep_trans hB.out hb1)
          clear hb1
          go_wp2_with fail
          refine (gawake_any _).mono ?_
          rintro e w1 ⟨rfl, hb1⟩
          replace hB := Lib.hid (keep_trans hB.out hb1)
          clear hb1
          go_wp2_with fail
          refine (D.out _).mono ?_
          rintro e w1 ⟨rfl, hb1⟩
          replace hB := Lib.hid (keep_trans hB.out hb1)
          clear hb1
          have k1 := cB.out w1
          replace hB := Lib.hid (hB.out.alloc hB.out.size (.cells #[.int .u8 (B : Int)] 5))
          obtain ⟨w5, rfl⟩ : ∃ w5 : World, w5 = w1 := ⟨_, rfl⟩
          go_wp2_with fail
          refine (D1.out _).mono ?_
          rintro e w1 ⟨rfl, hb1⟩
          replace hB := Lib.hid (keep_trans hB.out hb1)
          clear hb1 k1
          have k2 := cA.out w1
          replace hB := Lib.hid (hB.out.alloc hB.out.size (.cells #[.int .u8 (A : Int)] 5))
          obtain ⟨w6, rfl⟩ : ∃ w6 : World, w6 = w1 := ⟨_, rfl⟩
          go_wp2_with fail
          refine (D2.out _).mono ?_
          rintro e w1 ⟨rfl, hb1⟩
          replace hB := Lib.hid (keep_trans hB.out hb1)
          clear hb1 k2
          go_wp2_with fail
          go_ret
          exact ⟨rfl, hB.out⟩
theorem globRune_walk (p s : ByteArray) (a b : Int) (w : World) (hp : p.size ≤ maxLen) (hs : s.size ≤ maxLen) (ha : (Lit.int .u8 a).wf = true) (hb : (Lit.int .u8 b).wf = true) :
    Calls Try.prog 9 #[.string p, .string s, .int .u8 a, .int .u8 b] w fun e w' => e = .returned (.bool true) ∧ Below w.heap.size w w' := by
  have h1 := bounds_u8 ha
  have h2 := bounds_u8 hb
  obtain ⟨n, rfl⟩ : ∃ n : Nat, a = n := ⟨a.toNat, by omega⟩
  obtain ⟨m, rfl⟩ : ∃ m : Nat, b = m := ⟨b.toNat, by omega⟩
  exact globRune_walk0 p s n m w hp hs (by omega) (by omega)
end Go.Proofs.Ytcglfpgniifedaa
