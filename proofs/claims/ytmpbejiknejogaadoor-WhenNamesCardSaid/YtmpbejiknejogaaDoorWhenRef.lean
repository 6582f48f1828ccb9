/-
  The walks of the document's answer of layer 12, and of the statements' helpers: number, text.
-/
import Derived.Test.YtmpbejiknejogaaDoorWhenFns2
namespace Go.Proofs.YtmpbejiknejogaaDoor
set_option linter.unusedSimpArgs false
set_option linter.unusedVariables false
open Go Go.RowKit

set_option maxHeartbeats 400000 in
theorem rleap_any (y : Int) (w : World) (h0 : 0 ≤ y) : Calls Tryd.prog 30 #[.int .i64 y] w fun e w' => e = .returned (.bool (Wh.leap y)) ∧ w = w' := by
  go_enter Tryd.func30, Tryd.ntmps30
  go_wp2
  all_goals
    go_ret
    refine ⟨ret_b ?_, rfl⟩
    unfold Wh.leap
    rw [Bool.eq_iff_iff]
    simp
    try omega
set_option maxHeartbeats 1000000 in
theorem rdays_any (y m : Int) (w : World) : Calls Tryd.prog 20 #[.int .i64 y, .int .i64 m] w fun e w' => e = .returned (.int .i64 (Wh.dim y m)) ∧ w = w' := by
  by_cases h1 : y < 1970
  · rw [Wh.dim_out (.inl h1)]
    go_enter Tryd.func20, Tryd.ntmps20
    go_wp2_with fail
    go_ret
    exact ⟨rfl, rfl⟩
  by_cases h2 : 9999 < y
  · rw [Wh.dim_out (.inr (.inl h2))]
    go_enter Tryd.func20, Tryd.ntmps20
    go_wp2_with fail
    go_ret
    exact ⟨rfl, rfl⟩
  by_cases h3 : m < 1
  · rw [Wh.dim_out (.inr (.inr (.inl h3)))]
    go_enter Tryd.func20, Tryd.ntmps20
    go_wp2_with fail
    go_ret
    exact ⟨rfl, rfl⟩
  by_cases h4 : 12 < m
  · rw [Wh.dim_out (.inr (.inr (.inr h4)))]
    go_enter Tryd.func20, Tryd.ntmps20
    go_wp2_with fail
    go_ret
    exact ⟨rfl, rfl⟩
  have hd := Wh.dim_in (y := y) (m := m) (by omega) (by omega) (by omega) (by omega)
  by_cases h5 : m = 2
  · subst h5
    rcases Wh.lp_cases y with ⟨l1, l2⟩ | ⟨l1, l2⟩
    · have hr : Hid (Wh.dim y 2 = 29) := by show _ = _; rw [hd, l2]; rfl
      have C := Lib.hid (fun W => rleap_any y W (by omega))
      have L := Lib.hid l1
      clear hd l1 l2
      go_enter Tryd.func20, Tryd.ntmps20
      go_wp2_with fail
      refine (C.out _).mono ?_
      rintro e _ ⟨rfl, rfl⟩
      rw [L.out]
      go_wp2_with fail
      go_ret
      exact ⟨ret_i hr.out.symm, rfl⟩
    · have hr : Hid (Wh.dim y 2 = 28) := by show _ = _; rw [hd, l2]; rfl
      have C := Lib.hid (fun W => rleap_any y W (by omega))
      have L := Lib.hid l1
      clear hd l1 l2
      go_enter Tryd.func20, Tryd.ntmps20
      go_wp2_with fail
      refine (C.out _).mono ?_
      rintro e _ ⟨rfl, rfl⟩
      rw [L.out]
      go_wp2_with fail
      go_ret
      exact ⟨ret_i hr.out.symm, rfl⟩
  · have n2 : (m == 2) = false := by rw [beq_eq_false_iff_ne]; exact h5
    rw [if_neg h5] at hd
    by_cases m4 : m = 4
    · subst m4
      have HD : Hid (Wh.dim y 4 = 30) := by show _ = _; rw [hd]; rfl
      clear hd h5
      go_enter Tryd.func20, Tryd.ntmps20
      go_wp2_with fail
      go_ret
      exact ⟨ret_i HD.out.symm, rfl⟩
    by_cases m6 : m = 6
    · subst m6
      have HD : Hid (Wh.dim y 6 = 30) := by show _ = _; rw [hd]; rfl
      clear hd h5
      go_enter Tryd.func20, Tryd.ntmps20
      go_wp2_with fail
      go_ret
      exact ⟨ret_i HD.out.symm, rfl⟩
    by_cases m9 : m = 9
    · subst m9
      have HD : Hid (Wh.dim y 9 = 30) := by show _ = _; rw [hd]; rfl
      clear hd h5
      go_enter Tryd.func20, Tryd.ntmps20
      go_wp2_with fail
      go_ret
      exact ⟨ret_i HD.out.symm, rfl⟩
    by_cases m11 : m = 11
    · subst m11
      have HD : Hid (Wh.dim y 11 = 30) := by show _ = _; rw [hd]; rfl
      clear hd h5
      go_enter Tryd.func20, Tryd.ntmps20
      go_wp2_with fail
      go_ret
      exact ⟨ret_i HD.out.symm, rfl⟩
    have HD : Hid (Wh.dim y m = 31) := by show _ = _; rw [hd, if_neg (by omega)]
    have n4 : (m == 4) = false := by rw [beq_eq_false_iff_ne]; exact m4
    have n6 : (m == 6) = false := by rw [beq_eq_false_iff_ne]; exact m6
    have n9 : (m == 9) = false := by rw [beq_eq_false_iff_ne]; exact m9
    have n11 : (m == 11) = false := by rw [beq_eq_false_iff_ne]; exact m11
    clear hd h5 m4 m6 m9 m11
    go_enter Tryd.func20, Tryd.ntmps20
    go_wp2_with fail
    go_ret
    exact ⟨ret_i HD.out.symm, rfl⟩
set_option maxHeartbeats 1000000 in
theorem rnum_any (s : ByteArray) (i : Nat) (I : Int) (w : World) (hI : I = (i : Int)) (h : i + 2 ≤ s.size) (hz : s.size ≤ 20) : Calls Tryd.prog 29 #[.string s, .int .i64 I] w fun e w' => e = .returned (.int .i64 (Wh.f2 s i)) ∧ Below w.heap.size w w' := by
  subst hI
  have hi0 : i < s.size := by omega
  have hi1 : i + 1 < s.size := by omega
  have q0 := Uf.b_at s i hi0
  have q1 := Uf.b_at s (i + 1) hi1
  have t0 := s[i].toNat_lt
  have t1 := s[i + 1].toNat_lt
  have hf : Hid (Wh.f2 s i = if 48 ≤ s[i].toNat ∧ s[i].toNat ≤ 57 ∧ 48 ≤ s[i + 1].toNat ∧ s[i + 1].toNat ≤ 57 then 10 * ((s[i].toNat : Int) - 48) + ((s[i + 1].toNat : Int) - 48) else -1) := by
    show _ = _
    unfold Wh.f2; rw [q0, q1]
  clear q0 q1
  have x1 : IntKind.i64.wrap ((i : Int) + 1) = (i : Int) + 1 := IntWalk.i64_in _ (by omega)
  have x2 : ((i : Int) + 1).toNat = i + 1 := by omega
  have y1 : (0 : Int) ≤ (i : Int) := by omega
  have y2 : (i : Int) < (s.size : Int) := by omega
  have y3 : (0 : Int) ≤ (i : Int) + 1 := by omega
  have y4 : (i : Int) + 1 < (s.size : Int) := by omega
  have g1 : ∀ W, (Instr.index 9 (.string s) (.int .i64 (i : Int))).run Tryd.prog W = .ok (.int .u8 (s[i].toNat : Int)) W := fun W => index_at (P := Tryd.prog) 9 Tryd.underlying9 s _ i rfl hi0 W
  have g2 : ∀ W, (Instr.index 9 (.string s) (.int .i64 ((i : Int) + 1))).run Tryd.prog W = .ok (.int .u8 (s[i + 1].toNat : Int)) W := fun W => index_at (P := Tryd.prog) 9 Tryd.underlying9 s _ (i + 1) (by omega) hi1 W
  generalize s[i].toNat = u at *
  generalize s[i + 1].toNat = v at *
  by_cases h1 : u < 48
  · have hr : Hid (Wh.f2 s i = -1) := by show _ = _; rw [hf.out, if_neg (by omega)]
    go_enter Tryd.func29, Tryd.ntmps29
    go_wp2_with fail
    go_quiet (fail)
    go_wp2_with fail
    go_ret
    exact ⟨ret_i hr.out.symm, below_drawn (Below.refl _ _) _⟩
  by_cases h2 : 57 < u
  · have hr : Hid (Wh.f2 s i = -1) := by show _ = _; rw [hf.out, if_neg (by omega)]
    go_enter Tryd.func29, Tryd.ntmps29
    go_wp2_with fail
    go_quiet (fail)
    go_wp2_with fail
    go_ret
    exact ⟨ret_i hr.out.symm, below_drawn (Below.refl _ _) _⟩
  by_cases h3 : v < 48
  · have hr : Hid (Wh.f2 s i = -1) := by show _ = _; rw [hf.out, if_neg (by omega)]
    go_enter Tryd.func29, Tryd.ntmps29
    go_wp2_with fail
    go_quiet (fail)
    go_wp2_with fail
    go_ret
    exact ⟨ret_i hr.out.symm, below_drawn (Below.refl _ _) _⟩
  by_cases h4 : 57 < v
  · have hr : Hid (Wh.f2 s i = -1) := by show _ = _; rw [hf.out, if_neg (by omega)]
    go_enter Tryd.func29, Tryd.ntmps29
    go_wp2_with fail
    go_quiet (fail)
    go_wp2_with fail
    go_ret
    exact ⟨ret_i hr.out.symm, below_drawn (Below.refl _ _) _⟩
  have hr : Hid (Wh.f2 s i = ((u : Int) - 48) * 10 + ((v : Int) - 48)) := by show _ = _; rw [hf.out, if_pos (by omega)]; omega
  go_enter Tryd.func29, Tryd.ntmps29
  go_wp2_with fail
  go_quiet (fail)
  go_wp2_with fail
  go_ret
  exact ⟨ret_i hr.out.symm, below_drawn (Below.refl _ _) _⟩
theorem say_pair (p q : Nat) (hp : p < 256) (hq : q < 256) (w : World) : (convert 42 9 (.slice (some ⟨w.heap.size, 0, none⟩) 2 2)).run Tryd.prog (w.alloc (.cells #[.int .u8 (p : Int), .int .u8 (q : Int)] 5)) = .ok (.string ⟨#[UInt8.ofNat p, UInt8.ofNat q]⟩) (w.alloc (.cells #[.int .u8 (p : Int), .int .u8 (q : Int)] 5)) := by
  have hb := Bk.fresh w 5 #[.int .u8 (p : Int), .int .u8 (q : Int)]
  have := run_convert_bytes_arg (P := Tryd.prog) (w.alloc (.cells #[.int .u8 (p : Int), .int .u8 (q : Int)] 5)) 42 5 Tryd.underlying42 Tryd.underlying5 w.heap.size 0 2 2 [(p : Int), (q : Int)] rfl (fun i hi => by
    have hi' : i = 0 ∨ i = 1 := by have : i < 2 := hi; omega
    rcases hi' with rfl | rfl
    · exact hb.cell 0
    · exact hb.cell 1) 9 Tryd.underlying9
  simpa [strOfNums] using this
theorem say_one (k : Nat) (h : k < 256) (w : World) : (convert 42 9 (.slice (some ⟨w.heap.size, 0, none⟩) 1 1)).run Tryd.prog (w.alloc (.cells #[.int .u8 (k : Int)] 5)) = .ok (.string ⟨#[UInt8.ofNat k]⟩) (w.alloc (.cells #[.int .u8 (k : Int)] 5)) := by
  have hb := Bk.fresh w 5 #[.int .u8 (k : Int)]
  have := run_convert_bytes_arg (P := Tryd.prog) (w.alloc (.cells #[.int .u8 (k : Int)] 5)) 42 5 Tryd.underlying42 Tryd.underlying5 w.heap.size 0 1 1 [(k : Int)] rfl (fun i hi => by
    have hi' : i = 0 := by have : i < 1 := hi; omega
    subst hi'
    exact hb.cell 0) 9 Tryd.underlying9
  simpa [strOfNums] using this
set_option maxHeartbeats 400000 in
theorem two_any (k : Int) (w : World) (h0 : 0 ≤ k) (h1 : k ≤ 100000) : Calls Tryd.prog 31 #[.int .i64 k] w fun e w' => e = .returned (.string (Wh.d2 k)) ∧ Below w.heap.size w w' := by
  obtain ⟨p, hp, hp2⟩ : ∃ p : Nat, 48 + k / 10 % 10 = (p : Int) ∧ p < 256 := ⟨(48 + k / 10 % 10).toNat, by omega, by omega⟩
  obtain ⟨q, hq, hq2⟩ : ∃ q : Nat, 48 + k % 10 = (q : Int) ∧ q < 256 := ⟨(48 + k % 10).toNat, by omega, by omega⟩
  have hr : Hid (Wh.d2 k = ⟨#[UInt8.ofNat p, UInt8.ofNat q]⟩) := by show _ = _; unfold Wh.d2; rw [hp, hq]; rfl
  have hcv := say_pair p q hp2 hq2 w
  go_enter Tryd.func31, Tryd.ntmps31
  go_wp2_with fail
  go_ret
  exact ⟨ret_str hr.out.symm, (Below.refl _ _).alloc (Nat.le_refl _) _⟩

set_option maxRecDepth 100000 in
set_option maxHeartbeats 4000000 in
theorem rread_no (s : ByteArray) (w : World) (hs : s.size ≤ maxLen) (hg : Wh.good s = false) :
    Calls Tryd.prog 18 #[.string s] w fun e w' => e = .returned (.tuple #[.int .i64 (Wh.rdV s), .int .i64 (Wh.rdE s)]) ∧ Below w.heap.size w w' := by
  have HR := Lib.hid (Wh.rd_no hg)
  have hB : Hid (Below w.heap.size w w) := Below.refl _ _
  have HG := Lib.hid hg
  clear hg
  by_cases hz : s.size = 20
  · have hz1 : 20 ≤ s.size := by omega
    have hz2 : s.size ≤ 20 := by omega
    have HZ := Lib.hid hz
    have n0 : ((s.size : Int) != 20) = false := by rw [bne_eq_false_iff_eq]; omega
    clear hz hs
    have bb4 := Uf.b_at s 4 (by omega)
    have bb7 := Uf.b_at s 7 (by omega)
    have bb10 := Uf.b_at s 10 (by omega)
    have bb13 := Uf.b_at s 13 (by omega)
    have bb16 := Uf.b_at s 16 (by omega)
    have bb19 := Uf.b_at s 19 (by omega)
    by_cases c4 : s[4].toNat ≠ 45
    · have n4 : ((s[4].toNat : Int) != 45) = true := by rw [bne_iff_ne]; omega
      clear bb4 bb7 bb10 bb13 bb16 bb19 c4
      go_enter Tryd.func18, Tryd.ntmps18
      go_wp2_with fail
      go_ret2
      exact ⟨ret_ii HR.out.1.symm HR.out.2.symm, hB.out⟩
    have n4 : ((s[4].toNat : Int) != 45) = false := by rw [bne_eq_false_iff_eq]; omega
    by_cases c7 : s[7].toNat ≠ 45
    · have n7 : ((s[7].toNat : Int) != 45) = true := by rw [bne_iff_ne]; omega
      clear bb4 bb7 bb10 bb13 bb16 bb19 c7
      go_enter Tryd.func18, Tryd.ntmps18
      go_wp2_with fail
      go_ret2
      exact ⟨ret_ii HR.out.1.symm HR.out.2.symm, hB.out⟩
    have n7 : ((s[7].toNat : Int) != 45) = false := by rw [bne_eq_false_iff_eq]; omega
    by_cases c10 : s[10].toNat ≠ 84
    · have n10 : ((s[10].toNat : Int) != 84) = true := by rw [bne_iff_ne]; omega
      clear bb4 bb7 bb10 bb13 bb16 bb19 c10
      go_enter Tryd.func18, Tryd.ntmps18
      go_wp2_with fail
      go_ret2
      exact ⟨ret_ii HR.out.1.symm HR.out.2.symm, hB.out⟩
    have n10 : ((s[10].toNat : Int) != 84) = false := by rw [bne_eq_false_iff_eq]; omega
    by_cases c13 : s[13].toNat ≠ 58
    · have n13 : ((s[13].toNat : Int) != 58) = true := by rw [bne_iff_ne]; omega
      clear bb4 bb7 bb10 bb13 bb16 bb19 c13
      go_enter Tryd.func18, Tryd.ntmps18
      go_wp2_with fail
      go_ret2
      exact ⟨ret_ii HR.out.1.symm HR.out.2.symm, hB.out⟩
    have n13 : ((s[13].toNat : Int) != 58) = false := by rw [bne_eq_false_iff_eq]; omega
    by_cases c16 : s[16].toNat ≠ 58
    · have n16 : ((s[16].toNat : Int) != 58) = true := by rw [bne_iff_ne]; omega
      clear bb4 bb7 bb10 bb13 bb16 bb19 c16
      go_enter Tryd.func18, Tryd.ntmps18
      go_wp2_with fail
      go_ret2
      exact ⟨ret_ii HR.out.1.symm HR.out.2.symm, hB.out⟩
    have n16 : ((s[16].toNat : Int) != 58) = false := by rw [bne_eq_false_iff_eq]; omega
    by_cases c19 : s[19].toNat ≠ 90
    · have n19 : ((s[19].toNat : Int) != 90) = true := by rw [bne_iff_ne]; omega
      clear bb4 bb7 bb10 bb13 bb16 bb19 c19
      go_enter Tryd.func18, Tryd.ntmps18
      go_wp2_with fail
      go_ret2
      exact ⟨ret_ii HR.out.1.symm HR.out.2.symm, hB.out⟩
    have n19 : ((s[19].toNat : Int) != 90) = false := by rw [bne_eq_false_iff_eq]; omega
    have hsep : Hid (Wh.seps s = true) := by
      show _ = _
      unfold Wh.seps
      rw [bb4, bb7, bb10, bb13, bb16, bb19]
      simp; omega
    clear bb4 c4 bb7 c7 bb10 c10 bb13 c13 bb16 c16 bb19 c19
    have D0 := Lib.hid (fun W => rnum_any s 0 0 W rfl (by omega) (by omega))
    have D2 := Lib.hid (fun W => rnum_any s 2 2 W rfl (by omega) (by omega))
    have D5 := Lib.hid (fun W => rnum_any s 5 5 W rfl (by omega) (by omega))
    have D8 := Lib.hid (fun W => rnum_any s 8 8 W rfl (by omega) (by omega))
    have D11 := Lib.hid (fun W => rnum_any s 11 11 W rfl (by omega) (by omega))
    have D14 := Lib.hid (fun W => rnum_any s 14 14 W rfl (by omega) (by omega))
    have D17 := Lib.hid (fun W => rnum_any s 17 17 W rfl (by omega) (by omega))
    have q0 := Wh.f2_bd s 0
    have q2 := Wh.f2_bd s 2
    have q5 := Wh.f2_bd s 5
    have q8 := Wh.f2_bd s 8
    have q11 := Wh.f2_bd s 11
    have q14 := Wh.f2_bd s 14
    have q17 := Wh.f2_bd s 17
    have h4 : Wh.f4 s = if 0 ≤ Wh.f2 s 0 ∧ 0 ≤ Wh.f2 s 2 then 100 * Wh.f2 s 0 + Wh.f2 s 2 else -1 := rfl
    have G2 : Hid (¬ (1 ≤ Wh.f2 s 8 ∧ Wh.f2 s 8 ≤ Wh.dim (Wh.f4 s) (Wh.f2 s 5) ∧ (0 ≤ Wh.f2 s 11 ∧ Wh.f2 s 11 ≤ 23) ∧ (0 ≤ Wh.f2 s 14 ∧ Wh.f2 s 14 ≤ 59) ∧ (0 ≤ Wh.f2 s 17 ∧ Wh.f2 s 17 ≤ 59))) := by
      rintro ⟨g1, g2, g3, g4, g5⟩
      have : Wh.good s = true := by
        unfold Wh.good
        rw [hsep.out]
        simp only [Bool.and_eq_true, decide_eq_true_eq]
        exact ⟨⟨⟨⟨⟨⟨HZ.out, trivial⟩, g1⟩, g2⟩, g3⟩, g4⟩, g5⟩
      rw [HG.out] at this
      cases this
    generalize Wh.f4 s = y at *
    generalize Wh.f2 s 0 = hi at *
    generalize Wh.f2 s 2 = lo at *
    generalize Wh.f2 s 5 = m at *
    generalize Wh.f2 s 8 = d at *
    generalize Wh.f2 s 11 = h at *
    generalize Wh.f2 s 14 = mi at *
    generalize Wh.f2 s 17 = sc at *
    have H4 := Lib.hid h4
    clear h4
    by_cases a1 : hi < 0
    · go_enter Tryd.func18, Tryd.ntmps18
      go_wp2_with fail
      refine (D0.out _).mono ?_
      rintro e w1 ⟨rfl, hb1⟩
      replace hB := Lib.hid (keep_trans hB.out hb1)
      clear hb1
      go_wp2_with fail
      refine (D2.out _).mono ?_
      rintro e w1 ⟨rfl, hb1⟩
      replace hB := Lib.hid (keep_trans hB.out hb1)
      clear hb1
      go_wp2_with fail
      refine (D5.out _).mono ?_
      rintro e w1 ⟨rfl, hb1⟩
      replace hB := Lib.hid (keep_trans hB.out hb1)
      clear hb1
      go_wp2_with fail
      refine (D8.out _).mono ?_
      rintro e w1 ⟨rfl, hb1⟩
      replace hB := Lib.hid (keep_trans hB.out hb1)
      clear hb1
      go_wp2_with fail
      refine (D11.out _).mono ?_
      rintro e w1 ⟨rfl, hb1⟩
      replace hB := Lib.hid (keep_trans hB.out hb1)
      clear hb1
      go_wp2_with fail
      refine (D14.out _).mono ?_
      rintro e w1 ⟨rfl, hb1⟩
      replace hB := Lib.hid (keep_trans hB.out hb1)
      clear hb1
      go_wp2_with fail
      refine (D17.out _).mono ?_
      rintro e w1 ⟨rfl, hb1⟩
      replace hB := Lib.hid (keep_trans hB.out hb1)
      clear hb1
      go_wp2_with fail
      go_ret2
      exact ⟨ret_ii HR.out.1.symm HR.out.2.symm, hB.out⟩
    by_cases a2 : lo < 0
    · go_enter Tryd.func18, Tryd.ntmps18
      go_wp2_with fail
      refine (D0.out _).mono ?_
      rintro e w1 ⟨rfl, hb1⟩
      replace hB := Lib.hid (keep_trans hB.out hb1)
      clear hb1
      go_wp2_with fail
      refine (D2.out _).mono ?_
      rintro e w1 ⟨rfl, hb1⟩
      replace hB := Lib.hid (keep_trans hB.out hb1)
      clear hb1
      go_wp2_with fail
      refine (D5.out _).mono ?_
      rintro e w1 ⟨rfl, hb1⟩
      replace hB := Lib.hid (keep_trans hB.out hb1)
      clear hb1
      go_wp2_with fail
      refine (D8.out _).mono ?_
      rintro e w1 ⟨rfl, hb1⟩
      replace hB := Lib.hid (keep_trans hB.out hb1)
      clear hb1
      go_wp2_with fail
      refine (D11.out _).mono ?_
      rintro e w1 ⟨rfl, hb1⟩
      replace hB := Lib.hid (keep_trans hB.out hb1)
      clear hb1
      go_wp2_with fail
      refine (D14.out _).mono ?_
      rintro e w1 ⟨rfl, hb1⟩
      replace hB := Lib.hid (keep_trans hB.out hb1)
      clear hb1
      go_wp2_with fail
      refine (D17.out _).mono ?_
      rintro e w1 ⟨rfl, hb1⟩
      replace hB := Lib.hid (keep_trans hB.out hb1)
      clear hb1
      go_wp2_with fail
      go_ret2
      exact ⟨ret_ii HR.out.1.symm HR.out.2.symm, hB.out⟩
    by_cases a3 : d < 1
    · go_enter Tryd.func18, Tryd.ntmps18
      go_wp2_with fail
      refine (D0.out _).mono ?_
      rintro e w1 ⟨rfl, hb1⟩
      replace hB := Lib.hid (keep_trans hB.out hb1)
      clear hb1
      go_wp2_with fail
      refine (D2.out _).mono ?_
      rintro e w1 ⟨rfl, hb1⟩
      replace hB := Lib.hid (keep_trans hB.out hb1)
      clear hb1
      go_wp2_with fail
      refine (D5.out _).mono ?_
      rintro e w1 ⟨rfl, hb1⟩
      replace hB := Lib.hid (keep_trans hB.out hb1)
      clear hb1
      go_wp2_with fail
      refine (D8.out _).mono ?_
      rintro e w1 ⟨rfl, hb1⟩
      replace hB := Lib.hid (keep_trans hB.out hb1)
      clear hb1
      go_wp2_with fail
      refine (D11.out _).mono ?_
      rintro e w1 ⟨rfl, hb1⟩
      replace hB := Lib.hid (keep_trans hB.out hb1)
      clear hb1
      go_wp2_with fail
      refine (D14.out _).mono ?_
      rintro e w1 ⟨rfl, hb1⟩
      replace hB := Lib.hid (keep_trans hB.out hb1)
      clear hb1
      go_wp2_with fail
      refine (D17.out _).mono ?_
      rintro e w1 ⟨rfl, hb1⟩
      replace hB := Lib.hid (keep_trans hB.out hb1)
      clear hb1
      go_wp2_with fail
      go_ret2
      exact ⟨ret_ii HR.out.1.symm HR.out.2.symm, hB.out⟩
    by_cases a4 : h < 0
    · go_enter Tryd.func18, Tryd.ntmps18
      go_wp2_with fail
      refine (D0.out _).mono ?_
      rintro e w1 ⟨rfl, hb1⟩
      replace hB := Lib.hid (keep_trans hB.out hb1)
      clear hb1
      go_wp2_with fail
      refine (D2.out _).mono ?_
      rintro e w1 ⟨rfl, hb1⟩
      replace hB := Lib.hid (keep_trans hB.out hb1)
      clear hb1
      go_wp2_with fail
      refine (D5.out _).mono ?_
      rintro e w1 ⟨rfl, hb1⟩
      replace hB := Lib.hid (keep_trans hB.out hb1)
      clear hb1
      go_wp2_with fail
      refine (D8.out _).mono ?_
      rintro e w1 ⟨rfl, hb1⟩
      replace hB := Lib.hid (keep_trans hB.out hb1)
      clear hb1
      go_wp2_with fail
      refine (D11.out _).mono ?_
      rintro e w1 ⟨rfl, hb1⟩
      replace hB := Lib.hid (keep_trans hB.out hb1)
      clear hb1
      go_wp2_with fail
      refine (D14.out _).mono ?_
      rintro e w1 ⟨rfl, hb1⟩
      replace hB := Lib.hid (keep_trans hB.out hb1)
      clear hb1
      go_wp2_with fail
      refine (D17.out _).mono ?_
      rintro e w1 ⟨rfl, hb1⟩
      replace hB := Lib.hid (keep_trans hB.out hb1)
      clear hb1
      go_wp2_with fail
      go_ret2
      exact ⟨ret_ii HR.out.1.symm HR.out.2.symm, hB.out⟩
    by_cases a5 : mi < 0
    · go_enter Tryd.func18, Tryd.ntmps18
      go_wp2_with fail
      refine (D0.out _).mono ?_
      rintro e w1 ⟨rfl, hb1⟩
      replace hB := Lib.hid (keep_trans hB.out hb1)
      clear hb1
      go_wp2_with fail
      refine (D2.out _).mono ?_
      rintro e w1 ⟨rfl, hb1⟩
      replace hB := Lib.hid (keep_trans hB.out hb1)
      clear hb1
      go_wp2_with fail
      refine (D5.out _).mono ?_
      rintro e w1 ⟨rfl, hb1⟩
      replace hB := Lib.hid (keep_trans hB.out hb1)
      clear hb1
      go_wp2_with fail
      refine (D8.out _).mono ?_
      rintro e w1 ⟨rfl, hb1⟩
      replace hB := Lib.hid (keep_trans hB.out hb1)
      clear hb1
      go_wp2_with fail
      refine (D11.out _).mono ?_
      rintro e w1 ⟨rfl, hb1⟩
      replace hB := Lib.hid (keep_trans hB.out hb1)
      clear hb1
      go_wp2_with fail
      refine (D14.out _).mono ?_
      rintro e w1 ⟨rfl, hb1⟩
      replace hB := Lib.hid (keep_trans hB.out hb1)
      clear hb1
      go_wp2_with fail
      refine (D17.out _).mono ?_
      rintro e w1 ⟨rfl, hb1⟩
      replace hB := Lib.hid (keep_trans hB.out hb1)
      clear hb1
      go_wp2_with fail
      go_ret2
      exact ⟨ret_ii HR.out.1.symm HR.out.2.symm, hB.out⟩
    by_cases a6 : sc < 0
    · go_enter Tryd.func18, Tryd.ntmps18
      go_wp2_with fail
      refine (D0.out _).mono ?_
      rintro e w1 ⟨rfl, hb1⟩
      replace hB := Lib.hid (keep_trans hB.out hb1)
      clear hb1
      go_wp2_with fail
      refine (D2.out _).mono ?_
      rintro e w1 ⟨rfl, hb1⟩
      replace hB := Lib.hid (keep_trans hB.out hb1)
      clear hb1
      go_wp2_with fail
      refine (D5.out _).mono ?_
      rintro e w1 ⟨rfl, hb1⟩
      replace hB := Lib.hid (keep_trans hB.out hb1)
      clear hb1
      go_wp2_with fail
      refine (D8.out _).mono ?_
      rintro e w1 ⟨rfl, hb1⟩
      replace hB := Lib.hid (keep_trans hB.out hb1)
      clear hb1
      go_wp2_with fail
      refine (D11.out _).mono ?_
      rintro e w1 ⟨rfl, hb1⟩
      replace hB := Lib.hid (keep_trans hB.out hb1)
      clear hb1
      go_wp2_with fail
      refine (D14.out _).mono ?_
      rintro e w1 ⟨rfl, hb1⟩
      replace hB := Lib.hid (keep_trans hB.out hb1)
      clear hb1
      go_wp2_with fail
      refine (D17.out _).mono ?_
      rintro e w1 ⟨rfl, hb1⟩
      replace hB := Lib.hid (keep_trans hB.out hb1)
      clear hb1
      go_wp2_with fail
      go_ret2
      exact ⟨ret_ii HR.out.1.symm HR.out.2.symm, hB.out⟩
    by_cases a7 : 23 < h
    · go_enter Tryd.func18, Tryd.ntmps18
      go_wp2_with fail
      refine (D0.out _).mono ?_
      rintro e w1 ⟨rfl, hb1⟩
      replace hB := Lib.hid (keep_trans hB.out hb1)
      clear hb1
      go_wp2_with fail
      refine (D2.out _).mono ?_
      rintro e w1 ⟨rfl, hb1⟩
      replace hB := Lib.hid (keep_trans hB.out hb1)
      clear hb1
      go_wp2_with fail
      refine (D5.out _).mono ?_
      rintro e w1 ⟨rfl, hb1⟩
      replace hB := Lib.hid (keep_trans hB.out hb1)
      clear hb1
      go_wp2_with fail
      refine (D8.out _).mono ?_
      rintro e w1 ⟨rfl, hb1⟩
      replace hB := Lib.hid (keep_trans hB.out hb1)
      clear hb1
      go_wp2_with fail
      refine (D11.out _).mono ?_
      rintro e w1 ⟨rfl, hb1⟩
      replace hB := Lib.hid (keep_trans hB.out hb1)
      clear hb1
      go_wp2_with fail
      refine (D14.out _).mono ?_
      rintro e w1 ⟨rfl, hb1⟩
      replace hB := Lib.hid (keep_trans hB.out hb1)
      clear hb1
      go_wp2_with fail
      refine (D17.out _).mono ?_
      rintro e w1 ⟨rfl, hb1⟩
      replace hB := Lib.hid (keep_trans hB.out hb1)
      clear hb1
      go_wp2_with fail
      go_ret2
      exact ⟨ret_ii HR.out.1.symm HR.out.2.symm, hB.out⟩
    by_cases a8 : 59 < mi
    · go_enter Tryd.func18, Tryd.ntmps18
      go_wp2_with fail
      refine (D0.out _).mono ?_
      rintro e w1 ⟨rfl, hb1⟩
      replace hB := Lib.hid (keep_trans hB.out hb1)
      clear hb1
      go_wp2_with fail
      refine (D2.out _).mono ?_
      rintro e w1 ⟨rfl, hb1⟩
      replace hB := Lib.hid (keep_trans hB.out hb1)
      clear hb1
      go_wp2_with fail
      refine (D5.out _).mono ?_
      rintro e w1 ⟨rfl, hb1⟩
      replace hB := Lib.hid (keep_trans hB.out hb1)
      clear hb1
      go_wp2_with fail
      refine (D8.out _).mono ?_
      rintro e w1 ⟨rfl, hb1⟩
      replace hB := Lib.hid (keep_trans hB.out hb1)
      clear hb1
      go_wp2_with fail
      refine (D11.out _).mono ?_
      rintro e w1 ⟨rfl, hb1⟩
      replace hB := Lib.hid (keep_trans hB.out hb1)
      clear hb1
      go_wp2_with fail
      refine (D14.out _).mono ?_
      rintro e w1 ⟨rfl, hb1⟩
      replace hB := Lib.hid (keep_trans hB.out hb1)
      clear hb1
      go_wp2_with fail
      refine (D17.out _).mono ?_
      rintro e w1 ⟨rfl, hb1⟩
      replace hB := Lib.hid (keep_trans hB.out hb1)
      clear hb1
      go_wp2_with fail
      go_ret2
      exact ⟨ret_ii HR.out.1.symm HR.out.2.symm, hB.out⟩
    by_cases a9 : 59 < sc
    · go_enter Tryd.func18, Tryd.ntmps18
      go_wp2_with fail
      refine (D0.out _).mono ?_
      rintro e w1 ⟨rfl, hb1⟩
      replace hB := Lib.hid (keep_trans hB.out hb1)
      clear hb1
      go_wp2_with fail
      refine (D2.out _).mono ?_
      rintro e w1 ⟨rfl, hb1⟩
      replace hB := Lib.hid (keep_trans hB.out hb1)
      clear hb1
      go_wp2_with fail
      refine (D5.out _).mono ?_
      rintro e w1 ⟨rfl, hb1⟩
      replace hB := Lib.hid (keep_trans hB.out hb1)
      clear hb1
      go_wp2_with fail
      refine (D8.out _).mono ?_
      rintro e w1 ⟨rfl, hb1⟩
      replace hB := Lib.hid (keep_trans hB.out hb1)
      clear hb1
      go_wp2_with fail
      refine (D11.out _).mono ?_
      rintro e w1 ⟨rfl, hb1⟩
      replace hB := Lib.hid (keep_trans hB.out hb1)
      clear hb1
      go_wp2_with fail
      refine (D14.out _).mono ?_
      rintro e w1 ⟨rfl, hb1⟩
      replace hB := Lib.hid (keep_trans hB.out hb1)
      clear hb1
      go_wp2_with fail
      refine (D17.out _).mono ?_
      rintro e w1 ⟨rfl, hb1⟩
      replace hB := Lib.hid (keep_trans hB.out hb1)
      clear hb1
      go_wp2_with fail
      go_ret2
      exact ⟨ret_ii HR.out.1.symm HR.out.2.symm, hB.out⟩
    have hyy : y = hi * 100 + lo := by rw [H4.out, if_pos ⟨by omega, by omega⟩]; omega
    have C := Lib.hid (fun W => rdays_any y m W)
    have HY := Lib.hid hyy
    rw [hyy] at C
    by_cases a10 : Wh.dim y m < d
    · have hdm : Wh.dim (hi * 100 + lo) m < d := by rw [← hyy]; exact a10
      have db := Wh.dim_bd (hi * 100 + lo) m
      clear hyy a10
      generalize Wh.dim (hi * 100 + lo) m = dm at *
      go_enter Tryd.func18, Tryd.ntmps18
      go_wp2_with fail
      refine (D0.out _).mono ?_
      rintro e w1 ⟨rfl, hb1⟩
      replace hB := Lib.hid (keep_trans hB.out hb1)
      clear hb1
      go_wp2_with fail
      refine (D2.out _).mono ?_
      rintro e w1 ⟨rfl, hb1⟩
      replace hB := Lib.hid (keep_trans hB.out hb1)
      clear hb1
      go_wp2_with fail
      refine (D5.out _).mono ?_
      rintro e w1 ⟨rfl, hb1⟩
      replace hB := Lib.hid (keep_trans hB.out hb1)
      clear hb1
      go_wp2_with fail
      refine (D8.out _).mono ?_
      rintro e w1 ⟨rfl, hb1⟩
      replace hB := Lib.hid (keep_trans hB.out hb1)
      clear hb1
      go_wp2_with fail
      refine (D11.out _).mono ?_
      rintro e w1 ⟨rfl, hb1⟩
      replace hB := Lib.hid (keep_trans hB.out hb1)
      clear hb1
      go_wp2_with fail
      refine (D14.out _).mono ?_
      rintro e w1 ⟨rfl, hb1⟩
      replace hB := Lib.hid (keep_trans hB.out hb1)
      clear hb1
      go_wp2_with fail
      refine (D17.out _).mono ?_
      rintro e w1 ⟨rfl, hb1⟩
      replace hB := Lib.hid (keep_trans hB.out hb1)
      clear hb1
      go_wp2_with fail
      refine (C.out _).mono ?_
      rintro e _ ⟨rfl, rfl⟩
      go_wp2_with fail
      go_ret2
      exact ⟨ret_ii HR.out.1.symm HR.out.2.symm, hB.out⟩
    exact absurd ⟨by omega, by omega, ⟨by omega, by omega⟩, ⟨by omega, by omega⟩, ⟨by omega, by omega⟩⟩ G2.out
  · have n1 : ((s.size : Int) != 20) = true := by rw [bne_iff_ne]; omega
    clear hz
    go_enter Tryd.func18, Tryd.ntmps18
    go_wp2_with fail
    go_ret2
    exact ⟨ret_ii HR.out.1.symm HR.out.2.symm, hB.out⟩

set_option maxRecDepth 100000 in
set_option maxHeartbeats 4000000 in
theorem rread_yes (s : ByteArray) (w : World) (hg : Wh.good s = true) :
    Calls Tryd.prog 18 #[.string s] w fun e w' => e = .returned (.tuple #[.int .i64 (Wh.rdV s), .int .i64 (Wh.rdE s)]) ∧ Below w.heap.size w w' := by
  obtain ⟨hz, hsep, hd, ht⟩ := (Wh.good_iff s).1 hg
  have hv : Wh.rdV s = Wh.sec (Wh.f4 s) (Wh.f2 s 5) (Wh.f2 s 8) (Wh.f2 s 11) (Wh.f2 s 14) (Wh.f2 s 17) ∧ Wh.rdE s = 0 := by
    unfold Wh.rdV Wh.rdE; rw [hg]; exact ⟨rfl, rfl⟩
  have hB : Hid (Below w.heap.size w w) := Below.refl _ _
  have hz1 : 20 ≤ s.size := by omega
  have hz2 : s.size ≤ 20 := by omega
  have n0 : ((s.size : Int) != 20) = false := by rw [bne_eq_false_iff_eq]; omega
  clear hz
  unfold Wh.seps at hsep
  simp only [Bool.and_eq_true, beq_iff_eq] at hsep
  obtain ⟨⟨⟨⟨⟨s4, s7⟩, s10⟩, s13⟩, s16⟩, s19⟩ := hsep
  rw [Uf.b_at s 4 (by omega)] at s4
  rw [Uf.b_at s 7 (by omega)] at s7
  rw [Uf.b_at s 10 (by omega)] at s10
  rw [Uf.b_at s 13 (by omega)] at s13
  rw [Uf.b_at s 16 (by omega)] at s16
  rw [Uf.b_at s 19 (by omega)] at s19
  have n4 : ((s[4].toNat : Int) != 45) = false := by rw [bne_eq_false_iff_eq]; omega
  have n7 : ((s[7].toNat : Int) != 45) = false := by rw [bne_eq_false_iff_eq]; omega
  have n10 : ((s[10].toNat : Int) != 84) = false := by rw [bne_eq_false_iff_eq]; omega
  have n13 : ((s[13].toNat : Int) != 58) = false := by rw [bne_eq_false_iff_eq]; omega
  have n16 : ((s[16].toNat : Int) != 58) = false := by rw [bne_eq_false_iff_eq]; omega
  have n19 : ((s[19].toNat : Int) != 90) = false := by rw [bne_eq_false_iff_eq]; omega
  clear hg s4 s7 s10 s13 s16 s19
  have D0 := Lib.hid (fun W => rnum_any s 0 0 W rfl (by omega) (by omega))
  have D2 := Lib.hid (fun W => rnum_any s 2 2 W rfl (by omega) (by omega))
  have D5 := Lib.hid (fun W => rnum_any s 5 5 W rfl (by omega) (by omega))
  have D8 := Lib.hid (fun W => rnum_any s 8 8 W rfl (by omega) (by omega))
  have D11 := Lib.hid (fun W => rnum_any s 11 11 W rfl (by omega) (by omega))
  have D14 := Lib.hid (fun W => rnum_any s 14 14 W rfl (by omega) (by omega))
  have D17 := Lib.hid (fun W => rnum_any s 17 17 W rfl (by omega) (by omega))
  have h4 : Wh.f4 s = if 0 ≤ Wh.f2 s 0 ∧ 0 ≤ Wh.f2 s 2 then 100 * Wh.f2 s 0 + Wh.f2 s 2 else -1 := rfl
  have q0 := Wh.f2_bd s 0; have qq2 := Wh.f2_bd s 2
  have hy1 := hd.y1
  have h5 : 0 ≤ Wh.f2 s 0 ∧ 0 ≤ Wh.f2 s 2 ∧ Wh.f4 s = Wh.f2 s 0 * 100 + Wh.f2 s 2 := by
    rw [h4] at hy1 ⊢
    split at hy1
    · rename_i hc
      rw [if_pos hc]
      exact ⟨hc.1, hc.2, by omega⟩
    · omega
  have q1 := hd.y1; have q2 := hd.y2; have q3 := hd.m1; have q4 := hd.m2; have q5 := hd.d1; have q6 := hd.d2
  have q7 := ht.h1; have q8 := ht.h2; have q9 := ht.m1; have q10 := ht.m2; have q11 := ht.s1; have q12 := ht.s2
  have db := Wh.dim_bd (Wh.f4 s) (Wh.f2 s 5)
  have HV := Lib.hid hv
  have hS := Wh.start_bd (Wh.f4 s) q1 (by omega)
  clear hd ht hv h4 hy1
  generalize Wh.f4 s = y at *
  generalize Wh.f2 s 0 = hi at *
  generalize Wh.f2 s 2 = lo at *
  generalize Wh.f2 s 5 = m at *
  generalize Wh.f2 s 8 = d at *
  generalize Wh.f2 s 11 = h at *
  generalize Wh.f2 s 14 = mi at *
  generalize Wh.f2 s 17 = sc at *
  obtain ⟨h50, h51, hyy⟩ := h5
  have C := Lib.hid (fun W => rdays_any y m W)
  rw [hyy] at C
  have HY := Lib.hid hyy
  have hdm : d ≤ Wh.dim (hi * 100 + lo) m := by rw [← hyy]; exact q6
  have hdb : 0 ≤ Wh.dim (hi * 100 + lo) m ∧ Wh.dim (hi * 100 + lo) m ≤ 31 := Wh.dim_bd _ _
  have bdy : 1970 ≤ hi * 100 + lo ∧ hi * 100 + lo ≤ 9999 := by omega
  clear hyy
  generalize Wh.dim (hi * 100 + lo) m = dm at *
  go_enter Tryd.func18, Tryd.ntmps18
  go_wp2_with fail
  refine (D0.out _).mono ?_
  rintro e w1 ⟨rfl, hb1⟩
  replace hB := Lib.hid (keep_trans hB.out hb1)
  clear hb1
  go_wp2_with fail
  refine (D2.out _).mono ?_
  rintro e w1 ⟨rfl, hb1⟩
  replace hB := Lib.hid (keep_trans hB.out hb1)
  clear hb1
  go_wp2_with fail
  refine (D5.out _).mono ?_
  rintro e w1 ⟨rfl, hb1⟩
  replace hB := Lib.hid (keep_trans hB.out hb1)
  clear hb1
  go_wp2_with fail
  refine (D8.out _).mono ?_
  rintro e w1 ⟨rfl, hb1⟩
  replace hB := Lib.hid (keep_trans hB.out hb1)
  clear hb1
  go_wp2_with fail
  refine (D11.out _).mono ?_
  rintro e w1 ⟨rfl, hb1⟩
  replace hB := Lib.hid (keep_trans hB.out hb1)
  clear hb1
  go_wp2_with fail
  refine (D14.out _).mono ?_
  rintro e w1 ⟨rfl, hb1⟩
  replace hB := Lib.hid (keep_trans hB.out hb1)
  clear hb1
  go_wp2_with fail
  refine (D17.out _).mono ?_
  rintro e w1 ⟨rfl, hb1⟩
  replace hB := Lib.hid (keep_trans hB.out hb1)
  clear hb1
  go_wp2_with fail
  refine (C.out _).mono ?_
  rintro e _ ⟨rfl, rfl⟩
  go_wp2_with fail
  rw [← HY.out]
  go_loopw [12, 13] (fun u v wr => ∃ a : Int, 1970 ≤ a ∧ a ≤ y ∧ v = .int .i64 a ∧ u = .int .i64 (d - 1 + Wh.start a) ∧ Hid (Below w.heap.size w wr)) (fun _ v _ => (y - intOf v).toNat)
  case atStart => exact ⟨1970, by omega, q1, rfl, by rw [Wh.start_0, Int.add_zero], hB⟩
  case round =>
    clear hB
    obtain ⟨a, ha, hay, rfl, rfl, hB⟩ := hrel
    have hsa := Wh.start_bd a ha (by omega)
    by_cases hlt : a < y
    · have hs1 := Wh.start_succ a
      have CL := Lib.hid (fun W => rleap_any a W (by omega))
      rcases Wh.lp_cases a with ⟨l1, l2⟩ | ⟨l1, l2⟩
      · have L := Lib.hid l1
        have HS : Hid (Wh.start (a + 1) = Wh.start a + 366) := by show _ = _; rw [hs1, l2]; omega
        clear l1 l2 hs1
        go_wp2_with fail
        refine (CL.out _).mono ?_
        rintro e _ ⟨rfl, rfl⟩
        rw [L.out]
        go_wp2_with fail
        go_roundw
        case rel => exact ⟨a + 1, by omega, by omega, rfl, by rw [HS.out]; congr 1; omega, hB⟩
        case measure => simp [intOf]; omega
      · have L := Lib.hid l1
        have HS : Hid (Wh.start (a + 1) = Wh.start a + 365) := by show _ = _; rw [hs1, l2]; omega
        clear l1 l2 hs1
        go_wp2_with fail
        refine (CL.out _).mono ?_
        rintro e _ ⟨rfl, rfl⟩
        rw [L.out]
        go_wp2_with fail
        go_roundw
        case rel => exact ⟨a + 1, by omega, by omega, rfl, by rw [HS.out]; congr 1; omega, hB⟩
        case measure => simp [intOf]; omega
    · obtain rfl : a = y := by omega
      go_wp2_with fail
      go_loopw [12, 14] (fun u v wr => ∃ b : Int, 1 ≤ b ∧ b ≤ m ∧ v = .int .i64 b ∧ u = .int .i64 (d - 1 + Wh.start a + Wh.cm a b) ∧ Hid (Below w.heap.size w wr)) (fun _ v _ => (m - intOf v).toNat)
      case atStart => exact ⟨1, by omega, q3, rfl, by rw [Wh.cm_1, Int.add_zero], hB⟩
      case round =>
        clear hB
        obtain ⟨b, hb1, hbm, rfl, rfl, hB⟩ := hrel
        have hcb := Wh.cm_bd (y := a) (m := b) hb1 (by omega)
        by_cases hlt : b < m
        · have hc1 := Wh.cm_succ (y := a) (m := b) q1 q2 hb1 (by omega)
          have hdb2 := Wh.dim_bd a b
          have CD := Lib.hid (fun W => rdays_any a b W)
          have hcs := Lib.hid hc1
          clear hc1
          generalize Wh.dim a b = D at *
          go_wp2_with fail
          refine (CD.out _).mono ?_
          rintro e _ ⟨rfl, rfl⟩
          go_wp2_with fail
          go_roundw
          case rel => exact ⟨b + 1, by omega, by omega, rfl, by rw [hcs.out]; congr 1; omega, hB⟩
          case measure => simp [intOf]; omega
        · obtain rfl : b = m := by omega
          have HVV : Hid (Wh.rdV s = (d - 1 + Wh.start a + Wh.cm a b) * 86400 + (h * 3600 + mi * 60 + sc)) := by
            show _ = _
            rw [HV.out.1]
            unfold Wh.sec Wh.dn
            omega
          generalize Wh.start a = S at *
          generalize Wh.cm a b = M at *
          go_wp2_with fail
          go_ret2
          exact ⟨ret_ii (by first | exact HVV.out.symm | (rw [HVV.out]; omega)) HV.out.2.symm, hB.out⟩
theorem rread_any (s : ByteArray) (w : World) (hs : s.size ≤ maxLen) :
    Calls Tryd.prog 18 #[.string s] w fun e w' => e = .returned (.tuple #[.int .i64 (Wh.rdV s), .int .i64 (Wh.rdE s)]) ∧ Below w.heap.size w w' := by
  cases h : Wh.good s with
  | true => exact rread_yes s w h
  | false => exact rread_no s w hs h
set_option maxHeartbeats 1000000 in
theorem rshow_no (n : Int) (w : World) (h : n < 0 ∨ 253402300799 < n) :
    Calls Tryd.prog 19 #[.int .i64 n] w fun e w' => e = .returned (.tuple #[.string ⟨#[]⟩, .int .i64 1]) ∧ w = w' := by
  rcases h with h | h
  · go_enter Tryd.func19, Tryd.ntmps19
    go_wp2_with fail
    go_ret2
    exact ⟨rfl, rfl⟩
  · have h' : ¬ n < 0 := by omega
    go_enter Tryd.func19, Tryd.ntmps19
    go_wp2_with fail
    go_ret2
    exact ⟨rfl, rfl⟩
set_option maxRecDepth 100000 in
set_option maxHeartbeats 4000000 in
theorem rshow_any (n y m d : Int) (w : World) (h0 : 0 ≤ n) (h1 : n ≤ 253402300799) (hd : Wh.VD y m d) (hn : Wh.dn y m d = n / 86400) :
    Calls Tryd.prog 19 #[.int .i64 n] w fun e w' => e = .returned (.tuple #[.string (Wh.txn y m d n), .int .i64 0]) ∧ Below w.heap.size w w' := by
  have hB : Hid (Below w.heap.size w w) := Below.refl _ _
  have q1 := hd.y1; have q2 := hd.y2; have q3 := hd.m1; have q4 := hd.m2; have q5 := hd.d1; have q6 := hd.d2
  have hw := hd.within
  have db := Wh.dim_bd y m
  have hS := Wh.start_bd y q1 (by omega)
  have hkd : Hid (Wh.dn y m d = Wh.start y + Wh.cm y m + d - 1) := rfl
  obtain ⟨k, hk⟩ : ∃ k, k = n / 86400 := ⟨_, rfl⟩
  rw [hn, ← hk] at hw
  have HK : Hid (Wh.start y + Wh.cm y m + d - 1 = k) := by have := hkd.out; show _ = _; rw [← this, hn, hk]
  have hk0 : 0 ≤ n / 86400 ∧ n / 86400 ≤ 2932896 := by omega
  have hr0 : 0 ≤ n % 86400 ∧ n % 86400 ≤ 86399 := by omega
  rw [← hk] at hk0
  obtain ⟨r, hr⟩ : ∃ r, r = n % 86400 := ⟨_, rfl⟩
  rw [← hr] at hr0
  have HX : Hid (Wh.txn y m d n = Wh.tx y m d (r / 3600) (r / 60 % 60) (r % 60)) := by show _ = _; unfold Wh.txn; rw [hr]
  have P0 := Lib.hid (fun W => two_any (y / 100) W (by omega) (by omega))
  have P1 := Lib.hid (fun W => two_any (y % 100) W (by omega) (by omega))
  have P2 := Lib.hid (fun W => two_any m W (by omega) (by omega))
  have P3 := Lib.hid (fun W => two_any d W (by omega) (by omega))
  have P4 := Lib.hid (fun W => two_any (r / 3600) W (by omega) (by omega))
  have P5 := Lib.hid (fun W => two_any (r / 60 % 60) W (by omega) (by omega))
  have P6 := Lib.hid (fun W => two_any (r % 60) W (by omega) (by omega))
  have z1 : (Wh.d2 (y / 100)).size ≤ 2 := Nat.le_refl _
  have z2 : (Wh.d2 (y % 100)).size ≤ 2 := Nat.le_refl _
  have z3 : (Wh.d2 m).size ≤ 2 := Nat.le_refl _
  have z4 : (Wh.d2 d).size ≤ 2 := Nat.le_refl _
  have z5 : (Wh.d2 (r / 3600)).size ≤ 2 := Nat.le_refl _
  have z6 : (Wh.d2 (r / 60 % 60)).size ≤ 2 := Nat.le_refl _
  have z7 : (Wh.d2 (r % 60)).size ≤ 2 := Nat.le_refl _
  have hk' : n / 86400 = k := hk.symm
  have hr' : n % 86400 = r := hr.symm
  clear hd hn hkd hk hr
  go_enter Tryd.func19, Tryd.ntmps19
  go_wp2_with fail
  rw [hk', hr']
  clear hk' hr'
  go_loopw [4, 6] (fun u v wr => ∃ a : Int, 1970 ≤ a ∧ a ≤ y ∧ v = .int .i64 a ∧ u = .int .i64 (k - Wh.start a) ∧ Hid (Below w.heap.size w wr)) (fun _ v _ => (y - intOf v).toNat)
  case atStart => exact ⟨1970, by omega, q1, rfl, by rw [Wh.start_0, Int.sub_zero], hB⟩
  case round =>
    clear hB
    obtain ⟨a, ha, hay, rfl, rfl, hB⟩ := hrel
    have hsa := Wh.start_bd a ha (by omega)
    have hs1 := Wh.start_succ a
    have CL := Lib.hid (fun W => rleap_any a W (by omega))
    by_cases hlt : a < y
    · have hs2 := Wh.start_mono (a + 1) y (by omega)
      rcases Wh.lp_cases a with ⟨l1, l2⟩ | ⟨l1, l2⟩
      · have L := Lib.hid l1
        have HS : Hid (Wh.start (a + 1) = Wh.start a + 366) := by show _ = _; rw [hs1, l2]; omega
        have hge : 366 ≤ k - Wh.start a := by omega
        clear l1 l2 hs1 hs2
        go_wp2_with fail
        refine (CL.out _).mono ?_
        rintro e _ ⟨rfl, rfl⟩
        rw [L.out]
        go_wp2_with fail
        go_roundw
        case rel => exact ⟨a + 1, by omega, by omega, rfl, by rw [HS.out]; congr 1; omega, hB⟩
        case measure => simp [intOf]; omega
      · have L := Lib.hid l1
        have HS : Hid (Wh.start (a + 1) = Wh.start a + 365) := by show _ = _; rw [hs1, l2]; omega
        have hge : 365 ≤ k - Wh.start a := by omega
        clear l1 l2 hs1 hs2
        go_wp2_with fail
        refine (CL.out _).mono ?_
        rintro e _ ⟨rfl, rfl⟩
        rw [L.out]
        go_wp2_with fail
        go_roundw
        case rel => exact ⟨a + 1, by omega, by omega, rfl, by rw [HS.out]; congr 1; omega, hB⟩
        case measure => simp [intOf]; omega
    · obtain rfl : a = y := by omega
      rcases Wh.lp_cases a with ⟨l1, l2⟩ | ⟨l1, l2⟩
      · have L := Lib.hid l1
        have hge : k - Wh.start a < 366 := by omega
        clear l1 l2 hs1
        go_wp2_with fail
        refine (CL.out _).mono ?_
        rintro e _ ⟨rfl, rfl⟩
        rw [L.out]
        go_wp2_with fail
        go_loopw [4, 8] (fun u v wr => ∃ b : Int, 1 ≤ b ∧ b ≤ m ∧ v = .int .i64 b ∧ u = .int .i64 (k - Wh.start a - Wh.cm a b) ∧ Hid (Below w.heap.size w wr)) (fun _ v _ => (m - intOf v).toNat)
        case atStart => exact ⟨1, by omega, q3, rfl, by rw [Wh.cm_1, Int.sub_zero], hB⟩
        case round =>
          clear hB
          obtain ⟨b, hb1, hbm, rfl, rfl, hB⟩ := hrel
          have hcb := Wh.cm_bd (y := a) (m := b) hb1 (by omega)
          by_cases hlt : b < m
          · have hc2 := Wh.cm_mono (y := a) q1 q2 (a := b + 1) (b := m) (by omega) (by omega) (by omega)
            have hc1 := Wh.cm_succ (y := a) (m := b) q1 q2 hb1 (by omega)
            have hdb := Wh.dim_bd a b
            have C := Lib.hid (fun W => rdays_any a b W)
            have hcs := Lib.hid hc1
            have hc3 : Wh.cm a b + Wh.dim a b ≤ k - Wh.start a := by omega
            clear hc1
            generalize Wh.dim a b = D at *
            go_wp2_with fail
            refine (C.out _).mono ?_
            rintro e _ ⟨rfl, rfl⟩
            go_wp2_with fail
            refine (C.out _).mono ?_
            rintro e _ ⟨rfl, rfl⟩
            go_wp2_with fail
            go_roundw
            case rel => exact ⟨b + 1, by omega, by omega, rfl, by rw [hcs.out]; congr 1; omega, hB⟩
            case measure => simp [intOf]; omega
          · obtain rfl : b = m := by omega
            have hday : k - Wh.start a - Wh.cm a b = d - 1 := by have := HK.out; omega
            have hdl : d - 1 < Wh.dim a b := by omega
            have C := Lib.hid (fun W => rdays_any a b W)
            rw [hday]
            clear hday hw hcb
            generalize Wh.dim a b = D at *
            go_wp2_with fail
            refine (C.out _).mono ?_
            rintro e _ ⟨rfl, rfl⟩
            go_wp2_with fail
            refine (P0.out _).mono ?_
            rintro e w1 ⟨rfl, hb1⟩
            replace hB := Lib.hid (keep_trans hB.out hb1)
            clear hb1
            go_wp2_with fail
            refine (P1.out _).mono ?_
            rintro e w1 ⟨rfl, hb1⟩
            replace hB := Lib.hid (keep_trans hB.out hb1)
            clear hb1
            go_wp2_with fail
            refine (P2.out _).mono ?_
            rintro e w1 ⟨rfl, hb1⟩
            replace hB := Lib.hid (keep_trans hB.out hb1)
            clear hb1
            go_wp2_with fail
            refine (P3.out _).mono ?_
            rintro e w1 ⟨rfl, hb1⟩
            replace hB := Lib.hid (keep_trans hB.out hb1)
            clear hb1
            go_wp2_with fail
            refine (P4.out _).mono ?_
            rintro e w1 ⟨rfl, hb1⟩
            replace hB := Lib.hid (keep_trans hB.out hb1)
            clear hb1
            go_wp2_with fail
            refine (P5.out _).mono ?_
            rintro e w1 ⟨rfl, hb1⟩
            replace hB := Lib.hid (keep_trans hB.out hb1)
            clear hb1
            go_wp2_with fail
            refine (P6.out _).mono ?_
            rintro e w1 ⟨rfl, hb1⟩
            replace hB := Lib.hid (keep_trans hB.out hb1)
            clear hb1
            go_wp2_with fail
            go_ret2
            exact ⟨ret_si HX.out.symm rfl, hB.out⟩
      · have L := Lib.hid l1
        have hge : k - Wh.start a < 365 := by omega
        clear l1 l2 hs1
        go_wp2_with fail
        refine (CL.out _).mono ?_
        rintro e _ ⟨rfl, rfl⟩
        rw [L.out]
        go_wp2_with fail
        go_loopw [4, 8] (fun u v wr => ∃ b : Int, 1 ≤ b ∧ b ≤ m ∧ v = .int .i64 b ∧ u = .int .i64 (k - Wh.start a - Wh.cm a b) ∧ Hid (Below w.heap.size w wr)) (fun _ v _ => (m - intOf v).toNat)
        case atStart => exact ⟨1, by omega, q3, rfl, by rw [Wh.cm_1, Int.sub_zero], hB⟩
        case round =>
          clear hB
          obtain ⟨b, hb1, hbm, rfl, rfl, hB⟩ := hrel
          have hcb := Wh.cm_bd (y := a) (m := b) hb1 (by omega)
          by_cases hlt : b < m
          · have hc2 := Wh.cm_mono (y := a) q1 q2 (a := b + 1) (b := m) (by omega) (by omega) (by omega)
            have hc1 := Wh.cm_succ (y := a) (m := b) q1 q2 hb1 (by omega)
            have hdb := Wh.dim_bd a b
            have C := Lib.hid (fun W => rdays_any a b W)
            have hcs := Lib.hid hc1
            have hc3 : Wh.cm a b + Wh.dim a b ≤ k - Wh.start a := by omega
            clear hc1
            generalize Wh.dim a b = D at *
            go_wp2_with fail
            refine (C.out _).mono ?_
            rintro e _ ⟨rfl, rfl⟩
            go_wp2_with fail
            refine (C.out _).mono ?_
            rintro e _ ⟨rfl, rfl⟩
            go_wp2_with fail
            go_roundw
            case rel => exact ⟨b + 1, by omega, by omega, rfl, by rw [hcs.out]; congr 1; omega, hB⟩
            case measure => simp [intOf]; omega
          · obtain rfl : b = m := by omega
            have hday : k - Wh.start a - Wh.cm a b = d - 1 := by have := HK.out; omega
            have hdl : d - 1 < Wh.dim a b := by omega
            have C := Lib.hid (fun W => rdays_any a b W)
            rw [hday]
            clear hday hw hcb
            generalize Wh.dim a b = D at *
            go_wp2_with fail
            refine (C.out _).mono ?_
            rintro e _ ⟨rfl, rfl⟩
            go_wp2_with fail
            refine (P0.out _).mono ?_
            rintro e w1 ⟨rfl, hb1⟩
            replace hB := Lib.hid (keep_trans hB.out hb1)
            clear hb1
            go_wp2_with fail
            refine (P1.out _).mono ?_
            rintro e w1 ⟨rfl, hb1⟩
            replace hB := Lib.hid (keep_trans hB.out hb1)
            clear hb1
            go_wp2_with fail
            refine (P2.out _).mono ?_
            rintro e w1 ⟨rfl, hb1⟩
            replace hB := Lib.hid (keep_trans hB.out hb1)
            clear hb1
            go_wp2_with fail
            refine (P3.out _).mono ?_
            rintro e w1 ⟨rfl, hb1⟩
            replace hB := Lib.hid (keep_trans hB.out hb1)
            clear hb1
            go_wp2_with fail
            refine (P4.out _).mono ?_
            rintro e w1 ⟨rfl, hb1⟩
            replace hB := Lib.hid (keep_trans hB.out hb1)
            clear hb1
            go_wp2_with fail
            refine (P5.out _).mono ?_
            rintro e w1 ⟨rfl, hb1⟩
            replace hB := Lib.hid (keep_trans hB.out hb1)
            clear hb1
            go_wp2_with fail
            refine (P6.out _).mono ?_
            rintro e w1 ⟨rfl, hb1⟩
            replace hB := Lib.hid (keep_trans hB.out hb1)
            clear hb1
            go_wp2_with fail
            go_ret2
            exact ⟨ret_si HX.out.symm rfl, hB.out⟩
end Go.Proofs.YtmpbejiknejogaaDoor
