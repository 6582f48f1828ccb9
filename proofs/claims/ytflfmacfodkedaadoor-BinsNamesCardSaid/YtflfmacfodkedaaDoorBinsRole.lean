/-
  The walks of package bins, and of the document's words beside it: Role, Goes.
-/
import Derived.Test.YtflfmacfodkedaaDoorBinsWrong
namespace Go.Proofs.YtflfmacfodkedaaDoor
set_option linter.unusedSimpArgs false
set_option linter.unusedVariables false
open Go Go.RowKit
attribute [local irreducible] Sh.sha shaS

theorem role_err {b : Int} {p : ByteArray} {n : Nat} (h : Bn.wrong b p ≠ 0) : Bn.roleS b p n = ⟨#[]⟩ ∧ Bn.roleE b p n = Bn.wrong b p := by
  have e : Bn.roleE b p n = Bn.wrong b p := by unfold Bn.roleE; rw [if_neg h]
  exact ⟨by unfold Bn.roleS; rw [e, if_neg h], e⟩
theorem role_arg {k : Nat} {p : ByteArray} {n : Nat} (h : Bn.wrong k p = 0) (hn : ¬ n < 2 ^ k) : Bn.roleS k p n = ⟨#[]⟩ ∧ Bn.roleE k p n = 1 := by
  have hb : Bn.hasB k n = false := by unfold Bn.hasB; rw [decide_eq_false (by simpa using hn), Bool.and_false]
  have e : Bn.roleE k p n = 1 := by unfold Bn.roleE; rw [if_pos h, hb]; rfl
  exact ⟨by unfold Bn.roleS; rw [e]; rfl, e⟩
theorem role_ok {k : Nat} {p : ByteArray} {n : Nat} (h : Bn.wrong k p = 0) (hn : n < 2 ^ k) : Bn.roleS k p n = p ++ ⟨#[45]⟩ ++ Bn.text n (Bn.wid k) ∧ Bn.roleE k p n = 0 := by
  have hb : Bn.hasB k n = true := by unfold Bn.hasB; rw [(Bn.wrong_zero h).1]; simpa using hn
  have e : Bn.roleE k p n = 0 := by unfold Bn.roleE; rw [if_pos h, hb]; rfl
  exact ⟨by unfold Bn.roleS; rw [e]; rfl, e⟩
set_option maxRecDepth 20000 in
set_option maxHeartbeats 2000000 in
theorem bRole_any (th b : Int) (A : Option Addr) (l c : Nat) (p : ByteArray) (n : Nat) (w : World) (hp : p.size ≤ 1000000) (hn : n < 4294967296) :
    Calls Tryd.prog 20 #[.agg #[.int .i64 th, .slice A l c, .int .i64 b, .string p], .int .u32 n] w fun e w' => e = .returned (.tuple #[.string (Bn.roleS b p n), .int .i64 (Bn.roleE b p n)]) ∧ Below w.heap.size w w' := by
  by_cases hw0 : Bn.wrong b p = 0
  · obtain ⟨hm, hr, h64⟩ := Bn.wrong_zero hw0
    obtain ⟨k, rfl, hk1, hk2⟩ := Bn.may_nat hm
    have hw := (Bn.wid_le hk1 hk2).2.1
    have hp64 : p.size ≤ 64 := by omega
    clear h64 hr hm
    by_cases hlt : n < 2 ^ k
    · have E := Lib.hid (role_ok hw0 hlt)
      have hd : decide (n < 2 ^ k) = true := decide_eq_true hlt
      go_enter Tryd.func20, Tryd.ntmps20
      go_wp2_with fail
      refine (bWrong_any th k A l c p _ hp).mono ?_
      rintro e w1 ⟨rfl, hb⟩
      rw [hw0]
      have hk := Lib.hid ((Bk.fresh w 34 #[.int .i64 th, .slice A l c, .int .i64 k, .string p]).below hb (Bk.fresh w 34 #[.int .i64 th, .slice A l c, .int .i64 k, .string p]).lt)
      have hB := Lib.hid (((Below.refl w.heap.size w).alloc (Nat.le_refl _) _).trans (hb.mono (by simp)))
      clear hb
      have c2 : w1.cell? ⟨w.heap.size, 2, none⟩ = some (.int .i64 k) := hk.out.cell 2
      have c3 : w1.cell? ⟨w.heap.size, 3, none⟩ = some (.string p) := hk.out.cell 3
      go_wp2_with fail
      refine (bhas_any k n _ hk1 hk2 hn).mono ?_
      rintro e _ ⟨rfl, rfl⟩
      rw [hd]
      go_wp2_with fail
      have b2 : ∀ dd os, (Sort.grow (redrawn w1 dd) os).cell? ⟨w.heap.size, 2, none⟩ = some (.int .i64 k) := fun dd os => ((below_regrown w1 dd os).cell (p := ⟨w.heap.size, 2, none⟩) hk.out.lt).trans (hk.out.cell 2)
      have b3 : ∀ dd os, (Sort.grow (redrawn w1 dd) os).cell? ⟨w.heap.size, 3, none⟩ = some (.string p) := fun dd os => ((below_regrown w1 dd os).cell (p := ⟨w.heap.size, 3, none⟩) hk.out.lt).trans (hk.out.cell 3)
      have T : Hid (∀ W, Calls Tryd.prog 44 #[.int .i64 k] W fun e w' => e = .returned (.int .i64 (Bn.wid k : Nat)) ∧ Below W.heap.size W w') := fun W => (bwidth_any k W (by omega)).mono fun e w' h => ⟨h.1, by rw [← h.2]; exact Below.refl _ _⟩
      have TX : Hid (∀ W, Calls Tryd.prog 45 #[.int .u32 n, .int .i64 (Bn.wid k : Nat)] W fun e w' => e = .returned (.string (Bn.text n (Bn.wid k))) ∧ Below W.heap.size W w') := fun W => btext_any n _ W hn hw
      have hz := Bn.text_size n (Bn.wid k)
      generalize Bn.text n (Bn.wid k) = t at *
      generalize Bn.wid k = d at *
      refine wp_region_quiet_below (by kernel_rfl) (by kernel_rfl) ?_
      repeat (go_big_quiet_step ((first | (go_at_call 44; with_reducible exact Calls.regrown_of (T.out _)) | (go_at_call 45; with_reducible exact Calls.regrown_of (TX.out _)))))
      refine wpQuiet_nil ?_
      intro w3 hw3
      have hb3 : Below w1.heap.size w1 w3 := by
        obtain ⟨pp, e⟩ := hw3
        rw [e]
        exact below_regrown _ _ _
      have hB3 := Lib.hid (hB.out.trans (hb3.mono hB.out.size))
      clear hw3 hb3 b2 b3
      go_wp2_with fail
      go_ret2
      exact ⟨by rw [E.out.1, E.out.2]; rfl, hB3.out⟩
    · have E := Lib.hid (role_arg hw0 hlt)
      have hd : decide (n < 2 ^ k) = false := decide_eq_false hlt
      go_enter Tryd.func20, Tryd.ntmps20
      go_wp2_with fail
      refine (bWrong_any th k A l c p _ hp).mono ?_
      rintro e w1 ⟨rfl, hb⟩
      rw [hw0]
      have hk := Lib.hid ((Bk.fresh w 34 #[.int .i64 th, .slice A l c, .int .i64 k, .string p]).below hb (Bk.fresh w 34 #[.int .i64 th, .slice A l c, .int .i64 k, .string p]).lt)
      have hB := Lib.hid (((Below.refl w.heap.size w).alloc (Nat.le_refl _) _).trans (hb.mono (by simp)))
      clear hb
      have c2 : w1.cell? ⟨w.heap.size, 2, none⟩ = some (.int .i64 k) := hk.out.cell 2
      have c3 : w1.cell? ⟨w.heap.size, 3, none⟩ = some (.string p) := hk.out.cell 3
      go_wp2_with fail
      refine (bhas_any k n _ hk1 hk2 hn).mono ?_
      rintro e _ ⟨rfl, rfl⟩
      rw [hd]
      go_wp2_with fail
      go_ret2
      exact ⟨by rw [E.out.1, E.out.2]; rfl, hB.out⟩
  · have E := Lib.hid (role_err (n := n) hw0)
    have hne : (Bn.wrong b p != 0) = true := bne_iff_ne.2 hw0
    go_enter Tryd.func20, Tryd.ntmps20
    go_wp2_with fail
    refine (bWrong_any th b A l c p _ hp).mono ?_
    rintro e w1 ⟨rfl, hb⟩
    have hB := Lib.hid (((Below.refl w.heap.size w).alloc (Nat.le_refl _) _).trans (hb.mono (by simp)))
    clear hb
    go_wp2_with fail
    go_ret2
    exact ⟨by rw [E.out.1, E.out.2]; rfl, hB.out⟩
set_option maxRecDepth 20000 in
set_option maxHeartbeats 2000000 in
theorem rRole_any (th b : Int) (A : Option Addr) (l c : Nat) (p : ByteArray) (n : Nat) (w : World) (hp : p.size ≤ 1000000) (hn : n < 4294967296) :
    Calls Tryd.prog 21 #[.agg #[.int .i64 th, .slice A l c, .int .i64 b, .string p], .int .u32 n] w fun e w' => e = .returned (.tuple #[.string (Bn.roleS b p n), .int .i64 (Bn.roleE b p n)]) ∧ Below w.heap.size w w' := by
  by_cases hw0 : Bn.wrong b p = 0
  · obtain ⟨hm, hr, h64⟩ := Bn.wrong_zero hw0
    obtain ⟨k, rfl, hk1, hk2⟩ := Bn.may_nat hm
    have hw := (Bn.wid_le hk1 hk2).2.1
    have hp64 : p.size ≤ 64 := by omega
    clear h64 hr hm
    by_cases hlt : n < 2 ^ k
    · have E := Lib.hid (role_ok hw0 hlt)
      have hd : decide (n < 2 ^ k) = true := decide_eq_true hlt
      have hpk : 2 ^ k ≤ 2 ^ 32 := Nat.pow_le_pow_right (by omega) hk2
      have hpw2 := Lib.hid (fun W => power_any k W (by omega))
      clear hd
      generalize 2 ^ k = q at *
      have hq : q ≤ 4294967296 := hpk
      clear hpk
      go_enter Tryd.func21, Tryd.ntmps21
      go_wp2_with fail
      refine (rWrong_any th k A l c p _ hp).mono ?_
      rintro e w1 ⟨rfl, hb⟩
      rw [hw0]
      have hk := Lib.hid ((Bk.fresh w 34 #[.int .i64 th, .slice A l c, .int .i64 k, .string p]).below hb (Bk.fresh w 34 #[.int .i64 th, .slice A l c, .int .i64 k, .string p]).lt)
      have hB := Lib.hid (((Below.refl w.heap.size w).alloc (Nat.le_refl _) _).trans (hb.mono (by simp)))
      clear hb
      have c2 : w1.cell? ⟨w.heap.size, 2, none⟩ = some (.int .i64 k) := hk.out.cell 2
      have c3 : w1.cell? ⟨w.heap.size, 3, none⟩ = some (.string p) := hk.out.cell 3
      go_wp2_with fail
      refine (hpw2.out _).mono ?_
      rintro e _ ⟨rfl, rfl⟩
      go_wp2_with fail
      have T : Hid (∀ W, Calls Tryd.prog 46 #[.int .i64 k] W fun e w' => e = .returned (.int .i64 (Bn.wid k : Nat)) ∧ w' = W) := fun W => (rwidth_any k W (by omega)).mono fun e w' h => ⟨h.1, h.2.symm⟩
      have TX : Hid (∀ W, Calls Tryd.prog 47 #[.int .u64 n, .int .i64 (Bn.wid k : Nat)] W fun e w' => e = .returned (.string (Bn.text n (Bn.wid k))) ∧ w' = W) := fun W => (rdigits_any n _ W (by omega) (by omega)).mono fun e w' h => ⟨h.1, h.2.symm⟩
      have hz := Bn.text_size n (Bn.wid k)
      generalize Bn.text n (Bn.wid k) = t at *
      generalize Bn.wid k = d at *
      go_quiet ((first | (go_at_call 46; exact Calls.quiet_of_same (T.out _)) | (go_at_call 47; exact Calls.quiet_of_same (TX.out _))))
      go_wp2_with fail
      go_ret2
      exact ⟨by rw [E.out.1, E.out.2]; rfl, below_drawn hB.out nq⟩
    · have E := Lib.hid (role_arg hw0 hlt)
      have hd : decide (n < 2 ^ k) = false := decide_eq_false hlt
      have hpk : 2 ^ k ≤ 2 ^ 32 := Nat.pow_le_pow_right (by omega) hk2
      have hpw2 := Lib.hid (fun W => power_any k W (by omega))
      clear hd
      generalize 2 ^ k = q at *
      have hq : q ≤ 4294967296 := hpk
      clear hpk
      go_enter Tryd.func21, Tryd.ntmps21
      go_wp2_with fail
      refine (rWrong_any th k A l c p _ hp).mono ?_
      rintro e w1 ⟨rfl, hb⟩
      rw [hw0]
      have hk := Lib.hid ((Bk.fresh w 34 #[.int .i64 th, .slice A l c, .int .i64 k, .string p]).below hb (Bk.fresh w 34 #[.int .i64 th, .slice A l c, .int .i64 k, .string p]).lt)
      have hB := Lib.hid (((Below.refl w.heap.size w).alloc (Nat.le_refl _) _).trans (hb.mono (by simp)))
      clear hb
      have c2 : w1.cell? ⟨w.heap.size, 2, none⟩ = some (.int .i64 k) := hk.out.cell 2
      have c3 : w1.cell? ⟨w.heap.size, 3, none⟩ = some (.string p) := hk.out.cell 3
      go_wp2_with fail
      refine (hpw2.out _).mono ?_
      rintro e _ ⟨rfl, rfl⟩
      go_wp2_with fail
      go_ret2
      exact ⟨by rw [E.out.1, E.out.2]; rfl, hB.out⟩
  · have E := Lib.hid (role_err (n := n) hw0)
    have hne : (Bn.wrong b p != 0) = true := bne_iff_ne.2 hw0
    go_enter Tryd.func21, Tryd.ntmps21
    go_wp2_with fail
    refine (rWrong_any th b A l c p _ hp).mono ?_
    rintro e w1 ⟨rfl, hb⟩
    have hB := Lib.hid (((Below.refl w.heap.size w).alloc (Nat.le_refl _) _).trans (hb.mono (by simp)))
    clear hb
    go_wp2_with fail
    go_ret2
    exact ⟨by rw [E.out.1, E.out.2]; rfl, hB.out⟩
end Go.Proofs.YtflfmacfodkedaaDoor
