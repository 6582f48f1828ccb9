/-
  The walks of package bins, and of the document's words beside it: Wrong, Role, Goes.
-/
import Derived.Test.YtflfmacfodkedaaDoorBinsPfx
import Derived.Test.YtflfmacfodkedaaDoorNameRole
namespace Go.Proofs.YtflfmacfodkedaaDoor
set_option linter.unusedSimpArgs false
set_option linter.unusedVariables false
open Go Go.RowKit
attribute [local irreducible] Sh.sha shaS

set_option maxRecDepth 20000 in
set_option maxHeartbeats 1000000 in
theorem bWrong_any (th b : Int) (A : Option Addr) (l c : Nat) (p : ByteArray) (w : World) (hp : p.size ≤ 1000000) :
    Calls Tryd.prog 25 #[.agg #[.int .i64 th, .slice A l c, .int .i64 b, .string p]] w fun e w' => e = .returned (.int .i64 (Bn.wrong b p)) ∧ Below w.heap.size w w' := by
  have hp2 : p.size ≤ maxLen := by unfold maxLen; omega
  cases hm : Bn.may b with
  | false =>
    have E : Hid (Bn.wrong b p = 1) := by show _ = _; unfold Bn.wrong; rw [hm]; rfl
    have hnn := Bn.may_not hm
    rcases hnn with h1 | ⟨h1, h2⟩
    all_goals
      go_enter Tryd.func25, Tryd.ntmps25
      go_wp2_with fail
      refine (bmay_any _ _).mono ?_
      rintro e _ ⟨rfl, rfl⟩
      rw [hm]
      go_wp2_with fail
      go_ret
      exact ⟨ret_i E.out.symm, (Below.refl _ _).alloc (Nat.le_refl _) _⟩
  | true =>
    obtain ⟨k, rfl, hk1, hk2⟩ := Bn.may_nat hm
    have hw := (Bn.wid_le hk1 hk2).2.1
    have T : Hid (∀ W, Calls Tryd.prog 44 #[.int .i64 k] W fun e w' => e = .returned (.int .i64 (Bn.wid k : Nat)) ∧ w' = W) := fun W => (bwidth_any k W (by omega)).mono fun e w' h => ⟨h.1, h.2.symm⟩
    cases hr : Nm.role p with
    | false =>
      have E : Hid (Bn.wrong k p = 3) := by show _ = _; unfold Bn.wrong; rw [hm, hr]; rfl
      go_enter Tryd.func25, Tryd.ntmps25
      go_wp2_with fail
      refine (bmay_any _ _).mono ?_
      rintro e _ ⟨rfl, rfl⟩
      rw [hm]
      go_wp2_with fail
      refine (role_any p _ hp2).mono ?_
      rintro e _ ⟨rfl, rfl⟩
      rw [hr]
      go_wp2_with fail
      go_ret
      exact ⟨ret_i E.out.symm, (Below.refl _ _).alloc (Nat.le_refl _) _⟩
    | true =>
      have E : Hid (Bn.wrong k p = if p.size + 1 + Bn.wid k ≤ 64 then 0 else 5) := by show _ = _; unfold Bn.wrong; rw [hm, hr]; rfl
      generalize Bn.wid k = d at *
      by_cases h64 : p.size + 1 + d ≤ 64
      · have E2 : Hid (Bn.wrong k p = 0) := E.out.trans (if_pos h64)
        have hgt : decide (64 < (p.size : Int) + 1 + (d : Int)) = false := by simp; omega
        go_enter Tryd.func25, Tryd.ntmps25
        go_wp2_with fail
        refine (bmay_any _ _).mono ?_
        rintro e _ ⟨rfl, rfl⟩
        rw [hm]
        go_wp2_with fail
        refine (role_any p _ hp2).mono ?_
        rintro e _ ⟨rfl, rfl⟩
        rw [hr]
        go_wp2_with fail
        go_quiet ((go_at_call 44; exact Calls.quiet_of_same (T.out _)))
        go_wp2_with fail
        go_ret
        exact ⟨ret_i E2.out.symm, below_drawn ((Below.refl _ _).alloc (Nat.le_refl _) _) nq⟩
      · have E2 : Hid (Bn.wrong k p = 5) := E.out.trans (if_neg h64)
        have hgt : decide (64 < (p.size : Int) + 1 + (d : Int)) = true := by simp; omega
        go_enter Tryd.func25, Tryd.ntmps25
        go_wp2_with fail
        refine (bmay_any _ _).mono ?_
        rintro e _ ⟨rfl, rfl⟩
        rw [hm]
        go_wp2_with fail
        refine (role_any p _ hp2).mono ?_
        rintro e _ ⟨rfl, rfl⟩
        rw [hr]
        go_wp2_with fail
        go_quiet ((go_at_call 44; exact Calls.quiet_of_same (T.out _)))
        go_wp2_with fail
        go_ret
        exact ⟨ret_i E2.out.symm, below_drawn ((Below.refl _ _).alloc (Nat.le_refl _) _) nq⟩
set_option maxRecDepth 20000 in
set_option maxHeartbeats 1000000 in
theorem rWrong_any (th b : Int) (A : Option Addr) (l c : Nat) (p : ByteArray) (w : World) (hp : p.size ≤ 1000000) :
    Calls Tryd.prog 26 #[.agg #[.int .i64 th, .slice A l c, .int .i64 b, .string p]] w fun e w' => e = .returned (.int .i64 (Bn.wrong b p)) ∧ Below w.heap.size w w' := by
  have hp2 : p.size ≤ maxLen := by unfold maxLen; omega
  cases hm : Bn.may b with
  | false =>
    have E : Hid (Bn.wrong b p = 1) := by show _ = _; unfold Bn.wrong; rw [hm]; rfl
    have hnn := Bn.may_not hm
    rcases hnn with h1 | ⟨h1, h2⟩
    all_goals
      go_enter Tryd.func26, Tryd.ntmps26
      go_wp2_with fail
      go_ret
      exact ⟨ret_i E.out.symm, (Below.refl _ _).alloc (Nat.le_refl _) _⟩
  | true =>
    obtain ⟨k, rfl, hk1, hk2⟩ := Bn.may_nat hm
    have hw := (Bn.wid_le hk1 hk2).2.1
    have T : Hid (∀ W, Calls Tryd.prog 46 #[.int .i64 k] W fun e w' => e = .returned (.int .i64 (Bn.wid k : Nat)) ∧ w' = W) := fun W => (rwidth_any k W (by omega)).mono fun e w' h => ⟨h.1, h.2.symm⟩
    cases hr : Nm.role p with
    | false =>
      have E : Hid (Bn.wrong k p = 3) := by show _ = _; unfold Bn.wrong; rw [hm, hr]; rfl
      go_enter Tryd.func26, Tryd.ntmps26
      go_wp2_with fail
      refine (rrole_any p _ hp2).mono ?_
      rintro e _ ⟨rfl, rfl⟩
      rw [hr]
      go_wp2_with fail
      go_ret
      exact ⟨ret_i E.out.symm, (Below.refl _ _).alloc (Nat.le_refl _) _⟩
    | true =>
      have E : Hid (Bn.wrong k p = if p.size + 1 + Bn.wid k ≤ 64 then 0 else 5) := by show _ = _; unfold Bn.wrong; rw [hm, hr]; rfl
      generalize Bn.wid k = d at *
      by_cases h64 : p.size + 1 + d ≤ 64
      · have E2 : Hid (Bn.wrong k p = 0) := E.out.trans (if_pos h64)
        have hgt : decide (64 < (p.size : Int) + 1 + (d : Int)) = false := by simp; omega
        go_enter Tryd.func26, Tryd.ntmps26
        go_wp2_with fail
        refine (rrole_any p _ hp2).mono ?_
        rintro e _ ⟨rfl, rfl⟩
        rw [hr]
        go_wp2_with fail
        go_quiet ((go_at_call 46; exact Calls.quiet_of_same (T.out _)))
        go_wp2_with fail
        go_ret
        exact ⟨ret_i E2.out.symm, below_drawn ((Below.refl _ _).alloc (Nat.le_refl _) _) nq⟩
      · have E2 : Hid (Bn.wrong k p = 5) := E.out.trans (if_neg h64)
        have hgt : decide (64 < (p.size : Int) + 1 + (d : Int)) = true := by simp; omega
        go_enter Tryd.func26, Tryd.ntmps26
        go_wp2_with fail
        refine (rrole_any p _ hp2).mono ?_
        rintro e _ ⟨rfl, rfl⟩
        rw [hr]
        go_wp2_with fail
        go_quiet ((go_at_call 46; exact Calls.quiet_of_same (T.out _)))
        go_wp2_with fail
        go_ret
        exact ⟨ret_i E2.out.symm, below_drawn ((Below.refl _ _).alloc (Nat.le_refl _) _) nq⟩
end Go.Proofs.YtflfmacfodkedaaDoor
