/-
  The walks of package bins, and of the document's words beside it: Goes; the statements' own bin and texts.
-/
import Derived.Test.YtflfmacfodkedaaDoorBinsRole
namespace Go.Proofs.YtflfmacfodkedaaDoor
set_option linter.unusedSimpArgs false
set_option linter.unusedVariables false
open Go Go.RowKit
attribute [local irreducible] Sh.sha shaS

theorem goes_ok {k : Nat} {p path : ByteArray} (h : Bn.wrong k p = 0) (h2 : k ≤ 32) : Bn.goesS k p path = Bn.roleS k p (Bn.bin path k) ∧ Bn.roleE k p (Bn.bin path k) = 0 := by
  obtain ⟨e1, e2⟩ := role_ok h (Bn.bin_lt path k h2)
  refine ⟨?_, e2⟩
  rw [e1]
  unfold Bn.goesS
  rw [if_pos h]
  rfl
theorem goes_err {b : Int} {p path : ByteArray} (h : Bn.wrong b p ≠ 0) : Bn.goesS b p path = ⟨#[]⟩ := by
  unfold Bn.goesS
  rw [if_neg h]
set_option maxRecDepth 20000 in
set_option maxHeartbeats 2000000 in
theorem bGoes_any (th b : Int) (A : Option Addr) (l c : Nat) (p path : ByteArray) (w : World) (hT : Tb w) (hp : p.size ≤ 1000000) (hs : path.size ≤ 1099511627776) :
    Calls Tryd.prog 22 #[.agg #[.int .i64 th, .slice A l c, .int .i64 b, .string p], .string path] w fun e w' => e = .returned (.tuple #[.string (Bn.goesS b p path), .int .i64 (Bn.wrong b p)]) ∧ Below w.heap.size w w' := by
  by_cases hw0 : Bn.wrong b p = 0
  · obtain ⟨hm, hr, h64⟩ := Bn.wrong_zero hw0
    obtain ⟨k, rfl, hk1, hk2⟩ := Bn.may_nat hm
    have E := Lib.hid (goes_ok (path := path) hw0 hk2)
    have EB : Bn.binN path k = Bn.bin path k ∧ Bn.binE k = 0 := ⟨by unfold Bn.binN; rw [hm]; rfl, by unfold Bn.binE; rw [hm]; rfl⟩
    have hb32 : Bn.bin path k < 4294967296 := Nat.lt_of_lt_of_le (Bn.bin_lt path k hk2) (show 2 ^ k ≤ 2 ^ 32 from Nat.pow_le_pow_right (by omega) hk2)
    clear h64 hr hm
    have HW := Lib.hid hw0
    go_enter Tryd.func22, Tryd.ntmps22
    go_wp2_with fail
    refine (bWrong_any th k A l c p _ hp).mono ?_
    rintro e w1 ⟨rfl, hb⟩
    rw [hw0]
    have hk := Lib.hid ((Bk.fresh w 34 #[.int .i64 th, .slice A l c, .int .i64 k, .string p]).below hb (Bk.fresh w 34 #[.int .i64 th, .slice A l c, .int .i64 k, .string p]).lt)
    have hB := Lib.hid (((Below.refl w.heap.size w).alloc (Nat.le_refl _) _).trans (hb.mono (by simp)))
    clear hb hw0
    have c2 : w1.cell? ⟨w.heap.size, 2, none⟩ = some (.int .i64 k) := hk.out.cell 2
    go_wp2_with fail
    refine (bBin_any path k _ (hT.below hB.out hT.lt) hs).mono ?_
    rintro e w2 ⟨rfl, hb⟩
    rw [EB.1, EB.2]
    generalize Bn.bin path k = n at *
    have hk2' := Lib.hid (hk.out.below hb hk.out.lt)
    have hB2 := Lib.hid (hB.out.trans (hb.mono hB.out.size))
    clear hb c2 EB
    have d0 : w2.cell? ⟨w.heap.size, 0, none⟩ = some (.int .i64 th) := hk2'.out.cell 0
    have d1 : w2.cell? ⟨w.heap.size, 1, none⟩ = some (.slice A l c) := hk2'.out.cell 1
    have d2 : w2.cell? ⟨w.heap.size, 2, none⟩ = some (.int .i64 k) := hk2'.out.cell 2
    have d3 : w2.cell? ⟨w.heap.size, 3, none⟩ = some (.string p) := hk2'.out.cell 3
    go_wp2_with fail
    refine (bRole_any th k A l c p n _ hp hb32).mono ?_
    rintro e w3 ⟨rfl, hb⟩
    have hB3 := Lib.hid (hB2.out.trans (hb.mono hB2.out.size))
    clear hb
    go_wp2_with fail
    go_ret2
    exact ⟨by rw [E.out.1, E.out.2, HW.out]; rfl, hB3.out⟩
  · have E := Lib.hid (goes_err (path := path) hw0)
    have hne : (Bn.wrong b p != 0) = true := bne_iff_ne.2 hw0
    go_enter Tryd.func22, Tryd.ntmps22
    go_wp2_with fail
    refine (bWrong_any th b A l c p _ hp).mono ?_
    rintro e w1 ⟨rfl, hb⟩
    have hB := Lib.hid (((Below.refl w.heap.size w).alloc (Nat.le_refl _) _).trans (hb.mono (by simp)))
    clear hb
    go_wp2_with fail
    go_ret2
    exact ⟨by rw [E.out]; rfl, hB.out⟩
set_option maxRecDepth 20000 in
set_option maxHeartbeats 2000000 in
theorem rGoes_any (th b : Int) (A : Option Addr) (l c : Nat) (p path : ByteArray) (w : World) (hp : p.size ≤ 1000000) (hs : path.size ≤ 1099511627776) :
    Calls Tryd.prog 23 #[.agg #[.int .i64 th, .slice A l c, .int .i64 b, .string p], .string path] w fun e w' => e = .returned (.tuple #[.string (Bn.goesS b p path), .int .i64 (Bn.wrong b p)]) ∧ Below w.heap.size w w' := by
  by_cases hw0 : Bn.wrong b p = 0
  · obtain ⟨hm, hr, h64⟩ := Bn.wrong_zero hw0
    obtain ⟨k, rfl, hk1, hk2⟩ := Bn.may_nat hm
    have E := Lib.hid (goes_ok (path := path) hw0 hk2)
    have EB : Bn.binN path k = Bn.bin path k ∧ Bn.binE k = 0 := ⟨by unfold Bn.binN; rw [hm]; rfl, by unfold Bn.binE; rw [hm]; rfl⟩
    have hb32 : Bn.bin path k < 4294967296 := Nat.lt_of_lt_of_le (Bn.bin_lt path k hk2) (show 2 ^ k ≤ 2 ^ 32 from Nat.pow_le_pow_right (by omega) hk2)
    clear h64 hr hm
    have HW := Lib.hid hw0
    go_enter Tryd.func23, Tryd.ntmps23
    go_wp2_with fail
    refine (rWrong_any th k A l c p _ hp).mono ?_
    rintro e w1 ⟨rfl, hb⟩
    rw [hw0]
    have hk := Lib.hid ((Bk.fresh w 34 #[.int .i64 th, .slice A l c, .int .i64 k, .string p]).below hb (Bk.fresh w 34 #[.int .i64 th, .slice A l c, .int .i64 k, .string p]).lt)
    have hB := Lib.hid (((Below.refl w.heap.size w).alloc (Nat.le_refl _) _).trans (hb.mono (by simp)))
    clear hb hw0
    have c2 : w1.cell? ⟨w.heap.size, 2, none⟩ = some (.int .i64 k) := hk.out.cell 2
    go_wp2_with fail
    refine (rBin_any path k _ hs).mono ?_
    rintro e w2 ⟨rfl, hb⟩
    rw [EB.1, EB.2]
    generalize Bn.bin path k = n at *
    have hk2' := Lib.hid (hk.out.below hb hk.out.lt)
    have hB2 := Lib.hid (hB.out.trans (hb.mono hB.out.size))
    clear hb c2 EB
    have d0 : w2.cell? ⟨w.heap.size, 0, none⟩ = some (.int .i64 th) := hk2'.out.cell 0
    have d1 : w2.cell? ⟨w.heap.size, 1, none⟩ = some (.slice A l c) := hk2'.out.cell 1
    have d2 : w2.cell? ⟨w.heap.size, 2, none⟩ = some (.int .i64 k) := hk2'.out.cell 2
    have d3 : w2.cell? ⟨w.heap.size, 3, none⟩ = some (.string p) := hk2'.out.cell 3
    go_wp2_with fail
    refine (rRole_any th k A l c p n _ hp hb32).mono ?_
    rintro e w3 ⟨rfl, hb⟩
    have hB3 := Lib.hid (hB2.out.trans (hb.mono hB2.out.size))
    clear hb
    go_wp2_with fail
    go_ret2
    exact ⟨by rw [E.out.1, E.out.2, HW.out]; rfl, hB3.out⟩
  · have E := Lib.hid (goes_err (path := path) hw0)
    have hne : (Bn.wrong b p != 0) = true := bne_iff_ne.2 hw0
    go_enter Tryd.func23, Tryd.ntmps23
    go_wp2_with fail
    refine (rWrong_any th b A l c p _ hp).mono ?_
    rintro e w1 ⟨rfl, hb⟩
    have hB := Lib.hid (((Below.refl w.heap.size w).alloc (Nat.le_refl _) _).trans (hb.mono (by simp)))
    clear hb
    go_wp2_with fail
    go_ret2
    exact ⟨by rw [E.out]; rfl, hB.out⟩

theorem lbin_any (k x : Nat) (w : World) (hT : Tb w) (h : Bn.binN ⟨#[]⟩ k = x) (h0 : Bn.binE k = 0) : Calls Tryd.prog 34 #[.int .i64 k, .int .u32 x] w fun e w' => e = .returned (.bool true) ∧ Below w.heap.size w w' := by
  have H := Lib.hid h
  clear h
  go_enter Tryd.func34, Tryd.ntmps34
  go_wp2_with fail
  refine (bBin_any _ k _ hT (by decide)).mono ?_
  rintro e w1 ⟨rfl, hb⟩
  rw [H.out, h0]
  have hB := Lib.hid hb
  clear hb
  go_wp2_with fail
  go_ret
  exact ⟨rfl, hB.out⟩
theorem wrong_x (b : Int) (h : Bn.may b = true) : Bn.wrong b ⟨#[120]⟩ = 0 := by
  have hr : Nm.role ⟨#[120]⟩ = true := by decide
  obtain ⟨k, rfl, h1, h2⟩ := Bn.may_nat h
  unfold Bn.wrong
  rw [h, hr, if_pos rfl, if_pos rfl, if_pos]
  have := (Bn.wid_le h1 h2).2.1
  show 1 + 1 + Bn.wid k ≤ 64
  omega
/-- More bins than delegations may be. -/
theorem bExpand_long (th : Int) (k : Nat) (A : Option Addr) (l c : Nat) (p : ByteArray) (w : World) (hp : p.size ≤ 1000000) (hw0 : Bn.wrong k p = 0) (h6 : 6 < k) :
    Calls Tryd.prog 27 #[.agg #[.int .i64 th, .slice A l c, .int .i64 k, .string p]] w fun e w' => e = .returned (.tuple #[.slice none 0 0, .int .i64 5]) ∧ Below w.heap.size w w' := by
  have hk2 : k ≤ 32 := by
    obtain ⟨h, _, _⟩ := Bn.wrong_zero hw0
    have := (Bn.may_iff k).1 h
    omega
  have hpow : ((2 ^ k : Nat) : Int) = (2 : Int) ^ k := by rw [Int.natCast_pow]; rfl
  have hlo : 2 ^ 7 ≤ 2 ^ k := Nat.pow_le_pow_right (by omega) (by omega)
  have hhi : 2 ^ k ≤ 2 ^ 32 := Nat.pow_le_pow_right (by omega) hk2
  generalize 2 ^ k = q at *
  have hlo2 : 128 ≤ q := hlo
  have hhi2 : q ≤ 4294967296 := hhi
  clear hlo hhi
  have hpw := hpow.symm
  clear hpow
  go_enter Tryd.func27, Tryd.ntmps27
  go_wp2_with fail
  refine (bWrong_any th k A l c p _ hp).mono ?_
  rintro e w1 ⟨rfl, hb⟩
  rw [hw0]
  have hk := Lib.hid ((Bk.fresh w 34 #[.int .i64 th, .slice A l c, .int .i64 k, .string p]).below hb (Bk.fresh w 34 #[.int .i64 th, .slice A l c, .int .i64 k, .string p]).lt)
  have hB := Lib.hid (((Below.refl w.heap.size w).alloc (Nat.le_refl _) _).trans (hb.mono (by simp)))
  clear hb
  have c2 : w1.cell? ⟨w.heap.size, 2, none⟩ = some (.int .i64 k) := hk.out.cell 2
  go_wp2_with fail
  go_ret2
  exact ⟨rfl, hB.out⟩
end Go.Proofs.YtflfmacfodkedaaDoor
