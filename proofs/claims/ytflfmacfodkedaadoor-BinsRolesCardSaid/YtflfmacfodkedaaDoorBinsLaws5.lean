/-
  The statement BinsRoles, walked: it returns true.
-/
import Derived.Test.YtflfmacfodkedaaDoorBinsTexts
import Derived.Test.YtflfmacfodkedaaDoorLex
namespace Go.Proofs.YtflfmacfodkedaaDoor
set_option linter.unusedSimpArgs false
set_option linter.unusedVariables false
open Go Go.RowKit

theorem own_drawn {w : World} {B n : Nat} {e : TypeId} {size : Nat} {v : Value} {xs : List Value} (h : w.ownsRow B e size v n xs) (k : Nat) : (w.drewN k).ownsRow B e size v n xs := h
theorem own_keep {w w' : World} {B n : Nat} {e : TypeId} {size : Nat} {v : Value} {xs : List Value} (h : w.ownsRow B e size v n xs) (hb : Below w.heap.size w w') : w'.ownsRow B e size v n xs :=
  h.kept (one_below hb none) (by cases v.ownBlock <;> simp)
attribute [local irreducible] Sh.sha shaS Bn.prd Bn.dig Bn.goesS Bn.roleS Bn.roleE Bn.wrong Bn.prefL Bn.binN Bn.isP Bn.bin Bn.be4
set_option maxRecDepth 20000 in
set_option maxHeartbeats 1000000 in
theorem binsRolesN_walk (th b : Int) (A : Option Addr) (ls : List ByteArray) (cap : Nat) (p path : ByteArray) (n : Nat) (w : World) (hp0 : p.size ≤ maxLen) (hs0 : path.size ≤ maxLen) (hn : n < 4294967296) (hT : Tb w) (hD : Digs w) :
    Calls Tryd.prog 4 #[.agg #[.int .i64 th, .slice A ls.length cap, .int .i64 b, .string p], .string path, .int .u32 n] w fun e w' => e = .returned (.bool true) ∧ Below w.heap.size w w' := by
  have hB : Hid (Below w.heap.size w w) := Below.refl _ _
  have hk := Lib.hid (Bk.fresh w 34 #[.int .i64 th, .slice A ls.length cap, .int .i64 b, .string p])
  replace hB := Lib.hid (hB.out.alloc hB.out.size (.cells #[.int .i64 th, .slice A ls.length cap, .int .i64 b, .string p] 34 (0, 0)))
  by_cases h : 1000 < p.size
  · have hgt : decide ((1000 : Int) < p.size) = true := by simp; omega
    go_enter Tryd.func4, Tryd.ntmps4
    go_wp2_with fail
    refine (bawake_any _ (hT.below hB.out hT.lt) (hD.below hB.out hD.lt)).mono ?_
    rintro e w1 ⟨rfl, hb⟩
    replace hk := Lib.hid (hk.out.below hb hk.out.lt)
    replace hB := Lib.hid (hB.out.trans (hb.mono hB.out.size))
    clear hb
    go_wp2_with fail
    go_ret
    exact ⟨rfl, hB.out⟩
  have hgt : decide ((1000 : Int) < p.size) = false := by simp; omega
  by_cases h2 : 1000 < path.size
  · have hgt2 : decide ((1000 : Int) < path.size) = true := by simp; omega
    go_enter Tryd.func4, Tryd.ntmps4
    go_wp2_with fail
    refine (bawake_any _ (hT.below hB.out hT.lt) (hD.below hB.out hD.lt)).mono ?_
    rintro e w2 ⟨rfl, hb⟩
    replace hk := Lib.hid (hk.out.below hb hk.out.lt)
    replace hB := Lib.hid (hB.out.trans (hb.mono hB.out.size))
    clear hb
    go_wp2_with fail
    go_ret
    exact ⟨rfl, hB.out⟩
  have hgt2 : decide ((1000 : Int) < path.size) = false := by simp; omega
  have hp : p.size ≤ 1000000 := by omega
  have hs1 : path.size ≤ 1000 := by omega
  clear h h2
  go_enter Tryd.func4, Tryd.ntmps4
  go_wp2_with fail
  refine (bPrefixes_any b n _ hn).mono ?_
  rintro e wa ⟨v, rfl, hown, hb⟩
  have hO1 := Lib.hid hown
  have hv := Lib.hid (fun g hg => (hown.lt g hg).2)
  have hBB : Hid (w.heap.size + 1 = (w.alloc (.cells #[.int .i64 th, .slice A ls.length cap, .int .i64 b, .string p] 34 (0, 0))).heap.size) := by show _ = _; simp
  clear hown
  replace hk := Lib.hid (hk.out.below hb hk.out.lt)
  replace hB := Lib.hid (hB.out.trans (hb.mono hB.out.size))
  clear hb
  have c0 : wa.cell? ⟨w.heap.size, 0, none⟩ = some (.int .i64 th) := hk.out.cell 0
  have c1 : wa.cell? ⟨w.heap.size, 1, none⟩ = some (.slice A ls.length cap) := hk.out.cell 1
  have c2 : wa.cell? ⟨w.heap.size, 2, none⟩ = some (.int .i64 b) := hk.out.cell 2
  have c3 : wa.cell? ⟨w.heap.size, 3, none⟩ = some (.string p) := hk.out.cell 3
  go_wp2_with fail
  refine (rPrefixes_any b n _ hn).mono ?_
  rintro e wb ⟨u, rfl, hown, hb⟩
  have hO2 := Lib.hid hown
  clear hown
  replace hO1 := Lib.hid (own_keep hO1.out hb)
  replace hk := Lib.hid (hk.out.below hb hk.out.lt)
  replace hB := Lib.hid (hB.out.trans (hb.mono hB.out.size))
  clear hb
  clear c0 c1 c2 c3
  have c0 : wb.cell? ⟨w.heap.size, 0, none⟩ = some (.int .i64 th) := hk.out.cell 0
  have c1 : wb.cell? ⟨w.heap.size, 1, none⟩ = some (.slice A ls.length cap) := hk.out.cell 1
  have c2 : wb.cell? ⟨w.heap.size, 2, none⟩ = some (.int .i64 b) := hk.out.cell 2
  have c3 : wb.cell? ⟨w.heap.size, 3, none⟩ = some (.string p) := hk.out.cell 3
  go_wp2_with fail
  refine (bRole_any th b A ls.length cap p n _ hp hn).mono ?_
  rintro e w3 ⟨rfl, hb⟩
  replace hO1 := Lib.hid (own_keep hO1.out hb)
  replace hO2 := Lib.hid (own_keep hO2.out hb)
  replace hk := Lib.hid (hk.out.below hb hk.out.lt)
  replace hB := Lib.hid (hB.out.trans (hb.mono hB.out.size))
  clear hb
  clear c0 c1 c2 c3
  have c0 : w3.cell? ⟨w.heap.size, 0, none⟩ = some (.int .i64 th) := hk.out.cell 0
  have c1 : w3.cell? ⟨w.heap.size, 1, none⟩ = some (.slice A ls.length cap) := hk.out.cell 1
  have c2 : w3.cell? ⟨w.heap.size, 2, none⟩ = some (.int .i64 b) := hk.out.cell 2
  have c3 : w3.cell? ⟨w.heap.size, 3, none⟩ = some (.string p) := hk.out.cell 3
  go_wp2_with fail
  refine (rRole_any th b A ls.length cap p n _ hp hn).mono ?_
  rintro e w4 ⟨rfl, hb⟩
  replace hO1 := Lib.hid (own_keep hO1.out hb)
  replace hO2 := Lib.hid (own_keep hO2.out hb)
  replace hk := Lib.hid (hk.out.below hb hk.out.lt)
  replace hB := Lib.hid (hB.out.trans (hb.mono hB.out.size))
  clear hb
  clear c0 c1 c2 c3
  have c0 : w4.cell? ⟨w.heap.size, 0, none⟩ = some (.int .i64 th) := hk.out.cell 0
  have c1 : w4.cell? ⟨w.heap.size, 1, none⟩ = some (.slice A ls.length cap) := hk.out.cell 1
  have c2 : w4.cell? ⟨w.heap.size, 2, none⟩ = some (.int .i64 b) := hk.out.cell 2
  have c3 : w4.cell? ⟨w.heap.size, 3, none⟩ = some (.string p) := hk.out.cell 3
  go_wp2_with fail
  refine (bGoes_any th b A ls.length cap p path _ (hT.below hB.out hT.lt) hp (by omega)).mono ?_
  rintro e w5 ⟨rfl, hb⟩
  replace hO1 := Lib.hid (own_keep hO1.out hb)
  replace hO2 := Lib.hid (own_keep hO2.out hb)
  replace hk := Lib.hid (hk.out.below hb hk.out.lt)
  replace hB := Lib.hid (hB.out.trans (hb.mono hB.out.size))
  clear hb
  clear c0 c1 c2 c3
  have c0 : w5.cell? ⟨w.heap.size, 0, none⟩ = some (.int .i64 th) := hk.out.cell 0
  have c1 : w5.cell? ⟨w.heap.size, 1, none⟩ = some (.slice A ls.length cap) := hk.out.cell 1
  have c2 : w5.cell? ⟨w.heap.size, 2, none⟩ = some (.int .i64 b) := hk.out.cell 2
  have c3 : w5.cell? ⟨w.heap.size, 3, none⟩ = some (.string p) := hk.out.cell 3
  go_wp2_with fail
  refine (rGoes_any th b A ls.length cap p path _ hp (by omega)).mono ?_
  rintro e w6 ⟨rfl, hb⟩
  replace hO1 := Lib.hid (own_keep hO1.out hb)
  replace hO2 := Lib.hid (own_keep hO2.out hb)
  replace hk := Lib.hid (hk.out.below hb hk.out.lt)
  replace hB := Lib.hid (hB.out.trans (hb.mono hB.out.size))
  clear hb
  clear c0 c1 c2 c3
  have c0 : w6.cell? ⟨w.heap.size, 0, none⟩ = some (.int .i64 th) := hk.out.cell 0
  have c1 : w6.cell? ⟨w.heap.size, 1, none⟩ = some (.slice A ls.length cap) := hk.out.cell 1
  have c2 : w6.cell? ⟨w.heap.size, 2, none⟩ = some (.int .i64 b) := hk.out.cell 2
  have c3 : w6.cell? ⟨w.heap.size, 3, none⟩ = some (.string p) := hk.out.cell 3
  have hpl := prefL_len b n
  generalize Bn.prefL b n = L at *
  have e1 : ((Bn.roleS b p n).toList == (Bn.roleS b p n).toList) = true := beq_self_eq_true _
  have e2 : ((Bn.goesS b p path).toList == (Bn.goesS b p path).toList) = true := beq_self_eq_true _
  have e3 : (Bn.prefE b n == Bn.prefE b n) = true := beq_self_eq_true _
  have e4 : (Bn.roleE b p n == Bn.roleE b p n) = true := beq_self_eq_true _
  have e5 : (Bn.wrong b p == Bn.wrong b p) = true := beq_self_eq_true _
  have T1 : Hid (∀ V, Calls Tryd.prog 25 #[.agg #[.int .i64 th, .slice A ls.length cap, .int .i64 b, .string p]] V fun e w' => e = .returned (.int .i64 (Bn.wrong b p)) ∧ Below V.heap.size V w') := fun V => bWrong_any th b A ls.length cap p V hp
  have T2 : Hid (∀ V, Calls Tryd.prog 26 #[.agg #[.int .i64 th, .slice A ls.length cap, .int .i64 b, .string p]] V fun e w' => e = .returned (.int .i64 (Bn.wrong b p)) ∧ Below V.heap.size V w') := fun V => rWrong_any th b A ls.length cap p V hp
  generalize Bn.roleS b p n = x1 at *
  generalize Bn.goesS b p path = x2 at *
  generalize Bn.prefE b n = x3 at *
  generalize Bn.roleE b p n = x4 at *
  generalize Bn.wrong b p = x5 at *
  clear c0 c1 c2 c3
  go_wp2_with fail
  refine Fst.wp_region_first [0, 1] [2] 36 (by kernel_rfl) (by kernel_rfl) ?_
  refine ⟨_, .inl ⟨rfl, fun w => BigFrame.run_move _ rfl w⟩, ?_⟩
  refine ⟨_, .inl ⟨rfl, fun w => BigFrame.run_move _ rfl w⟩, ?_⟩
  simp only [Fst.wpFst, Act.put, Act.eval, List.map_cons, List.map_nil, List.getD_cons_zero, List.getD_cons_succ, List.setIfInBounds_toArray, List.set_cons_zero, List.set_cons_succ, Lex.getD_zero, Lex.getD_succ]
  obtain ⟨wd, hwd⟩ : ∃ wd : World, wd = { w6 with drawn := w6.drawn + 1 } := ⟨_, rfl⟩
  rw [← hwd]
  replace hk : Hid (Bk wd w.heap.size 34 #[.int .i64 th, .slice A ls.length cap, .int .i64 b, .string p]) := by rw [hwd]; exact hk
  have hO1b := own_drawn hO1.out 1
  have hO2b := own_drawn hO2.out 1
  rw [show w6.drewN 1 = wd from hwd.symm] at hO1b hO2b
  clear hO1 hO2
  have hO1 := Lib.hid hO1b
  have hO2 := Lib.hid hO2b
  clear hO1b hO2b
  replace hB : Hid (Below w.heap.size w wd) := by rw [hwd]; exact Lib.hid (below_drawn hB.out 1)
  clear hwd
  go_wp2_with fail
  refine (texts_both hO1.out hO2.out hv.out (by omega)).mono ?_
  rintro e wt ⟨rfl, hbt⟩
  rw [← hBB.out] at hbt
  replace hk := Lib.hid (hk.out.below hbt (Nat.lt_succ_self _))
  replace hB := Lib.hid (hB.out.trans (hbt.mono (Nat.le_succ _)))
  clear hbt hO1 hO2 hv
  go_wp2_with fail
  refine NoPanic.normal ?_
  show wpAny _ _ _ _ _ _ _ _
  refine Fst.any_rest 3 (by kernel_rfl) (by kernel_rfl) (by kernel_rfl) ?_
  have d0 : ∀ dd os, (Sort.grow (redrawn wt dd) os).cell? ⟨w.heap.size, 0, none⟩ = some (.int .i64 th) := fun dd os => ((below_regrown wt dd os).cell (p := ⟨w.heap.size, 0, none⟩) hk.out.lt).trans (hk.out.cell 0)
  have d1 : ∀ dd os, (Sort.grow (redrawn wt dd) os).cell? ⟨w.heap.size, 1, none⟩ = some (.slice A ls.length cap) := fun dd os => ((below_regrown wt dd os).cell (p := ⟨w.heap.size, 1, none⟩) hk.out.lt).trans (hk.out.cell 1)
  have d2 : ∀ dd os, (Sort.grow (redrawn wt dd) os).cell? ⟨w.heap.size, 2, none⟩ = some (.int .i64 b) := fun dd os => ((below_regrown wt dd os).cell (p := ⟨w.heap.size, 2, none⟩) hk.out.lt).trans (hk.out.cell 2)
  have d3 : ∀ dd os, (Sort.grow (redrawn wt dd) os).cell? ⟨w.heap.size, 3, none⟩ = some (.string p) := fun dd os => ((below_regrown wt dd os).cell (p := ⟨w.heap.size, 3, none⟩) hk.out.lt).trans (hk.out.cell 3)
  have T3 : Hid (∀ dd os, Calls Tryd.prog 11 #[] (Sort.grow (redrawn wt dd) os) fun e w' => e = .returned (.bool true) ∧ Below (Sort.grow (redrawn wt dd) os).heap.size (Sort.grow (redrawn wt dd) os) w') := fun dd os => by
    have hb := hB.out.trans ((below_regrown wt dd os).mono hB.out.size)
    exact bawake_any _ (hT.below hb hT.lt) (hD.below hb hD.lt)
  simp only [List.drop_succ_cons, List.drop_zero]
  repeat (go_big_quiet_step ((first | (go_at_call 25; with_reducible exact Calls.regrown_of (T1.out _)) | (go_at_call 26; with_reducible exact Calls.regrown_of (T2.out _)) | (go_at_call 11; with_reducible exact Calls.regrown_of (T3.out _ _)))))
  refine wpQuiet_nil ?_
  intro wz hwz
  have hbz : Below wt.heap.size wt wz := by
    obtain ⟨pp, e⟩ := hwz
    rw [e]
    exact below_regrown _ _ _
  replace hB := Lib.hid (hB.out.trans (hbz.mono hB.out.size))
  clear hwz hbz d0 d1 d2 d3
  go_wp2_with fail
  go_ret
  exact ⟨rfl, hB.out⟩
theorem binsRoles_walk (th b : Int) (A : Option Addr) (ls : List ByteArray) (cap : Nat) (p path : ByteArray) (n : Int) (w : World) (hp0 : p.size ≤ maxLen) (hc : Strs w A ls) (hz : ∀ i, i < ls.length → (ls.getD i ByteArray.empty).size ≤ maxLen) (hl : ls.length ≤ maxLen) (hs0 : path.size ≤ maxLen) (hn : (Lit.int .u32 n).wf = true) (hT : Tb w) (hD : Digs w) :
    Calls Tryd.prog 4 #[.agg #[.int .i64 th, .slice A ls.length cap, .int .i64 b, .string p], .string path, .int .u32 n] w fun e w' => e = .returned (.bool true) ∧ Below w.heap.size w w' := by
  have hb := bounds_u32 hn
  obtain ⟨k, rfl⟩ := Int.eq_ofNat_of_zero_le hb.1
  exact binsRolesN_walk th b A ls cap p path k w hp0 hs0 (by omega) hT hD
end Go.Proofs.YtflfmacfodkedaaDoor
