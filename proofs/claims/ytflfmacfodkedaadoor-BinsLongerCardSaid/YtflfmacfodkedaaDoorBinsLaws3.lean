/-
  The statement BinsLonger, walked: it returns true.
-/
import Derived.Test.YtflfmacfodkedaaDoorBinsLaws1
import Derived.Test.YtflfmacfodkedaaDoorFirst
import Derived.Test.YtflfmacfodkedaaDoorLex
namespace Go.Proofs.YtflfmacfodkedaaDoor
set_option linter.unusedSimpArgs false
set_option linter.unusedVariables false
open Go Go.RowKit

theorem byteAt_front (d : ByteArray) (k j : Nat) (hj : j < k) (hk : k ≤ d.size) : Hx.byteAt (d.extract 0 k) j = Hx.byteAt d j := Bn.byteAt_extract d k j hj hk
theorem front_size (d : ByteArray) (k : Nat) (hk : k ≤ d.size) : (d.extract 0 k).size = k := by rw [ByteArray.size_extract]; omega
theorem front_front (d : ByteArray) (k j : Nat) (h : j ≤ k) : (d.extract 0 k).extract 0 j = d.extract 0 j := by
  refine Hx.bytes_ext ?_
  rw [Lib.extract_data, Lib.extract_data, Lib.extract_data, List.drop_zero, List.drop_zero, List.take_take, Nat.sub_zero, Nat.sub_zero, Nat.min_eq_left h]
theorem front_hex (d : ByteArray) (k : Nat) (hk : k ≤ d.size) (h : Hx.isHex d = true) : Hx.isHex (d.extract 0 k) = true := by
  unfold Hx.isHex
  rw [front_size d k hk]
  refine Hx.isTo_of _ _ (fun j hj => ?_)
  have h1 := Hx.isTo_at d d.size j (by omega) h
  rw [Hx.dg_in d j (by omega)] at h1
  rw [Hx.dg_in _ j (by rw [front_size d k hk]; exact hj), ← Hx.byteAt_lt _ j (by rw [front_size d k hk]; exact hj), byteAt_front d k j hj hk, Hx.byteAt_lt d j (by omega)]
  exact h1
theorem front_isP (path : ByteArray) (k : Nat) (h1 : 1 ≤ k) (h2 : k ≤ 64) : Bn.isP ((Bn.dig path).extract 0 k) = true := by
  have hz := Bn.dig_size path
  unfold Bn.isP
  rw [front_size _ k (by omega), front_hex _ k (by omega) (Bn.dig_isHex path), decide_eq_true h1, decide_eq_true h2]
  rfl
theorem front_pre (path : ByteArray) (k : Nat) (h2 : k ≤ 64) : hasPre (Bn.dig path) ((Bn.dig path).extract 0 k) = true := by
  have hz := Bn.dig_size path
  unfold hasPre
  rw [front_size _ k (by omega), decide_eq_true (by omega)]
  simp
theorem prd_one (path : ByteArray) (k : Nat) (h1 : 1 ≤ k) (h2 : k ≤ 64) : Bn.prd [(Bn.dig path).extract 0 k] path = true := by
  unfold Bn.prd
  rw [List.any_cons, front_isP path k h1 h2, front_pre path k h2]
  rfl
theorem prd_two (path : ByteArray) (k : Nat) (h1 : 1 ≤ k) (h2 : k ≤ 64) : Bn.prd [⟨#[103]⟩, (Bn.dig path).extract 0 k] path = true := by
  unfold Bn.prd
  rw [List.any_cons, List.any_cons, front_isP path k h1 h2, front_pre path k h2]
  simp
theorem prd_other (path o : ByteArray) (k : Nat) (h1 : 1 ≤ k) (h2 : k ≤ 64) (ho : o.size = k) : Bn.prd [o] path = (o.toList == ((Bn.dig path).extract 0 k).toList) := by
  have hz := Bn.dig_size path
  unfold Bn.prd
  rw [List.any_cons, List.any_nil, Bool.or_false]
  by_cases e : o = (Bn.dig path).extract 0 k
  · rw [e, front_isP path k h1 h2, front_pre path k h2, beq_self_eq_true]
    rfl
  · have hne : ((Bn.dig path).extract 0 k).toList ≠ o.toList := by
      intro h
      rw [ByteArray.toList_eq, ByteArray.toList_eq] at h
      exact e (Hx.bytes_ext h.symm)
    have hp : hasPre (Bn.dig path) o = false := by
      unfold hasPre
      rw [ho, decide_eq_true (by omega), Bool.true_and, beq_eq_false_iff_ne]
      exact hne
    rw [hp, Bool.and_false, eq_comm, beq_eq_false_iff_ne]
    exact hne.symm
theorem yield_slice {P : Program} {ρ : Operand → Value} {o : Oper} (t : TypeId) (x : Operand) (lo hi mx : Option Operand) (h : o.op = .slice t x lo hi mx) (v : Value) (hr : ∀ w, (Instr.sliceAt t (ρ x) (lo.map ρ) (hi.map ρ) (mx.map ρ)).run P w = .ok v w) (w : World) : (execOp ρ o).run P w = .ok (.value v) w := by
  unfold execOp
  rw [h]
  simp [hr w, Result.andThen]
theorem slc_to (p : ByteArray) (i : Nat) (w : World) (hi : i ≤ p.size) : (Instr.sliceAt 9 (.string p) none (some (.int .i64 (i : Int))) none).run Tryd.prog w = .ok (.string (p.extract 0 i)) w := by
  have hh : (i : Int) ≤ (p.size : Int) := by omega
  rw [run_sliceAt_string w 9 _ _ _ _ Tryd.underlying9]
  simp [go_sem, Tryd.underlying9, hh]
theorem slc_from (p : ByteArray) (j : Nat) (i : Int) (w : World) (he : i = (j : Int)) (hi : j ≤ p.size) : (Instr.sliceAt 9 (.string p) (some (.int .i64 i)) none none).run Tryd.prog w = .ok (.string (p.extract j p.size)) w := by
  subst he
  have hh : (j : Int) ≤ (p.size : Int) := by omega
  rw [run_sliceAt_string w 9 _ _ _ _ Tryd.underlying9]
  simp [go_sem, Tryd.underlying9, hh]
theorem one_say (c : Nat) (w : World) (hc : c < 256) : (convert 43 9 (.slice (some ⟨w.heap.size, 0, none⟩) 1 1)).run Tryd.prog (w.alloc (.cells #[.int .u8 (c : Int)] 5)) = .ok (.string (strN [c])) (w.alloc (.cells #[.int .u8 (c : Int)] 5)) := by
  have e : strN [c] = strOfNums ([c].map fun b : Nat => (b : Int)) := rfl
  rw [e]
  refine run_convert_bytes_arg _ _ _ Tryd.underlying43 Tryd.underlying5 _ _ _ _ _ (by simp) (fun i hi => ?_) _ Tryd.underlying9
  have hi0 : i = 0 := by simpa using hi
  subst hi0
  exact Bk.cell (Bk.fresh w 5 #[.int .u8 (c : Int)]) 0
attribute [local irreducible] Sh.sha shaS Bn.prd Bn.dig Bn.goesS Bn.roleS Bn.roleE Bn.wrong Bn.prefL Bn.binN Bn.isP Bn.bin Bn.be4
set_option maxRecDepth 20000 in
set_option maxHeartbeats 400000 in
theorem binsLongerN_walk (path : ByteArray) (many at_ : Int) (c : Nat) (w : World) (hp0 : path.size ≤ maxLen) (hc : c < 256) (hT : Tb w) (hD : Digs w) :
    Calls Tryd.prog 8 #[.string path, .int .i64 many, .int .i64 at_, .int .u8 c] w fun e w' => e = .returned (.bool true) ∧ Below w.heap.size w w' := by
  by_cases h : 1000 < path.size
  · have hB : Hid (Below w.heap.size w w) := Below.refl _ _
    have hgt : decide ((1000 : Int) < path.size) = true := by simp; omega
    go_enter Tryd.func8, Tryd.ntmps8
    go_wp2_with fail
    refine (bawake_any _ (hT.below hB.out hT.lt) (hD.below hB.out hD.lt)).mono ?_
    rintro e w1 ⟨rfl, hb⟩
    replace hB := Lib.hid (hB.out.trans (hb.mono hB.out.size))
    clear hb
    go_wp2_with fail
    go_ret
    exact ⟨rfl, hB.out⟩
  have hB : Hid (Below w.heap.size w w) := Below.refl _ _
  have hgt : decide ((1000 : Int) < path.size) = false := by simp; omega
  have kz : path.size ≤ 1000 := by omega
  clear h hp0
  obtain ⟨k0, hk0, hke0⟩ := place_of many 64 (by omega) (by omega)
  have hke : wrap64 ((IntKind.u64.wrap many).tmod 64) = (k0 : Int) := hke0
  clear hke0
  obtain ⟨k, hk⟩ : ∃ k, k = 1 + k0 := ⟨_, rfl⟩
  have hk1 : 1 ≤ k := by omega
  have hk64 : k ≤ 64 := by omega
  have hki : (1 : Int) + (k0 : Int) = (k : Int) := by omega
  clear hk
  obtain ⟨i, hi, hie⟩ := place_of at_ k (by omega) (by omega)
  have hdz := Bn.dig_size path
  have HP1 := Lib.hid (prd_one path k hk1 hk64)
  have HP2 := Lib.hid (prd_two path (1 + i) (by omega) (by omega))
  have HP3 := Lib.hid (fun o ho => prd_other path o k hk1 hk64 ho)
  have HI := Lib.hid (front_isP path k hk1 hk64)
  go_enter Tryd.func8, Tryd.ntmps8
  go_wp2_with fail
  refine (bawake_any _ (hT.below hB.out hT.lt) (hD.below hB.out hD.lt)).mono ?_
  rintro e w2 ⟨rfl, hb⟩
  replace hB := Lib.hid (hB.out.trans (hb.mono hB.out.size))
  clear hb
  go_wp2_with fail
  refine (digest_any path _ (hT.below hB.out hT.lt) (hD.below hB.out hD.lt) (by omega)).mono ?_
  rintro e w3 ⟨rfl, hb⟩
  rw [digB_eq]
  replace hB := Lib.hid (hB.out.trans (hb.mono hB.out.size))
  clear hb
  generalize Bn.dig path = d at *
  go_wp2_with fail
  rw [hie]
  have hpz : (d.extract 0 k).size = k := front_size d k (by omega)
  have hpx : d.extract 0 (1 + i) = (d.extract 0 k).extract 0 (1 + i) := (front_front d k (1 + i) (by omega)).symm
  rw [hpx] at HP2
  clear hpx
  generalize d.extract 0 k = p at *
  refine Fst.wp_region_first [0, 1, 2, 3, 7, 8, 9, 10] [4, 5, 6, 11, 12] 0 (by kernel_rfl) (by kernel_rfl) ?_
  refine ⟨_, .inl ⟨rfl, fun w => BigFrame.run_move _ rfl w⟩, ?_⟩
  simp only [Act.put, Act.eval, List.getD_cons_zero, List.getD_cons_succ, List.setIfInBounds_toArray, List.set_cons_zero, List.set_cons_succ, List.getD_cons_zero, List.getD_cons_succ, Lex.getD_zero, Lex.getD_succ]
  refine ⟨_, .inl ⟨rfl, fun w => BigFrame.run_move _ rfl w⟩, ?_⟩
  simp only [Act.put, Act.eval, List.getD_cons_zero, List.getD_cons_succ, List.setIfInBounds_toArray, List.set_cons_zero, List.set_cons_succ, List.getD_cons_zero, List.getD_cons_succ, Lex.getD_zero, Lex.getD_succ]
  try simp only [Act.put, Act.eval, List.setIfInBounds_toArray, List.set_cons_zero, List.set_cons_succ, List.getD_cons_zero, List.getD_cons_succ, Lex.getD_zero, Lex.getD_succ]
  refine ⟨.string (p.extract 0 i), .inl ⟨rfl, fun w => yield_slice _ _ _ _ _ rfl _ (fun w => ?_) w⟩, ?_⟩
  · simp only [Act.put, Act.eval, Option.map, List.getD_cons_zero, List.getD_cons_succ, Lex.getD_zero, Lex.getD_succ]
    exact slc_to _ _ _ (by omega)
  refine ⟨_, .inl ⟨rfl, fun w => BigFrame.run_move _ rfl w⟩, ?_⟩
  simp only [Act.put, Act.eval, List.getD_cons_zero, List.getD_cons_succ, List.setIfInBounds_toArray, List.set_cons_zero, List.set_cons_succ, List.getD_cons_zero, List.getD_cons_succ, Lex.getD_zero, Lex.getD_succ]
  refine ⟨_, .inl ⟨rfl, fun w => BigFrame.run_move _ rfl w⟩, ?_⟩
  simp only [Act.put, Act.eval, List.getD_cons_zero, List.getD_cons_succ, List.setIfInBounds_toArray, List.set_cons_zero, List.set_cons_succ, List.getD_cons_zero, List.getD_cons_succ, Lex.getD_zero, Lex.getD_succ]
  refine ⟨_, .inl ⟨rfl, fun w => BigFrame.run_move _ rfl w⟩, ?_⟩
  simp only [Act.put, Act.eval, List.getD_cons_zero, List.getD_cons_succ, List.setIfInBounds_toArray, List.set_cons_zero, List.set_cons_succ, List.getD_cons_zero, List.getD_cons_succ, Lex.getD_zero, Lex.getD_succ]
  try simp only [Act.put, Act.eval, List.setIfInBounds_toArray, List.set_cons_zero, List.set_cons_succ, List.getD_cons_zero, List.getD_cons_succ, Lex.getD_zero, Lex.getD_succ]
  refine ⟨.int .i64 ((i : Int) + 1), .inl ⟨rfl, fun w => ?_⟩, ?_⟩
  · simp only [execOp, Act.put, Act.eval, List.getD_cons_zero, List.getD_cons_succ, Lex.getD_zero, Lex.getD_succ]
    have hi1 : IntKind.i64.wrap ((i : Int) + 1) = (i : Int) + 1 := IntWalk.i64_in _ (by omega)
    simp [eqGuard, binOp, run_underlying Tryd.underlying3, Result.andThen, go_sem, hi1]
  try simp only [Act.put, Act.eval, List.setIfInBounds_toArray, List.set_cons_zero, List.set_cons_succ, List.getD_cons_zero, List.getD_cons_succ, Lex.getD_zero, Lex.getD_succ]
  refine ⟨.string (p.extract (i + 1) p.size), .inl ⟨rfl, fun w => yield_slice _ _ _ _ _ rfl _ (fun w => ?_) w⟩, ?_⟩
  · simp only [Act.put, Act.eval, Option.map, List.getD_cons_zero, List.getD_cons_succ, Lex.getD_zero, Lex.getD_succ]
    exact slc_from _ (i + 1) _ _ (by omega) (by omega)
  simp only [Fst.wpFst, List.map_cons, List.map_nil, List.getD_cons_zero, List.getD_cons_succ, Act.put, Act.eval, List.setIfInBounds_toArray, List.set_cons_zero, List.set_cons_succ, List.getD_cons_zero, List.getD_cons_succ, Lex.getD_zero, Lex.getD_succ]
  obtain ⟨wd, hwd⟩ : ∃ wd : World, wd = { w3 with drawn := w3.drawn + 1 } := ⟨_, rfl⟩
  rw [← hwd]
  have hBd : Hid (Below w.heap.size w wd) := by rw [hwd]; exact Lib.hid (below_drawn hB.out 1)
  clear hwd hB
  have hcv := one_say c wd hc
  have z1 : (strN [c]).size = 1 := rfl
  have z2 : (p.extract 0 i).size = i := front_size p i (by omega)
  have z3 : (p.extract (i + 1) p.size).size = k - (i + 1) := by rw [ByteArray.size_extract]; omega
  have z3b : (p.extract (i + 1) k).size = k - (i + 1) := by rw [ByteArray.size_extract]; omega
  generalize strN [c] = x at *
  go_wp2_with fail
  refine NoPanic.normal ?_
  show wpAny _ _ _ _ _ _ _ _
  refine Fst.any_end (by kernel_rfl) ?_
  have hB := Lib.hid (hBd.out.alloc hBd.out.size (.cells #[.int .u8 (c : Int)] 5 (0, 0)))
  generalize wd.alloc (.cells #[.int .u8 (c : Int)] 5) = we at *
  have hoz : (p.extract 0 i ++ x ++ p.extract (i + 1) k).size = k := by rw [ByteArray.size_append, ByteArray.size_append]; omega
  have HP3 := Lib.hid (HP3.out _ hoz)
  generalize p.extract 0 i ++ x ++ p.extract (i + 1) k = q at *
  go_wp2_with fail
  refine (bIs_any p _ (by rw [hpz]; unfold maxLen; omega)).mono ?_
  rintro e _ ⟨rfl, rfl⟩
  rw [HI.out]
  have z4 : (p.extract 0 (1 + i)).size = 1 + i := front_size p (1 + i) (by omega)
  go_wp2_with fail
  have hL := Lib.hid (rw_lit we [p])
  replace hB := Lib.hid (hB.out.alloc hB.out.size (.cells (strsL [p]).toArray 9 (0, 0)))
  refine (bPrefixed_any [p] _ _ path _ (hT.below hB.out hT.lt) (hD.below hB.out hD.lt) hL.out.strs (fun j hj => ?_) (by unfold maxLen; simp) (by omega)).mono ?_
  · rcases j with _ | j
    · simp only [List.getD_cons_zero, List.getD_cons_succ]; unfold maxLen; omega
    · simp at hj <;> omega
  rintro e w4 ⟨rfl, hb⟩
  rw [HP1.out]
  replace hB := Lib.hid (hB.out.trans (hb.mono hB.out.size))
  clear hb
  go_wp2_with fail
  have hL := Lib.hid (rw_lit w4 [⟨#[103]⟩, p.extract 0 (1 + i)])
  replace hB := Lib.hid (hB.out.alloc hB.out.size (.cells (strsL [⟨#[103]⟩, p.extract 0 (1 + i)]).toArray 9 (0, 0)))
  refine (bPrefixed_any [⟨#[103]⟩, p.extract 0 (1 + i)] _ _ path _ (hT.below hB.out hT.lt) (hD.below hB.out hD.lt) hL.out.strs (fun j hj => ?_) (by unfold maxLen; simp) (by omega)).mono ?_
  · rcases j with _ | _ | j
    · show 1 ≤ maxLen; unfold maxLen; decide
    · simp only [List.getD_cons_zero, List.getD_cons_succ]; unfold maxLen; omega
    · simp at hj <;> omega
  rintro e w5 ⟨rfl, hb⟩
  rw [HP2.out]
  replace hB := Lib.hid (hB.out.trans (hb.mono hB.out.size))
  clear hb
  go_wp2_with fail
  have hL := Lib.hid (rw_lit w5 [q])
  replace hB := Lib.hid (hB.out.alloc hB.out.size (.cells (strsL [q]).toArray 9 (0, 0)))
  refine (bPrefixed_any [q] _ _ path _ (hT.below hB.out hT.lt) (hD.below hB.out hD.lt) hL.out.strs (fun j hj => ?_) (by unfold maxLen; simp) (by omega)).mono ?_
  · rcases j with _ | j
    · simp only [List.getD_cons_zero, List.getD_cons_succ]; unfold maxLen; omega
    · simp at hj <;> omega
  rintro e w6 ⟨rfl, hb⟩
  rw [HP3.out]
  replace hB := Lib.hid (hB.out.trans (hb.mono hB.out.size))
  clear hb
  go_wp2_with fail
  go_ret
  exact ⟨rfl, hB.out⟩
theorem binsLonger_walk (path : ByteArray) (many at_ c : Int) (w : World) (hp0 : path.size ≤ maxLen) (hc : (Lit.int .u8 c).wf = true) (hT : Tb w) (hD : Digs w) :
    Calls Tryd.prog 8 #[.string path, .int .i64 many, .int .i64 at_, .int .u8 c] w fun e w' => e = .returned (.bool true) ∧ Below w.heap.size w w' := by
  have hb := bounds_u8 hc
  obtain ⟨n, rfl⟩ := Int.eq_ofNat_of_zero_le hb.1
  exact binsLongerN_walk path many at_ n w hp0 (by omega) hT hD
end Go.Proofs.YtflfmacfodkedaaDoor
