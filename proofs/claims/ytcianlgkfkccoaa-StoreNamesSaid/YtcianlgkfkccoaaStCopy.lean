/-
  The walk of Copy.
-/
import Derived.Test.YtcianlgkfkccoaaStTwo
import Derived.Test.YtcianlgkfkccoaaFirst
namespace Go.Proofs.Ytcianlgkfkccoaa
set_option linter.unusedSimpArgs false
set_option linter.unusedVariables false
open Go Go.RowKit

theorem fa_st0 (g : Nat) (W : World) : (Instr.fieldAt 61 (.pointer (some ⟨g, 0, none⟩)) 0).run Try.prog W = .ok (.pointer (some ⟨g, 0, none⟩)) W := by kernel_rfl
theorem fa_st1 (g : Nat) (W : World) : (Instr.fieldAt 61 (.pointer (some ⟨g, 0, none⟩)) 1).run Try.prog W = .ok (.pointer (some ⟨g, 1, none⟩)) W := by kernel_rfl
theorem fa_st2 (g : Nat) (W : World) : (Instr.fieldAt 61 (.pointer (some ⟨g, 0, none⟩)) 2).run Try.prog W = .ok (.pointer (some ⟨g, 2, none⟩)) W := by kernel_rfl
theorem fa_st3 (g : Nat) (W : World) : (Instr.fieldAt 61 (.pointer (some ⟨g, 0, none⟩)) 3).run Try.prog W = .ok (.pointer (some ⟨g, 3, none⟩)) W := by kernel_rfl
theorem ld_cs (g o : Nat) (v : Value) (W : World) (h : W.cell? ⟨g, o, none⟩ = some v) : (Instr.loadAt 9 (.pointer (some ⟨g, o, none⟩))).run Try.prog W = .ok v W := by
  have a3 : (isAgg 9).run Try.prog W = .ok false W := by kernel_rfl
  simp [Instr.loadAt, Instr.sureAddr, loadVar, a3, Result.andThen, go_sem, h]
theorem ld_cf (g o : Nat) (v : Value) (W : World) (h : W.cell? ⟨g, o, none⟩ = some v) : (Instr.loadAt 22 (.pointer (some ⟨g, o, none⟩))).run Try.prog W = .ok v W := by
  have a3 : (isAgg 22).run Try.prog W = .ok false W := by kernel_rfl
  simp [Instr.loadAt, Instr.sureAddr, loadVar, a3, Result.andThen, go_sem, h]
theorem ld_cm (g o : Nat) (v : Value) (W : World) (h : W.cell? ⟨g, o, none⟩ = some v) : (Instr.loadAt 59 (.pointer (some ⟨g, o, none⟩))).run Try.prog W = .ok v W := by
  have a3 : (isAgg 59).run Try.prog W = .ok false W := by kernel_rfl
  simp [Instr.loadAt, Instr.sureAddr, loadVar, a3, Result.andThen, go_sem, h]
theorem ld_co (g o : Nat) (v : Value) (W : World) (h : W.cell? ⟨g, o, none⟩ = some v) : (Instr.loadAt 47 (.pointer (some ⟨g, o, none⟩))).run Try.prog W = .ok v W := by
  have a3 : (isAgg 47).run Try.prog W = .ok false W := by kernel_rfl
  simp [Instr.loadAt, Instr.sureAddr, loadVar, a3, Result.andThen, go_sem, h]
/-- What Copy reads of the store. -/
def Sees (W : World) (g : Nat) (repo : ByteArray) (fv : Value) (m : Nat) (ov : Value) : Prop := W.cell? ⟨g, 0, none⟩ = some (.string repo) ∧ W.cell? ⟨g, 1, none⟩ = some fv ∧ W.cell? ⟨g, 2, none⟩ = some (.map (some m)) ∧ W.cell? ⟨g, 3, none⟩ = some ov
theorem copy_nil (w : World) : Calls Try.prog 25 #[.pointer none] w fun e w' => e = .returned (.pointer none) ∧ w = w' := by
  go_enter Try.func25, Try.ntmps25
  go_wp2_with fail
  go_ret
  exact ⟨rfl, rfl⟩
set_option maxRecDepth 20000 in
set_option maxHeartbeats 1000000 in
theorem copy_has {w : World} {g : Nat} {F : Nat → Prop} {repo : ByteArray} {fs : List (ByteArray × ByteArray)} {l : List St.En} (h : Has w g F repo fs l) (hfl : fs.length ≤ 1000000) (hll : l.length ≤ 1000000) :
    Calls Try.prog 25 #[.pointer (some ⟨g, 0, none⟩)] w fun e w' => ∃ g', e = .returned (.pointer (some ⟨g', 0, none⟩)) ∧ (∃ F', Has w' g' F' repo fs l ∧ ∀ b, F' b → w.heap.size ≤ b) ∧ Below w.heap.size w w' := by
  obtain ⟨m, fv, ov, h⟩ := h
  obtain ⟨fa, fc, rfl, hF⟩ := Files.of_own h.files
  obtain ⟨oa, on, oc, rfl⟩ := own_slice h.order
  have HF := Lib.hid hF
  have HO := Lib.hid h.order
  have HM := Lib.hid h.map
  have H1 := Lib.hid h.one
  have HSM := Lib.hid h.small
  have HR := Lib.hid h.row
  have HS : Hid (∀ W : World, Below w.heap.size w W → Sees W g repo (.slice fa fs.length fc) m (.slice oa on oc)) := fun W hW => by
    have hb := bk_keep HR.out (Keeps.of_below (F := fun _ => False) hW) (fun h => h)
    exact ⟨hb.cell 0, hb.cell 1, hb.cell 2, hb.cell 3⟩
  clear h hF
  go_enter Try.func25, Try.ntmps25
  go_wp2_with fail
  refine Fst.wp_region_heldf (fun W => Sees W g repo (.slice fa fs.length fc) m (.slice oa on oc)) [0, 1, 2, 3, 4, 5, 6, 7, 9, 10, 11, 12, 14, 15, 16, 17] 6 (by kernel_rfl) (by kernel_rfl) (by have h := HS.out w (Below.refl _ _); exact h) ?_
  refine ⟨_, .inl ⟨rfl, fun W _ => BigFrame.run_move _ rfl W⟩, ?_⟩
  try simp only [Fst.wpFstS, Act.put, Act.eval, List.getD_cons_zero, List.getD_cons_succ, List.setIfInBounds_toArray, List.set_cons_zero, List.set_cons_succ, Lex.getD_zero, Lex.getD_succ]
  refine ⟨.pointer (some ⟨g, 0, none⟩), .inl ⟨rfl, fun W hW => ?_⟩, ?_⟩
  · simp only [Act.put, Act.eval, List.getD_cons_zero, List.getD_cons_succ, Lex.getD_zero, Lex.getD_succ, execOp]
    simp [go_sem, Result.andThen]
  try simp only [Fst.wpFstS, Act.put, Act.eval, List.getD_cons_zero, List.getD_cons_succ, List.setIfInBounds_toArray, List.set_cons_zero, List.set_cons_succ, Lex.getD_zero, Lex.getD_succ]
  refine ⟨.pointer (some ⟨g, 0, none⟩), .inl ⟨rfl, fun W hW => ?_⟩, ?_⟩
  · simp only [Act.put, Act.eval, List.getD_cons_zero, List.getD_cons_succ, Lex.getD_zero, Lex.getD_succ, execOp]
    simp [fa_st0, Result.andThen]
  try simp only [Fst.wpFstS, Act.put, Act.eval, List.getD_cons_zero, List.getD_cons_succ, List.setIfInBounds_toArray, List.set_cons_zero, List.set_cons_succ, Lex.getD_zero, Lex.getD_succ]
  refine ⟨.string repo, .inl ⟨rfl, fun W hW => ?_⟩, ?_⟩
  · simp only [Act.put, Act.eval, List.getD_cons_zero, List.getD_cons_succ, Lex.getD_zero, Lex.getD_succ, execOp]
    simp [ld_cs _ _ _ _ hW.1, Result.andThen]
  try simp only [Fst.wpFstS, Act.put, Act.eval, List.getD_cons_zero, List.getD_cons_succ, List.setIfInBounds_toArray, List.set_cons_zero, List.set_cons_succ, Lex.getD_zero, Lex.getD_succ]
  refine ⟨_, .inl ⟨rfl, fun W _ => BigFrame.run_move _ rfl W⟩, ?_⟩
  try simp only [Fst.wpFstS, Act.put, Act.eval, List.getD_cons_zero, List.getD_cons_succ, List.setIfInBounds_toArray, List.set_cons_zero, List.set_cons_succ, Lex.getD_zero, Lex.getD_succ]
  refine ⟨.pointer (some ⟨g, 0, none⟩), .inl ⟨rfl, fun W hW => ?_⟩, ?_⟩
  · simp only [Act.put, Act.eval, List.getD_cons_zero, List.getD_cons_succ, Lex.getD_zero, Lex.getD_succ, execOp]
    simp [go_sem, Result.andThen]
  try simp only [Fst.wpFstS, Act.put, Act.eval, List.getD_cons_zero, List.getD_cons_succ, List.setIfInBounds_toArray, List.set_cons_zero, List.set_cons_succ, Lex.getD_zero, Lex.getD_succ]
  refine ⟨.pointer (some ⟨g, 1, none⟩), .inl ⟨rfl, fun W hW => ?_⟩, ?_⟩
  · simp only [Act.put, Act.eval, List.getD_cons_zero, List.getD_cons_succ, Lex.getD_zero, Lex.getD_succ, execOp]
    simp [fa_st1, Result.andThen]
  try simp only [Fst.wpFstS, Act.put, Act.eval, List.getD_cons_zero, List.getD_cons_succ, List.setIfInBounds_toArray, List.set_cons_zero, List.set_cons_succ, Lex.getD_zero, Lex.getD_succ]
  refine ⟨.slice fa fs.length fc, .inl ⟨rfl, fun W hW => ?_⟩, ?_⟩
  · simp only [Act.put, Act.eval, List.getD_cons_zero, List.getD_cons_succ, Lex.getD_zero, Lex.getD_succ, execOp]
    simp [ld_cf _ _ _ _ hW.2.1, Result.andThen]
  try simp only [Fst.wpFstS, Act.put, Act.eval, List.getD_cons_zero, List.getD_cons_succ, List.setIfInBounds_toArray, List.set_cons_zero, List.set_cons_succ, Lex.getD_zero, Lex.getD_succ]
  refine ⟨_, .inl ⟨rfl, fun W _ => BigFrame.run_move _ rfl W⟩, ?_⟩
  try simp only [Fst.wpFstS, Act.put, Act.eval, List.getD_cons_zero, List.getD_cons_succ, List.setIfInBounds_toArray, List.set_cons_zero, List.set_cons_succ, Lex.getD_zero, Lex.getD_succ]
  refine ⟨.pointer (some ⟨g, 0, none⟩), .inl ⟨rfl, fun W hW => ?_⟩, ?_⟩
  · simp only [Act.put, Act.eval, List.getD_cons_zero, List.getD_cons_succ, Lex.getD_zero, Lex.getD_succ, execOp]
    simp [go_sem, Result.andThen]
  try simp only [Fst.wpFstS, Act.put, Act.eval, List.getD_cons_zero, List.getD_cons_succ, List.setIfInBounds_toArray, List.set_cons_zero, List.set_cons_succ, Lex.getD_zero, Lex.getD_succ]
  refine ⟨.pointer (some ⟨g, 2, none⟩), .inl ⟨rfl, fun W hW => ?_⟩, ?_⟩
  · simp only [Act.put, Act.eval, List.getD_cons_zero, List.getD_cons_succ, Lex.getD_zero, Lex.getD_succ, execOp]
    simp [fa_st2, Result.andThen]
  try simp only [Fst.wpFstS, Act.put, Act.eval, List.getD_cons_zero, List.getD_cons_succ, List.setIfInBounds_toArray, List.set_cons_zero, List.set_cons_succ, Lex.getD_zero, Lex.getD_succ]
  refine ⟨.map (some m), .inl ⟨rfl, fun W hW => ?_⟩, ?_⟩
  · simp only [Act.put, Act.eval, List.getD_cons_zero, List.getD_cons_succ, Lex.getD_zero, Lex.getD_succ, execOp]
    simp [ld_cm _ _ _ _ hW.2.2.1, Result.andThen]
  try simp only [Fst.wpFstS, Act.put, Act.eval, List.getD_cons_zero, List.getD_cons_succ, List.setIfInBounds_toArray, List.set_cons_zero, List.set_cons_succ, Lex.getD_zero, Lex.getD_succ]
  refine ⟨_, .inl ⟨rfl, fun W _ => BigFrame.run_move _ rfl W⟩, ?_⟩
  try simp only [Fst.wpFstS, Act.put, Act.eval, List.getD_cons_zero, List.getD_cons_succ, List.setIfInBounds_toArray, List.set_cons_zero, List.set_cons_succ, Lex.getD_zero, Lex.getD_succ]
  refine ⟨.pointer (some ⟨g, 0, none⟩), .inl ⟨rfl, fun W hW => ?_⟩, ?_⟩
  · simp only [Act.put, Act.eval, List.getD_cons_zero, List.getD_cons_succ, Lex.getD_zero, Lex.getD_succ, execOp]
    simp [go_sem, Result.andThen]
  try simp only [Fst.wpFstS, Act.put, Act.eval, List.getD_cons_zero, List.getD_cons_succ, List.setIfInBounds_toArray, List.set_cons_zero, List.set_cons_succ, Lex.getD_zero, Lex.getD_succ]
  refine ⟨.pointer (some ⟨g, 3, none⟩), .inl ⟨rfl, fun W hW => ?_⟩, ?_⟩
  · simp only [Act.put, Act.eval, List.getD_cons_zero, List.getD_cons_succ, Lex.getD_zero, Lex.getD_succ, execOp]
    simp [fa_st3, Result.andThen]
  try simp only [Fst.wpFstS, Act.put, Act.eval, List.getD_cons_zero, List.getD_cons_succ, List.setIfInBounds_toArray, List.set_cons_zero, List.set_cons_succ, Lex.getD_zero, Lex.getD_succ]
  refine ⟨.slice oa on oc, .inl ⟨rfl, fun W hW => ?_⟩, ?_⟩
  · simp only [Act.put, Act.eval, List.getD_cons_zero, List.getD_cons_succ, Lex.getD_zero, Lex.getD_succ, execOp]
    simp [ld_co _ _ _ _ hW.2.2.2, Result.andThen]
  try simp only [Fst.wpFstS, Act.put, Act.eval, List.getD_cons_zero, List.getD_cons_succ, List.setIfInBounds_toArray, List.set_cons_zero, List.set_cons_succ, Lex.getD_zero, Lex.getD_succ]
  obtain ⟨wc, hwc⟩ : ∃ wc : World, wc = { w with drawn := w.drawn + 1 } := ⟨_, rfl⟩
  rw [← hwc]
  have HB : Hid (Below w.heap.size w wc) := by rw [hwc]; exact ⟨rfl, rfl, rfl, Nat.le_refl _, fun _ _ => rfl⟩
  clear hwc
  refine Fst.held_one (i := 8) (by kernel_rfl) (by kernel_rfl) ?_
  simp only [List.getD_cons_zero, List.getD_cons_succ]
  go_wp2_with fail
  refine (fclone_any fa fs fc _ (HF.out.later HB.out) hfl).mono ?_
  rintro e wd ⟨v1, rfl, hown, hb⟩
  obtain ⟨xa, xn, xc, rfl⟩ := own_slice hown
  have H2 := Lib.hid (own_mono hown HB.out.size)
  have HB2 := Lib.hid (HB.out.trans (hb.mono HB.out.size))
  clear hown hb HB
  go_wp2_with fail
  refine NoPanic.normal ?_
  show _ ∧ wpAnyH _ _ _ _ _ _ _ _ _
  refine ⟨HS.out _ HB2.out, ?_⟩
  refine Fst.held_one (i := 13) (by kernel_rfl) (by kernel_rfl) ?_
  simp only [List.getD_cons_zero, List.getD_cons_succ]
  go_wp2_with fail
  refine (mclone_any m l _ ((HB2.out.block _ HM.out.lt).trans HM.out)).mono ?_
  rintro e we ⟨rfl, hm, hb⟩
  have H3 := Lib.hid hm
  have H2 := Lib.hid (own_keep H2.out hb)
  have HB3 := Lib.hid (HB2.out.trans (hb.mono HB2.out.size))
  obtain ⟨mb, hmb⟩ : ∃ mb, mb = wd.heap.size := ⟨_, rfl⟩
  rw [← hmb] at H3 ⊢
  have hmb2 : w.heap.size ≤ mb := by rw [hmb]; exact HB2.out.size
  clear hm hb hmb HB2
  go_wp2_with fail
  refine NoPanic.normal ?_
  show _ ∧ wpAnyH _ _ _ _ _ _ _ _ _
  refine ⟨HS.out _ HB3.out, ?_⟩
  refine Fst.held_one (i := 18) (by kernel_rfl) (by kernel_rfl) ?_
  simp only [List.getD_cons_zero, List.getD_cons_succ]
  go_wp2_with fail
  refine (nclone_any 0 (.slice oa on oc) l _ (own_keep HO.out HB3.out) hll).mono ?_
  rintro e wf ⟨v3, rfl, hown, hb⟩
  obtain ⟨ya, yn, yc, rfl⟩ := own_slice hown
  have H4 := Lib.hid (own_mono hown HB3.out.size)
  have H3 : Hid (MapIs wf mb l) := (hb.block _ H3.out.lt).trans H3.out
  have H2 := Lib.hid (own_keep H2.out hb)
  have HB4 := Lib.hid (HB3.out.trans (hb.mono HB3.out.size))
  clear hown hb HB3
  go_wp2_with fail
  refine NoPanic.normal ?_
  show _ ∧ wpAnyH _ _ _ _ _ _ _ _ _
  refine ⟨HS.out _ HB4.out, ?_⟩
  refine Fst.held_one (i := 19) (by kernel_rfl) (by kernel_rfl) ?_
  simp only [List.getD_cons_zero, List.getD_cons_succ]
  go_wp2_with fail
  refine NoPanic.normal ?_
  show _ ∧ wpAnyH _ _ _ _ _ _ _ _ _
  refine ⟨HS.out _ HB4.out, ?_⟩
  refine Fst.held_one (i := 20) (by kernel_rfl) (by kernel_rfl) ?_
  simp only [List.getD_cons_zero, List.getD_cons_succ]
  go_wp2_with fail
  refine NoPanic.normal ?_
  show _ ∧ wpAnyH _ _ _ _ _ _ _ _ _
  obtain ⟨wg, hwg⟩ : ∃ W : World, W = wf.alloc (.cells #[.string repo, .slice xa xn xc, .map (some mb), .slice ya yn yc] 61 (0, 0)) := ⟨_, rfl⟩
  rw [← hwg]
  have HR5 : Hid (Bk wg wf.heap.size 61 #[.string repo, .slice xa xn xc, .map (some mb), .slice ya yn yc]) := by rw [hwg]; exact Bk.fresh wf _ _
  have HB5 : Hid (Below w.heap.size w wg) := by rw [hwg]; exact HB4.out.alloc HB4.out.size _
  have hsz5 : wg.heap.size = wf.heap.size + 1 := by rw [hwg]; simp
  have H2 : Hid (wg.ownsRow w.heap.size 35 2 (.slice xa xn xc) fs.length (fcells fs)) := by rw [hwg]; exact H2.out.alloc _
  have H3 : Hid (MapIs wg mb l) := by rw [hwg]; exact (Below.heap_alloc wf _ mb H3.out.lt).trans H3.out
  have H4 : Hid (wg.ownsRow w.heap.size 9 1 (.slice ya yn yc) l.length (names l)) := by rw [hwg]; exact H4.out.alloc _
  have hf5 := HB4.out.size
  obtain ⟨gn, hgn⟩ : ∃ gn, gn = wf.heap.size := ⟨_, rfl⟩
  rw [← hgn] at HR5 hsz5 hf5 ⊢
  clear hwg HB4 hgn
  refine ⟨HS.out _ HB5.out, ?_⟩
  refine Fst.held_one (i := 21) (by kernel_rfl) (by kernel_rfl) ?_
  simp only [List.getD_cons_zero, List.getD_cons_succ]
  go_wp2_with fail
  refine NoPanic.normal ?_
  show _ ∧ wpAnyH _ _ _ _ _ _ _ _ _
  refine ⟨HS.out _ HB5.out, ?_⟩
  refine Fst.held_end (by kernel_rfl) ?_
  go_wp2_with fail
  go_ret
  refine ⟨gn, rfl, ⟨fun b => b = gn ∨ b = mb ∨ (Value.slice xa xn xc).ownBlock = some b ∨ (Value.slice ya yn yc).ownBlock = some b, ⟨mb, .slice xa xn xc, .slice ya yn yc, HR5.out, own_mono H2.out (Nat.zero_le _), H3.out, own_mono H4.out (Nat.zero_le _), .inl rfl, .inr (.inl rfl), (fun b hb => .inr (.inr (.inl hb))), (fun b hb => .inr (.inr (.inr hb))), ?_, H1.out, HSM.out⟩, ?_⟩, HB5.out⟩
  · intro b hb
    rcases hb with rfl | rfl | hb | hb
    · exact HR5.out.lt
    · exact H3.out.lt
    · exact (H2.out.lt b hb).2
    · exact (H4.out.lt b hb).2
  · intro b hb
    rcases hb with rfl | rfl | hb | hb
    · exact hf5
    · exact hmb2
    · exact (H2.out.lt b hb).1
    · exact (H4.out.lt b hb).1
end Go.Proofs.Ytcianlgkfkccoaa
