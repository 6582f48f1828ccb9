/-
  The statement BinsNames, walked: it returns true.
-/
import Derived.Test.YtflfmacfodkedaaDoorBinsExp
import Derived.Test.YtflfmacfodkedaaDoorBytes
namespace Go.Proofs.YtflfmacfodkedaaDoor
set_option linter.unusedSimpArgs false
set_option linter.unusedVariables false
open Go Go.RowKit

theorem below_row' {B g : Nat} {w0 w : World} (hb : Below B w0 w) (hB : B ≤ g) (cs : Array Value) : Below B w0 (w.setRow g cs) :=
  ⟨hb.os, hb.tape, hb.output, by rw [size_setRow]; exact hb.size, fun i hi => (setRow_other w g i cs (by omega)).trans (hb.block i hi)⟩
/-- A world by a letter, with what is known of it. -/
theorem wp_letter' {P : Program} {ops : Array Oper} {Q : Exit → Act → World → Prop} {rest : List Oper} {a : Act} {W : World} (F : World → Prop) (hW : F W) (h : ∀ W', F W' → wpList P ops Q rest a W') : wpList P ops Q rest a W := h W hW
/-- So many letters p. -/
def psn (n : Nat) : ByteArray := strN (List.replicate n 112)
theorem psn_say (g n : Nat) (w : World) (hn : n ≤ 64) (hc : ∀ j, j < 64 → w.cell? ⟨g, j, none⟩ = some (.int .u8 112)) : (convert 43 9 (.slice (some ⟨g, 0, none⟩) n 64)).run Tryd.prog w = .ok (.string (psn n)) w := by
  have e : psn n = strOfNums ((List.replicate n 112).map fun b : Nat => (b : Int)) := by
    unfold psn strN strOfNums
    rw [List.map_map]
    rfl
  rw [e]
  refine run_convert_bytes_arg w _ _ Tryd.underlying43 Tryd.underlying5 _ _ _ _ _ (by rw [List.length_map, List.length_replicate]) (fun i hi => ?_) _ Tryd.underlying9
  rw [Nat.zero_add, hc i (by omega)]
  simp [hi]
def eB (j : Nat) : Int := [0, 33, -1, 1, 1, 4, 5, 32, 29, 1, 1].getD j 0
def eP (j : Nat) : ByteArray := [⟨#[120]⟩, ⟨#[]⟩, ⟨#[120]⟩, ⟨#[]⟩, ⟨#[97, 32, 98]⟩, psn 62, psn 62, psn 55, psn 56, psn 64, ⟨#[114, 111, 111, 116]⟩].getD j ByteArray.empty
def eE (j : Nat) : Int := [1, 1, 1, 3, 3, 0, 5, 0, 5, 5, 0].getD j 0
theorem e_all (j : Nat) (h : j < 11) : Bn.wrong (eB j) (eP j) = eE j ∧ (eP j).size ≤ 64 := by
  have : ∀ i : Fin 11, Bn.wrong (eB i) (eP i) = eE i ∧ (eP i).size ≤ 64 := by decide +kernel
  exact this ⟨j, h⟩

def eC : Array Value := #[.int .i64 0, .slice none 0 0, .int .i64 (0), .string (⟨#[120]⟩), .int .i64 1, .int .i64 0, .slice none 0 0, .int .i64 (33), .string (⟨#[]⟩), .int .i64 1, .int .i64 0, .slice none 0 0, .int .i64 (-1), .string (⟨#[120]⟩), .int .i64 1, .int .i64 0, .slice none 0 0, .int .i64 (1), .string (⟨#[]⟩), .int .i64 3, .int .i64 0, .slice none 0 0, .int .i64 (1), .string (⟨#[97, 32, 98]⟩), .int .i64 3, .int .i64 0, .slice none 0 0, .int .i64 (4), .string (psn 62), .int .i64 0, .int .i64 0, .slice none 0 0, .int .i64 (5), .string (psn 62), .int .i64 5, .int .i64 0, .slice none 0 0, .int .i64 (32), .string (psn 55), .int .i64 0, .int .i64 0, .slice none 0 0, .int .i64 (29), .string (psn 56), .int .i64 5, .int .i64 0, .slice none 0 0, .int .i64 (1), .string (psn 64), .int .i64 5, .int .i64 0, .slice none 0 0, .int .i64 (1), .string (⟨#[114, 111, 111, 116]⟩), .int .i64 0]
theorem last_pref : Bn.prefL 32 4294967295 = [⟨#[102, 102, 102, 102, 102, 102, 102, 102]⟩] ∧ Bn.prefE 32 4294967295 = 0 := by decide +kernel
theorem name_3f : Bn.roleT 6 ⟨#[120]⟩ 63 = ⟨#[120, 45, 51, 102]⟩ := by decide +kernel
theorem wrong6 : Bn.wrong 6 ⟨#[120]⟩ = 0 := by decide +kernel
theorem pr_d : Bn.prd [⟨#[]⟩, ⟨#[101, 52]⟩, ⟨#[101, 51, 98, 48, 99, 52, 52, 50, 57, 56, 102, 99, 49, 99, 49, 52, 57, 97, 102, 98, 102, 52, 99, 56, 57, 57, 54, 102, 98, 57, 50, 52, 50, 55, 97, 101, 52, 49, 101, 52, 54, 52, 57, 98, 57, 51, 52, 99, 97, 52, 57, 53, 57, 57, 49, 98, 55, 56, 53, 50, 98, 56, 53, 53]⟩] ⟨#[]⟩ = true := by
  unfold Bn.prd
  rw [dig_nil]
  decide +kernel
theorem pr_e : Bn.prd [⟨#[]⟩, ⟨#[69, 51]⟩, ⟨#[101, 51, 98, 48, 99, 52, 52, 50, 57, 56, 102, 99, 49, 99, 49, 52, 57, 97, 102, 98, 102, 52, 99, 56, 57, 57, 54, 102, 98, 57, 50, 52, 50, 55, 97, 101, 52, 49, 101, 52, 54, 52, 57, 98, 57, 51, 52, 99, 97, 52, 57, 53, 57, 57, 49, 98, 55, 56, 53, 50, 98, 56, 53, 53]⟩ ++ ⟨#[48]⟩] ⟨#[]⟩ = false := by
  unfold Bn.prd
  rw [dig_nil]
  decide +kernel
theorem is_d : Bn.isP ⟨#[101, 51, 98, 48, 99, 52, 52, 50, 57, 56, 102, 99, 49, 99, 49, 52, 57, 97, 102, 98, 102, 52, 99, 56, 57, 57, 54, 102, 98, 57, 50, 52, 50, 55, 97, 101, 52, 49, 101, 52, 54, 52, 57, 98, 57, 51, 52, 99, 97, 52, 57, 53, 57, 57, 49, 98, 55, 56, 53, 50, 98, 56, 53, 53]⟩ = true ∧ Bn.isP (⟨#[101, 51, 98, 48, 99, 52, 52, 50, 57, 56, 102, 99, 49, 99, 49, 52, 57, 97, 102, 98, 102, 52, 99, 56, 57, 57, 54, 102, 98, 57, 50, 52, 50, 55, 97, 101, 52, 49, 101, 52, 54, 52, 57, 98, 57, 51, 52, 99, 97, 52, 57, 53, 57, 57, 49, 98, 55, 56, 53, 50, 98, 56, 53, 53]⟩ ++ ⟨#[48]⟩) = false ∧ Bn.isP ⟨#[]⟩ = false := by decide +kernel
theorem prd_empty : Bn.prd [] ⟨#[]⟩ = false := rfl
theorem role_end (k : Nat) (h1 : 1 ≤ k) (h2 : k ≤ 32) : Bn.roleE k ⟨#[120]⟩ 2147483647 = if 31 ≤ k then 0 else 1 := by
  have : ∀ i : Fin 32, Bn.roleE ((i : Nat) + 1 : Nat) ⟨#[120]⟩ 2147483647 = if 31 ≤ (i : Nat) + 1 then 0 else 1 := by decide +kernel
  have := this ⟨k - 1, by omega⟩
  simp only [show k - 1 + 1 = k by omega] at this
  exact this
theorem pref_over (k : Nat) : Bn.prefL k (2 ^ k) = [] ∧ Bn.prefE k (2 ^ k) = 1 := by
  have hb : Bn.hasB k (2 ^ k) = false := by unfold Bn.hasB; rw [decide_eq_false (by simp), Bool.and_false]
  exact ⟨by unfold Bn.prefL; rw [hb]; rfl, by unfold Bn.prefE; rw [hb]; rfl⟩
theorem eC_at (j : Nat) (h : j < 11) : eC[j * 5]? = some (.int .i64 0) ∧ eC[j * 5 + 1]? = some (.slice none 0 0) ∧ eC[j * 5 + 2]? = some (.int .i64 (eB j)) ∧ eC[j * 5 + 3]? = some (.string (eP j)) ∧ eC[j * 5 + 4]? = some (.int .i64 (eE j)) := by
  rcases (show j = 0 ∨ j = 1 ∨ j = 2 ∨ j = 3 ∨ j = 4 ∨ j = 5 ∨ j = 6 ∨ j = 7 ∨ j = 8 ∨ j = 9 ∨ j = 10 by omega) with rfl | rfl | rfl | rfl | rfl | rfl | rfl | rfl | rfl | rfl | rfl <;> exact ⟨rfl, rfl, rfl, rfl, rfl⟩
/-- What Expand tells of an error. -/
theorem bExpand_told (b : Int) (p : ByteArray) (w : World) (hp : p.size ≤ 64) : Calls Tryd.prog 27 #[.agg #[.int .i64 0, .slice none 0 0, .int .i64 b, .string p]] w fun e w' => ∃ v f, e = .returned (.tuple #[v, .int .i64 f]) ∧ (Bn.wrong b p ≠ 0 → f = Bn.wrong b p) ∧ Below w.heap.size w w' := by
  by_cases hw : Bn.wrong b p = 0
  · obtain ⟨hm, _, _⟩ := Bn.wrong_zero hw
    obtain ⟨k, rfl, h1, h2⟩ := Bn.may_nat hm
    by_cases h6 : 6 < k
    · exact (bExpand_long 0 k none 0 0 p w (by omega) hw h6).mono fun e w' h => ⟨_, _, h.1, fun h => absurd hw h, h.2⟩
    · exact (bExpand_any 0 k none [] 0 p w (by omega) hw (by omega) (Strs.nil _ _) (by simp)).mono fun e w' h => by
        obtain ⟨g, V, U, h1, _, _, h2⟩ := h
        exact ⟨_, _, h1, fun h => absurd hw h, h2⟩
  · exact (bExpand_err 0 b none 0 0 p w (by omega) hw).mono fun e w' h => ⟨_, _, h.1, fun _ => rfl, h.2⟩
theorem goes_full {b : Int} {p path : ByteArray} (h : Bn.wrong b p = 0) : (Bn.goesS b p path).toList.isEmpty = false := by
  have e : 0 < (Bn.goesS b p path).size := by
    unfold Bn.goesS
    rw [if_pos h]
    unfold Bn.roleT
    rw [join_size]
    omega
  rw [List.isEmpty_eq_false_iff, ByteArray.toList_eq]
  intro h2
  have := congrArg List.length h2
  rw [Array.length_toList] at this
  exact absurd this (by show ¬ (Bn.goesS b p path).size = 0; omega)
/-- As many prefixes as the bits of the last digit leave. -/
theorem spare_tab (k : Nat) (h1 : 1 ≤ k) (h2 : k ≤ 32) : 2 ^ Bn.spare k = [8, 4, 2, 1].getD ((k - 1) % 4) 0 := by
  have : ∀ i : Fin 32, 2 ^ Bn.spare (i + 1) = [8, 4, 2, 1].getD ((i + 1 - 1) % 4) 0 := by decide +kernel
  have := this ⟨k - 1, by omega⟩
  simp only [show k - 1 + 1 = k by omega] at this
  exact this
attribute [local irreducible] Sh.sha shaS Bn.prd Bn.dig Bn.goesS Bn.roleS Bn.roleE Bn.wrong Bn.prefL Bn.binN Bn.isP Bn.bin Bn.be4 Bn.prefs Bn.prefE Bn.roleT Bn.prefAt psn
set_option maxRecDepth 100000 in
set_option maxHeartbeats 1000000 in
theorem binsNames_walk (w : World) (hT : Tb w) (hD : Digs w) :
    Calls Tryd.prog 5 #[] w fun e w' => e = .returned (.bool true) ∧ Below w.heap.size w w' := by
  have hB : Hid (Below w.heap.size w w) := Below.refl _ _
  go_enter Tryd.func5, Tryd.ntmps5
  go_wp2_with fail
  refine (bawake_any _ (hT.below hB.out hT.lt) (hD.below hB.out hD.lt)).mono ?_
  rintro e w1 ⟨rfl, hb⟩
  replace hB := Lib.hid (hB.out.trans (hb.mono hB.out.size))
  clear hb
  go_wp2_with (first
    | (refine wpList_make_bk _ rfl _ _ 43 rfl 5 (.int .u8 0) 1 Tryd.underlying43 info_u8 rfl _ _ _ _ 64 rfl rfl rfl rfl (by omega) (by omega) ?_
       intro wn g hg hsz hBk hgr
       have hgw : w.heap.size ≤ g := by have := hB.out.size; omega
       have hL : Hid (Below w.heap.size w wn ∧ ∃ cs, Bk wn g 5 cs ∧ cs.size = 64 ∧ ∀ j, j < 0 → cs[j]? = some (.int .u8 112)) := ⟨below_one hB.out hgr hB.out.size (fun g hg => by cases hg), _, hBk, made_size _ _, fun j hj => absurd hj (by omega)⟩
       clear hg hsz hBk hgr hB))
  go_loopw [2] (fun i wr => ∃ k : Nat, k ≤ 64 ∧ i = .int .i64 k ∧ Hid (Below w.heap.size w wr ∧ ∃ cs, Bk wr g 5 cs ∧ cs.size = 64 ∧ ∀ j, j < k → cs[j]? = some (.int .u8 112))) (fun i _ => 64 - (intOf i).toNat)
  case atStart => exact ⟨0, by omega, rfl, hL⟩
  case round =>
    clear hL
    obtain ⟨k, hk, rfl, hR⟩ := hrel
    by_cases hlt : k < 64
    · obtain ⟨hb, cs, h1, h2, h3⟩ := hR.out
      obtain ⟨v, hv⟩ : ∃ v, cs[k]? = some v := ⟨_, Array.getElem?_eq_getElem (by omega)⟩
      have hcell : wr.cell? ⟨g, k, none⟩ = some v := (h1.cell k).trans hv
      have hfrz : wr.frozen? ⟨g, k, none⟩ = false := h1.frozen k
      have hN : Hid (Below w.heap.size w (wr.setCell ⟨g, k, none⟩ (.int .u8 112)) ∧ ∃ cs, Bk (wr.setCell ⟨g, k, none⟩ (.int .u8 112)) g 5 cs ∧ cs.size = 64 ∧ ∀ j, j < k + 1 → cs[j]? = some (.int .u8 112)) := by
        refine ⟨hb.setCell hgw _, _, h1.put k _, by rw [Array.size_setIfInBounds]; exact h2, fun j hj => ?_⟩
        rw [Array.getElem?_setIfInBounds]
        by_cases e : k = j
        · subst e; rw [if_pos rfl, if_pos (by omega)]
        · rw [if_neg e]; exact h3 j (by omega)
      clear hb h1 h2 h3 hv hR
      go_wp2_with fail
      go_roundw
      case rel => exact ⟨k + 1, by omega, by go_num, hN⟩
      case measure => simp [intOf]; omega
    · obtain rfl : k = 64 := by omega
      obtain ⟨hb, cs, h1, h2, h3⟩ := hR.out
      have hB := Lib.hid hb
      have hc : ∀ j, j < 64 → wr.cell? ⟨g, j, none⟩ = some (.int .u8 112) := fun j hj => (h1.cell j).trans (h3 j hj)
      clear hb h1 h2 h3 hR
      go_wp2_with fail
      have hgl : g < wr.heap.size := World.block_lt_of_cell? wr _ (hc 0 (by omega))
      refine Fst.wp_region_heldf (fun W => g < W.heap.size ∧ ∀ j, j < 64 → W.cell? ⟨g, j, none⟩ = some (.int .u8 112)) [0, 1, 2, 3, 4, 5, 6, 7, 8, 9, 10, 11, 12, 13, 14, 15, 16, 17, 18, 19, 20, 21, 22, 23, 24, 25, 26, 27, 28, 29, 30, 31, 32, 33, 34, 35, 38] 2 (by kernel_rfl) (by kernel_rfl) ⟨hgl, hc⟩ ?_
      refine ⟨.agg #[.int .i64 0, .slice none 0 0, .int .i64 (0), .string (⟨#[120]⟩)], .inl ⟨rfl, fun W hW => ?_⟩, ?_⟩
      · kernel_rfl
      try simp only [Fst.wpFstS, Act.put, Act.eval, List.getD_cons_zero, List.getD_cons_succ, List.setIfInBounds_toArray, List.set_cons_zero, List.set_cons_succ, Lex.getD_zero, Lex.getD_succ]
      refine ⟨.agg #[.int .i64 0, .slice none 0 0, .int .i64 (0), .string (⟨#[120]⟩), .int .i64 1], .inl ⟨rfl, fun W hW => ?_⟩, ?_⟩
      · kernel_rfl
      try simp only [Fst.wpFstS, Act.put, Act.eval, List.getD_cons_zero, List.getD_cons_succ, List.setIfInBounds_toArray, List.set_cons_zero, List.set_cons_succ, Lex.getD_zero, Lex.getD_succ]
      refine ⟨.agg #[.int .i64 0, .slice none 0 0, .int .i64 (33), .string (⟨#[]⟩)], .inl ⟨rfl, fun W hW => ?_⟩, ?_⟩
      · kernel_rfl
      try simp only [Fst.wpFstS, Act.put, Act.eval, List.getD_cons_zero, List.getD_cons_succ, List.setIfInBounds_toArray, List.set_cons_zero, List.set_cons_succ, Lex.getD_zero, Lex.getD_succ]
      refine ⟨.agg #[.int .i64 0, .slice none 0 0, .int .i64 (33), .string (⟨#[]⟩), .int .i64 1], .inl ⟨rfl, fun W hW => ?_⟩, ?_⟩
      · kernel_rfl
      try simp only [Fst.wpFstS, Act.put, Act.eval, List.getD_cons_zero, List.getD_cons_succ, List.setIfInBounds_toArray, List.set_cons_zero, List.set_cons_succ, Lex.getD_zero, Lex.getD_succ]
      refine ⟨.agg #[.int .i64 0, .slice none 0 0, .int .i64 (-1), .string (⟨#[120]⟩)], .inl ⟨rfl, fun W hW => ?_⟩, ?_⟩
      · kernel_rfl
      try simp only [Fst.wpFstS, Act.put, Act.eval, List.getD_cons_zero, List.getD_cons_succ, List.setIfInBounds_toArray, List.set_cons_zero, List.set_cons_succ, Lex.getD_zero, Lex.getD_succ]
      refine ⟨.agg #[.int .i64 0, .slice none 0 0, .int .i64 (-1), .string (⟨#[120]⟩), .int .i64 1], .inl ⟨rfl, fun W hW => ?_⟩, ?_⟩
      · kernel_rfl
      try simp only [Fst.wpFstS, Act.put, Act.eval, List.getD_cons_zero, List.getD_cons_succ, List.setIfInBounds_toArray, List.set_cons_zero, List.set_cons_succ, Lex.getD_zero, Lex.getD_succ]
      refine ⟨.agg #[.int .i64 0, .slice none 0 0, .int .i64 (1), .string (⟨#[]⟩)], .inl ⟨rfl, fun W hW => ?_⟩, ?_⟩
      · kernel_rfl
      try simp only [Fst.wpFstS, Act.put, Act.eval, List.getD_cons_zero, List.getD_cons_succ, List.setIfInBounds_toArray, List.set_cons_zero, List.set_cons_succ, Lex.getD_zero, Lex.getD_succ]
      refine ⟨.agg #[.int .i64 0, .slice none 0 0, .int .i64 (1), .string (⟨#[]⟩), .int .i64 3], .inl ⟨rfl, fun W hW => ?_⟩, ?_⟩
      · kernel_rfl
      try simp only [Fst.wpFstS, Act.put, Act.eval, List.getD_cons_zero, List.getD_cons_succ, List.setIfInBounds_toArray, List.set_cons_zero, List.set_cons_succ, Lex.getD_zero, Lex.getD_succ]
      refine ⟨.agg #[.int .i64 0, .slice none 0 0, .int .i64 (1), .string (⟨#[97, 32, 98]⟩)], .inl ⟨rfl, fun W hW => ?_⟩, ?_⟩
      · kernel_rfl
      try simp only [Fst.wpFstS, Act.put, Act.eval, List.getD_cons_zero, List.getD_cons_succ, List.setIfInBounds_toArray, List.set_cons_zero, List.set_cons_succ, Lex.getD_zero, Lex.getD_succ]
      refine ⟨.agg #[.int .i64 0, .slice none 0 0, .int .i64 (1), .string (⟨#[97, 32, 98]⟩), .int .i64 3], .inl ⟨rfl, fun W hW => ?_⟩, ?_⟩
      · kernel_rfl
      try simp only [Fst.wpFstS, Act.put, Act.eval, List.getD_cons_zero, List.getD_cons_succ, List.setIfInBounds_toArray, List.set_cons_zero, List.set_cons_succ, Lex.getD_zero, Lex.getD_succ]
      refine ⟨_, .inl ⟨rfl, fun W _ => BigFrame.run_move _ rfl W⟩, ?_⟩
      try simp only [Fst.wpFstS, Act.put, Act.eval, List.getD_cons_zero, List.getD_cons_succ, List.setIfInBounds_toArray, List.set_cons_zero, List.set_cons_succ, Lex.getD_zero, Lex.getD_succ]
      refine ⟨.slice (some ⟨g, 0, none⟩) 62 64, .inl ⟨rfl, fun W hW => ?_⟩, ?_⟩
      · kernel_rfl
      try simp only [Fst.wpFstS, Act.put, Act.eval, List.getD_cons_zero, List.getD_cons_succ, List.setIfInBounds_toArray, List.set_cons_zero, List.set_cons_succ, Lex.getD_zero, Lex.getD_succ]
      refine ⟨.string (psn 62), .inl ⟨rfl, fun W hW => ?_⟩, ?_⟩
      · simp only [Act.put, Act.eval, List.getD_cons_zero, List.getD_cons_succ, Lex.getD_zero, Lex.getD_succ, execOp]
        simp [psn_say g 62 W (by omega) hW.2, Result.andThen]
      try simp only [Fst.wpFstS, Act.put, Act.eval, List.getD_cons_zero, List.getD_cons_succ, List.setIfInBounds_toArray, List.set_cons_zero, List.set_cons_succ, Lex.getD_zero, Lex.getD_succ]
      refine ⟨.agg #[.int .i64 0, .slice none 0 0, .int .i64 (4), .string (psn 62)], .inl ⟨rfl, fun W hW => ?_⟩, ?_⟩
      · kernel_rfl
      try simp only [Fst.wpFstS, Act.put, Act.eval, List.getD_cons_zero, List.getD_cons_succ, List.setIfInBounds_toArray, List.set_cons_zero, List.set_cons_succ, Lex.getD_zero, Lex.getD_succ]
      refine ⟨.agg #[.int .i64 0, .slice none 0 0, .int .i64 (4), .string (psn 62), .int .i64 0], .inl ⟨rfl, fun W hW => ?_⟩, ?_⟩
      · kernel_rfl
      try simp only [Fst.wpFstS, Act.put, Act.eval, List.getD_cons_zero, List.getD_cons_succ, List.setIfInBounds_toArray, List.set_cons_zero, List.set_cons_succ, Lex.getD_zero, Lex.getD_succ]
      refine ⟨_, .inl ⟨rfl, fun W _ => BigFrame.run_move _ rfl W⟩, ?_⟩
      try simp only [Fst.wpFstS, Act.put, Act.eval, List.getD_cons_zero, List.getD_cons_succ, List.setIfInBounds_toArray, List.set_cons_zero, List.set_cons_succ, Lex.getD_zero, Lex.getD_succ]
      refine ⟨.slice (some ⟨g, 0, none⟩) 62 64, .inl ⟨rfl, fun W hW => ?_⟩, ?_⟩
      · kernel_rfl
      try simp only [Fst.wpFstS, Act.put, Act.eval, List.getD_cons_zero, List.getD_cons_succ, List.setIfInBounds_toArray, List.set_cons_zero, List.set_cons_succ, Lex.getD_zero, Lex.getD_succ]
      refine ⟨.string (psn 62), .inl ⟨rfl, fun W hW => ?_⟩, ?_⟩
      · simp only [Act.put, Act.eval, List.getD_cons_zero, List.getD_cons_succ, Lex.getD_zero, Lex.getD_succ, execOp]
        simp [psn_say g 62 W (by omega) hW.2, Result.andThen]
      try simp only [Fst.wpFstS, Act.put, Act.eval, List.getD_cons_zero, List.getD_cons_succ, List.setIfInBounds_toArray, List.set_cons_zero, List.set_cons_succ, Lex.getD_zero, Lex.getD_succ]
      refine ⟨.agg #[.int .i64 0, .slice none 0 0, .int .i64 (5), .string (psn 62)], .inl ⟨rfl, fun W hW => ?_⟩, ?_⟩
      · kernel_rfl
      try simp only [Fst.wpFstS, Act.put, Act.eval, List.getD_cons_zero, List.getD_cons_succ, List.setIfInBounds_toArray, List.set_cons_zero, List.set_cons_succ, Lex.getD_zero, Lex.getD_succ]
      refine ⟨.agg #[.int .i64 0, .slice none 0 0, .int .i64 (5), .string (psn 62), .int .i64 5], .inl ⟨rfl, fun W hW => ?_⟩, ?_⟩
      · kernel_rfl
      try simp only [Fst.wpFstS, Act.put, Act.eval, List.getD_cons_zero, List.getD_cons_succ, List.setIfInBounds_toArray, List.set_cons_zero, List.set_cons_succ, Lex.getD_zero, Lex.getD_succ]
      refine ⟨_, .inl ⟨rfl, fun W _ => BigFrame.run_move _ rfl W⟩, ?_⟩
      try simp only [Fst.wpFstS, Act.put, Act.eval, List.getD_cons_zero, List.getD_cons_succ, List.setIfInBounds_toArray, List.set_cons_zero, List.set_cons_succ, Lex.getD_zero, Lex.getD_succ]
      refine ⟨.slice (some ⟨g, 0, none⟩) 55 64, .inl ⟨rfl, fun W hW => ?_⟩, ?_⟩
      · kernel_rfl
      try simp only [Fst.wpFstS, Act.put, Act.eval, List.getD_cons_zero, List.getD_cons_succ, List.setIfInBounds_toArray, List.set_cons_zero, List.set_cons_succ, Lex.getD_zero, Lex.getD_succ]
      refine ⟨.string (psn 55), .inl ⟨rfl, fun W hW => ?_⟩, ?_⟩
      · simp only [Act.put, Act.eval, List.getD_cons_zero, List.getD_cons_succ, Lex.getD_zero, Lex.getD_succ, execOp]
        simp [psn_say g 55 W (by omega) hW.2, Result.andThen]
      try simp only [Fst.wpFstS, Act.put, Act.eval, List.getD_cons_zero, List.getD_cons_succ, List.setIfInBounds_toArray, List.set_cons_zero, List.set_cons_succ, Lex.getD_zero, Lex.getD_succ]
      refine ⟨.agg #[.int .i64 0, .slice none 0 0, .int .i64 (32), .string (psn 55)], .inl ⟨rfl, fun W hW => ?_⟩, ?_⟩
      · kernel_rfl
      try simp only [Fst.wpFstS, Act.put, Act.eval, List.getD_cons_zero, List.getD_cons_succ, List.setIfInBounds_toArray, List.set_cons_zero, List.set_cons_succ, Lex.getD_zero, Lex.getD_succ]
      refine ⟨.agg #[.int .i64 0, .slice none 0 0, .int .i64 (32), .string (psn 55), .int .i64 0], .inl ⟨rfl, fun W hW => ?_⟩, ?_⟩
      · kernel_rfl
      try simp only [Fst.wpFstS, Act.put, Act.eval, List.getD_cons_zero, List.getD_cons_succ, List.setIfInBounds_toArray, List.set_cons_zero, List.set_cons_succ, Lex.getD_zero, Lex.getD_succ]
      refine ⟨_, .inl ⟨rfl, fun W _ => BigFrame.run_move _ rfl W⟩, ?_⟩
      try simp only [Fst.wpFstS, Act.put, Act.eval, List.getD_cons_zero, List.getD_cons_succ, List.setIfInBounds_toArray, List.set_cons_zero, List.set_cons_succ, Lex.getD_zero, Lex.getD_succ]
      refine ⟨.slice (some ⟨g, 0, none⟩) 56 64, .inl ⟨rfl, fun W hW => ?_⟩, ?_⟩
      · kernel_rfl
      try simp only [Fst.wpFstS, Act.put, Act.eval, List.getD_cons_zero, List.getD_cons_succ, List.setIfInBounds_toArray, List.set_cons_zero, List.set_cons_succ, Lex.getD_zero, Lex.getD_succ]
      refine ⟨.string (psn 56), .inl ⟨rfl, fun W hW => ?_⟩, ?_⟩
      · simp only [Act.put, Act.eval, List.getD_cons_zero, List.getD_cons_succ, Lex.getD_zero, Lex.getD_succ, execOp]
        simp [psn_say g 56 W (by omega) hW.2, Result.andThen]
      try simp only [Fst.wpFstS, Act.put, Act.eval, List.getD_cons_zero, List.getD_cons_succ, List.setIfInBounds_toArray, List.set_cons_zero, List.set_cons_succ, Lex.getD_zero, Lex.getD_succ]
      refine ⟨.agg #[.int .i64 0, .slice none 0 0, .int .i64 (29), .string (psn 56)], .inl ⟨rfl, fun W hW => ?_⟩, ?_⟩
      · kernel_rfl
      try simp only [Fst.wpFstS, Act.put, Act.eval, List.getD_cons_zero, List.getD_cons_succ, List.setIfInBounds_toArray, List.set_cons_zero, List.set_cons_succ, Lex.getD_zero, Lex.getD_succ]
      refine ⟨.agg #[.int .i64 0, .slice none 0 0, .int .i64 (29), .string (psn 56), .int .i64 5], .inl ⟨rfl, fun W hW => ?_⟩, ?_⟩
      · kernel_rfl
      try simp only [Fst.wpFstS, Act.put, Act.eval, List.getD_cons_zero, List.getD_cons_succ, List.setIfInBounds_toArray, List.set_cons_zero, List.set_cons_succ, Lex.getD_zero, Lex.getD_succ]
      refine ⟨_, .inl ⟨rfl, fun W _ => BigFrame.run_move _ rfl W⟩, ?_⟩
      try simp only [Fst.wpFstS, Act.put, Act.eval, List.getD_cons_zero, List.getD_cons_succ, List.setIfInBounds_toArray, List.set_cons_zero, List.set_cons_succ, Lex.getD_zero, Lex.getD_succ]
      refine ⟨.string (psn 64), .inl ⟨rfl, fun W hW => ?_⟩, ?_⟩
      · simp only [Act.put, Act.eval, List.getD_cons_zero, List.getD_cons_succ, Lex.getD_zero, Lex.getD_succ, execOp]
        simp [psn_say g 64 W (by omega) hW.2, Result.andThen]
      try simp only [Fst.wpFstS, Act.put, Act.eval, List.getD_cons_zero, List.getD_cons_succ, List.setIfInBounds_toArray, List.set_cons_zero, List.set_cons_succ, Lex.getD_zero, Lex.getD_succ]
      refine ⟨.agg #[.int .i64 0, .slice none 0 0, .int .i64 (1), .string (psn 64)], .inl ⟨rfl, fun W hW => ?_⟩, ?_⟩
      · kernel_rfl
      try simp only [Fst.wpFstS, Act.put, Act.eval, List.getD_cons_zero, List.getD_cons_succ, List.setIfInBounds_toArray, List.set_cons_zero, List.set_cons_succ, Lex.getD_zero, Lex.getD_succ]
      refine ⟨.agg #[.int .i64 0, .slice none 0 0, .int .i64 (1), .string (psn 64), .int .i64 5], .inl ⟨rfl, fun W hW => ?_⟩, ?_⟩
      · kernel_rfl
      try simp only [Fst.wpFstS, Act.put, Act.eval, List.getD_cons_zero, List.getD_cons_succ, List.setIfInBounds_toArray, List.set_cons_zero, List.set_cons_succ, Lex.getD_zero, Lex.getD_succ]
      refine ⟨.agg #[.int .i64 0, .slice none 0 0, .int .i64 (1), .string (⟨#[114, 111, 111, 116]⟩)], .inl ⟨rfl, fun W hW => ?_⟩, ?_⟩
      · kernel_rfl
      try simp only [Fst.wpFstS, Act.put, Act.eval, List.getD_cons_zero, List.getD_cons_succ, List.setIfInBounds_toArray, List.set_cons_zero, List.set_cons_succ, Lex.getD_zero, Lex.getD_succ]
      refine ⟨.agg #[.int .i64 0, .slice none 0 0, .int .i64 (1), .string (⟨#[114, 111, 111, 116]⟩), .int .i64 0], .inl ⟨rfl, fun W hW => ?_⟩, ?_⟩
      · kernel_rfl
      try simp only [Fst.wpFstS, Act.put, Act.eval, List.getD_cons_zero, List.getD_cons_succ, List.setIfInBounds_toArray, List.set_cons_zero, List.set_cons_succ, Lex.getD_zero, Lex.getD_succ]
      refine ⟨_, .inl ⟨rfl, fun W _ => BigFrame.run_move _ rfl W⟩, ?_⟩
      try simp only [Fst.wpFstS, Act.put, Act.eval, List.getD_cons_zero, List.getD_cons_succ, List.setIfInBounds_toArray, List.set_cons_zero, List.set_cons_succ, Lex.getD_zero, Lex.getD_succ]
      obtain ⟨wx, hwx⟩ : ∃ wx : World, wx = { wr with drawn := wr.drawn + 1 } := ⟨_, rfl⟩
      rw [← hwx]
      replace hB : Hid (Below w.heap.size w wx) := by rw [hwx]; exact Lib.hid (below_drawn hB.out 1)
      have hS : g < wx.heap.size ∧ ∀ j, j < 64 → wx.cell? ⟨g, j, none⟩ = some (.int .u8 112) := by rw [hwx]; exact ⟨hgl, hc⟩
      clear hwx hgl hc
      refine Fst.held_one (i := 36) (by kernel_rfl) (by kernel_rfl) ?_
      simp only [List.getD_cons_zero, List.getD_cons_succ]
      go_wp2_with fail
      refine NoPanic.normal ?_
      show _ ∧ wpAnyH _ _ _ _ _ _ _ _ _
      have hS2 : ∀ o, g < (wx.alloc o).heap.size ∧ ∀ j, j < 64 → (wx.alloc o).cell? ⟨g, j, none⟩ = some (.int .u8 112) := fun o => ⟨by simp; omega, fun j hj => (((Below.refl wx.heap.size wx).alloc (Nat.le_refl _) o).cell (p := ⟨g, j, none⟩) hS.1).trans (hS.2 j hj)⟩
      refine ⟨hS2 _, ?_⟩
      refine Fst.held_one (i := 37) (by kernel_rfl) (by kernel_rfl) ?_
      simp only [List.getD_cons_zero, List.getD_cons_succ]
      go_wp2_with fail
      refine NoPanic.normal ?_
      show _ ∧ wpAnyH _ _ _ _ _ _ _ _ _
      refine ⟨hS2 _, ?_⟩
      refine Fst.held_end (by kernel_rfl) ?_
      clear hS hS2
      go_wp2_with fail
      go_loopw [79] (fun i wy => ∃ j : Nat, j ≤ 11 ∧ i = .int .i64 j ∧ Hid (Below w.heap.size w wy ∧ ∃ T, Bk wy wx.heap.size T eC)) (fun i _ => 11 - (intOf i).toNat)
      case atStart => exact ⟨0, by omega, rfl, Lib.hid ⟨hB.out.alloc hB.out.size _, _, Bk.fresh wx _ _⟩⟩
      case round =>
        clear hB
        obtain ⟨j, hj, rfl, hR⟩ := hrel
        by_cases hj11 : j < 11
        · have hB := Lib.hid hR.out.1
          obtain ⟨T, hT5⟩ := hR.out.2
          obtain ⟨k0, k1, k2, k3, k4⟩ := eC_at j hj11
          obtain ⟨e1, e2⟩ := e_all j hj11
          have c0 := (hT5.cell (j * 5)).trans k0
          have c1 := (hT5.cell (j * 5 + 1)).trans k1
          have c2 := (hT5.cell (j * 5 + 2)).trans k2
          have c3 := (hT5.cell (j * 5 + 3)).trans k3
          have c4 := (hT5.cell (j * 5 + 4)).trans k4
          have hRk := Lib.hid hT5
          have HW := Lib.hid e1
          clear hR k0 k1 k2 k3 k4 hT5 e1
          generalize eB j = b at *
          generalize eP j = p at *
          generalize eE j = x at *
          by_cases hx : x = 0
          · subst hx
            have hs := goes_full (path := ⟨#[]⟩) HW.out
            have hx0 : ((0 : Int) != 0) = false := rfl
            generalize hgs : Bn.goesS b p ⟨#[]⟩ = s at *
            have HGS := Lib.hid hgs
            clear hgs
            have hne : wx.heap.size ≠ wr.heap.size := by have := hRk.out.lt; omega
            go_wp2_with (first
              | (refine wpList_store_row rfl _ _ _ rfl wr.heap.size #[.int .i64 0, .slice none 0 0, .int .i64 b, .string p, .int .i64 (0 : Int)] rfl rfl _ _ (Bk.fresh wr _ _) (by kernel_rfl) rfl (by simp [Value.oneCell']) ?_
                 refine wp_letter' (fun W' => Below w.heap.size w W' ∧ (∃ T, Bk W' wx.heap.size T eC) ∧ ∃ T4, Bk W' wr.heap.size T4 #[.int .i64 0, .slice none 0 0, .int .i64 b, .string p, .int .i64 (0 : Int)]) ⟨below_row' (hB.out.alloc hB.out.size _) hB.out.size _, ⟨T, (setRow_other _ _ _ _ hne).trans (hRk.out.grow (World.grownBy_alloc _ _ none) (by simp))⟩, _, Bk.row (Bk.fresh wr _ _) _⟩ ?_
                 intro wz hz
                 obtain ⟨T4, hz4⟩ := hz.2.2
                 have z0 : wz.cell? ⟨wr.heap.size, 0, none⟩ = some (.int .i64 0) := hz4.cell 0
                 have z1 : wz.cell? ⟨wr.heap.size, 1, none⟩ = some (.slice none 0 0) := hz4.cell 1
                 have z2 : wz.cell? ⟨wr.heap.size, 2, none⟩ = some (.int .i64 b) := hz4.cell 2
                 have z3 : wz.cell? ⟨wr.heap.size, 3, none⟩ = some (.string p) := hz4.cell 3
                 have hZ := Lib.hid hz
                 clear hz hz4))
            obtain ⟨hz1, ⟨TE, hz2⟩, T5, hz3⟩ := hZ.out
            replace hB := Lib.hid hz1
            have hE := Lib.hid hz2
            have hK := Lib.hid hz3
            clear hz1 hz2 hz3
            have hp : p.size ≤ 1000000 := by omega
            clear hZ
            refine (bGoes_any 0 b none 0 0 p ⟨#[]⟩ _ (hT.below hB.out hT.lt) hp (by decide)).mono ?_
            rintro e w2 ⟨rfl, hb⟩
            rw [HGS.out, HW.out]
            replace hE := Lib.hid (hE.out.below hb hE.out.lt)
            replace hK := Lib.hid (hK.out.below hb hK.out.lt)
            replace hB := Lib.hid (hB.out.trans (hb.mono hB.out.size))
            clear hb
            clear z0 z1 z2 z3
            have z0 : w2.cell? ⟨wr.heap.size, 0, none⟩ = some (.int .i64 0) := hK.out.cell 0
            have z1 : w2.cell? ⟨wr.heap.size, 1, none⟩ = some (.slice none 0 0) := hK.out.cell 1
            have z2 : w2.cell? ⟨wr.heap.size, 2, none⟩ = some (.int .i64 b) := hK.out.cell 2
            have z3 : w2.cell? ⟨wr.heap.size, 3, none⟩ = some (.string p) := hK.out.cell 3
            go_wp2_with fail
            refine (bExpand_told b p _ e2).mono ?_
            rintro e w3 ⟨vv, f, rfl, hf, hb⟩
            replace hE := Lib.hid (hE.out.below hb hE.out.lt)
            replace hK := Lib.hid (hK.out.below hb hK.out.lt)
            replace hB := Lib.hid (hB.out.trans (hb.mono hB.out.size))
            clear hb
            clear hf
            clear z0 z1 z2 z3
            have y0 : ∀ dd os, (Sort.grow (redrawn w3 dd) os).cell? ⟨wr.heap.size, 0, none⟩ = some (.int .i64 0) := fun dd os => ((below_regrown w3 dd os).cell (p := ⟨wr.heap.size, 0, none⟩) hK.out.lt).trans (hK.out.cell 0)
            have y1 : ∀ dd os, (Sort.grow (redrawn w3 dd) os).cell? ⟨wr.heap.size, 1, none⟩ = some (.slice none 0 0) := fun dd os => ((below_regrown w3 dd os).cell (p := ⟨wr.heap.size, 1, none⟩) hK.out.lt).trans (hK.out.cell 1)
            have y2 : ∀ dd os, (Sort.grow (redrawn w3 dd) os).cell? ⟨wr.heap.size, 2, none⟩ = some (.int .i64 b) := fun dd os => ((below_regrown w3 dd os).cell (p := ⟨wr.heap.size, 2, none⟩) hK.out.lt).trans (hK.out.cell 2)
            have y3 : ∀ dd os, (Sort.grow (redrawn w3 dd) os).cell? ⟨wr.heap.size, 3, none⟩ = some (.string p) := fun dd os => ((below_regrown w3 dd os).cell (p := ⟨wr.heap.size, 3, none⟩) hK.out.lt).trans (hK.out.cell 3)
            have y4 : ∀ dd os, (Sort.grow (redrawn w3 dd) os).cell? ⟨wr.heap.size, 4, none⟩ = some (.int .i64 (0 : Int)) := fun dd os => ((below_regrown w3 dd os).cell (p := ⟨wr.heap.size, 4, none⟩) hK.out.lt).trans (hK.out.cell 4)
            have TW : Hid (∀ V, Calls Tryd.prog 25 #[.agg #[.int .i64 0, .slice none 0 0, .int .i64 b, .string p]] V fun e w' => e = .returned (.int .i64 0) ∧ Below V.heap.size V w') := fun V => by
              have := bWrong_any 0 b none 0 0 p V hp
              rw [HW.out] at this
              exact this
            go_wp2_with fail
            refine wp_region_quiet_below (by kernel_rfl) (by kernel_rfl) ?_
            repeat (go_big_quiet_step ((go_at_call 25; with_reducible exact Calls.regrown_of (TW.out _))))
            refine wpQuiet_nil ?_
            intro wq hwq
            have hbq : Below w3.heap.size w3 wq := by
              obtain ⟨pp, e⟩ := hwq
              rw [e]
              exact below_regrown _ _ _
            have hF : Hid (Below w.heap.size w wq ∧ ∃ T, Bk wq wx.heap.size T eC) := Lib.hid ⟨hB.out.trans (hbq.mono hB.out.size), _, hE.out.below hbq hE.out.lt⟩
            clear hwq hbq y0 y1 y2 y3 y4 TW
            go_wp2_with fail
            go_roundw
            case rel => first | exact ⟨j + 1, by omega, by go_num, hF⟩ | ((repeat apply Exists.intro); exact ⟨⟨j + 1, by omega, by go_num, hF⟩, rfl⟩)
            case measure => simp [intOf]; omega
          · have hs : (Bn.goesS b p ⟨#[]⟩).toList.isEmpty = true := by rw [goes_err (by rw [HW.out]; exact hx), ByteArray.toList_eq]; rfl
            have hx1 : (x != 0) = true := bne_iff_ne.2 hx
            have hx2 : (x != x) = false := bne_self_eq_false x
            have hx3 : (x == 0) = false := beq_eq_false_iff_ne.2 hx
            generalize hgs : Bn.goesS b p ⟨#[]⟩ = s at *
            have HGS := Lib.hid hgs
            clear hgs
            have hne : wx.heap.size ≠ wr.heap.size := by have := hRk.out.lt; omega
            go_wp2_with (first
              | (refine wpList_store_row rfl _ _ _ rfl wr.heap.size #[.int .i64 0, .slice none 0 0, .int .i64 b, .string p, .int .i64 x] rfl rfl _ _ (Bk.fresh wr _ _) (by kernel_rfl) rfl (by simp [Value.oneCell']) ?_
                 refine wp_letter' (fun W' => Below w.heap.size w W' ∧ (∃ T, Bk W' wx.heap.size T eC) ∧ ∃ T4, Bk W' wr.heap.size T4 #[.int .i64 0, .slice none 0 0, .int .i64 b, .string p, .int .i64 x]) ⟨below_row' (hB.out.alloc hB.out.size _) hB.out.size _, ⟨T, (setRow_other _ _ _ _ hne).trans (hRk.out.grow (World.grownBy_alloc _ _ none) (by simp))⟩, _, Bk.row (Bk.fresh wr _ _) _⟩ ?_
                 intro wz hz
                 obtain ⟨T4, hz4⟩ := hz.2.2
                 have z0 : wz.cell? ⟨wr.heap.size, 0, none⟩ = some (.int .i64 0) := hz4.cell 0
                 have z1 : wz.cell? ⟨wr.heap.size, 1, none⟩ = some (.slice none 0 0) := hz4.cell 1
                 have z2 : wz.cell? ⟨wr.heap.size, 2, none⟩ = some (.int .i64 b) := hz4.cell 2
                 have z3 : wz.cell? ⟨wr.heap.size, 3, none⟩ = some (.string p) := hz4.cell 3
                 have hZ := Lib.hid hz
                 clear hz hz4))
            obtain ⟨hz1, ⟨TE, hz2⟩, T5, hz3⟩ := hZ.out
            replace hB := Lib.hid hz1
            have hE := Lib.hid hz2
            have hK := Lib.hid hz3
            clear hz1 hz2 hz3
            have hp : p.size ≤ 1000000 := by omega
            clear hZ
            refine (bGoes_any 0 b none 0 0 p ⟨#[]⟩ _ (hT.below hB.out hT.lt) hp (by decide)).mono ?_
            rintro e w4 ⟨rfl, hb⟩
            rw [HGS.out, HW.out]
            replace hE := Lib.hid (hE.out.below hb hE.out.lt)
            replace hK := Lib.hid (hK.out.below hb hK.out.lt)
            replace hB := Lib.hid (hB.out.trans (hb.mono hB.out.size))
            clear hb
            clear z0 z1 z2 z3
            have z0 : w4.cell? ⟨wr.heap.size, 0, none⟩ = some (.int .i64 0) := hK.out.cell 0
            have z1 : w4.cell? ⟨wr.heap.size, 1, none⟩ = some (.slice none 0 0) := hK.out.cell 1
            have z2 : w4.cell? ⟨wr.heap.size, 2, none⟩ = some (.int .i64 b) := hK.out.cell 2
            have z3 : w4.cell? ⟨wr.heap.size, 3, none⟩ = some (.string p) := hK.out.cell 3
            go_wp2_with fail
            refine (bExpand_told b p _ e2).mono ?_
            rintro e w5 ⟨vv, f, rfl, hf, hb⟩
            replace hE := Lib.hid (hE.out.below hb hE.out.lt)
            replace hK := Lib.hid (hK.out.below hb hK.out.lt)
            replace hB := Lib.hid (hB.out.trans (hb.mono hB.out.size))
            clear hb
            obtain rfl : f = x := (hf (by rw [HW.out]; exact hx)).trans HW.out
            clear hf
            clear z0 z1 z2 z3
            have y0 : ∀ dd os, (Sort.grow (redrawn w5 dd) os).cell? ⟨wr.heap.size, 0, none⟩ = some (.int .i64 0) := fun dd os => ((below_regrown w5 dd os).cell (p := ⟨wr.heap.size, 0, none⟩) hK.out.lt).trans (hK.out.cell 0)
            have y1 : ∀ dd os, (Sort.grow (redrawn w5 dd) os).cell? ⟨wr.heap.size, 1, none⟩ = some (.slice none 0 0) := fun dd os => ((below_regrown w5 dd os).cell (p := ⟨wr.heap.size, 1, none⟩) hK.out.lt).trans (hK.out.cell 1)
            have y2 : ∀ dd os, (Sort.grow (redrawn w5 dd) os).cell? ⟨wr.heap.size, 2, none⟩ = some (.int .i64 b) := fun dd os => ((below_regrown w5 dd os).cell (p := ⟨wr.heap.size, 2, none⟩) hK.out.lt).trans (hK.out.cell 2)
            have y3 : ∀ dd os, (Sort.grow (redrawn w5 dd) os).cell? ⟨wr.heap.size, 3, none⟩ = some (.string p) := fun dd os => ((below_regrown w5 dd os).cell (p := ⟨wr.heap.size, 3, none⟩) hK.out.lt).trans (hK.out.cell 3)
            have y4 : ∀ dd os, (Sort.grow (redrawn w5 dd) os).cell? ⟨wr.heap.size, 4, none⟩ = some (.int .i64 f) := fun dd os => ((below_regrown w5 dd os).cell (p := ⟨wr.heap.size, 4, none⟩) hK.out.lt).trans (hK.out.cell 4)
            have TW : Hid (∀ V, Calls Tryd.prog 25 #[.agg #[.int .i64 0, .slice none 0 0, .int .i64 b, .string p]] V fun e w' => e = .returned (.int .i64 f) ∧ Below V.heap.size V w') := fun V => by
              have := bWrong_any 0 b none 0 0 p V hp
              rw [HW.out] at this
              exact this
            go_wp2_with fail
            refine wp_region_quiet_below (by kernel_rfl) (by kernel_rfl) ?_
            repeat (go_big_quiet_step ((go_at_call 25; with_reducible exact Calls.regrown_of (TW.out _))))
            refine wpQuiet_nil ?_
            intro wq hwq
            have hbq : Below w5.heap.size w5 wq := by
              obtain ⟨pp, e⟩ := hwq
              rw [e]
              exact below_regrown _ _ _
            have hF : Hid (Below w.heap.size w wq ∧ ∃ T, Bk wq wx.heap.size T eC) := Lib.hid ⟨hB.out.trans (hbq.mono hB.out.size), _, hE.out.below hbq hE.out.lt⟩
            clear hwq hbq y0 y1 y2 y3 y4 TW
            go_wp2_with fail
            go_roundw
            case rel => first | exact ⟨j + 1, by omega, by go_num, hF⟩ | ((repeat apply Exists.intro); exact ⟨⟨j + 1, by omega, by go_num, hF⟩, rfl⟩)
            case measure => simp [intOf]; omega
        · obtain rfl : j = 11 := by omega
          have hB := Lib.hid hR.out.1
          clear hR
          go_wp2_with fail
          obtain ⟨wy, rfl⟩ : ∃ wy : World, wy = wr := ⟨_, rfl⟩
          go_loopw [9] (fun i wu => ∃ k : Nat, 1 ≤ k ∧ k ≤ 33 ∧ i = .int .i64 k ∧ Hid (Below w.heap.size w wu)) (fun i _ => 33 - (intOf i).toNat)
          case atStart => exact ⟨1, by omega, by omega, rfl, hB⟩
          case round =>
            clear hB
            obtain ⟨k, hk1, hk33, rfl, hR⟩ := hrel
            by_cases hk2 : k ≤ 32
            · have hB := hR
              have hW := Bn.wid_le hk1 hk2
              have hWb : ((k : Int) + 3) / 4 = (Bn.wid k : Int) := by unfold Bn.wid; omega
              have hP0 := prefL_yes (n := 0) hk1 hk2 (Nat.two_pow_pos _)
              have hlen := Bn.prefs_len k 0
              have hmz : 0 < 2 ^ Bn.spare k := Nat.two_pow_pos _
              have hG := prefs_getD k 0 0 hmz
              have hsz : (Bn.prefAt k 0 0).size = Bn.wid k := by unfold Bn.prefAt; exact Bn.text_size _ _
              have hsp := spare_tab k hk1 hk2
              have hre := role_end k hk1 hk2
              have HPO := Lib.hid (pref_over k)
              have hpow : ((2 ^ k : Nat) : Int) = (2 : Int) ^ k := by rw [Int.natCast_pow]; rfl
              have hq2 : Hid (k < 32 → 2 ^ k ≤ 2 ^ 31) := fun h => Nat.pow_le_pow_right (by omega) (by omega)
              generalize 2 ^ Bn.spare k = m at *
              generalize 2 ^ k = q at *
              have hpw := hpow.symm
              clear hpow
              obtain ⟨r, hr⟩ : ∃ r, r = (k - 1) % 4 := ⟨_, rfl⟩
              rw [← hr] at hsp
              have hrm : ((k : Int) - 1).tmod 4 = (r : Int) := by rw [Int.tmod_eq_emod_of_nonneg (by omega)]; omega
              have hr2 : ((k : Int) - 1) % 4 = (r : Int) := by omega
              have hr4 : r < 4 := by omega
              clear hr
              go_wp2_with fail
              refine (bPrefixes_any k 0 _ (by decide)).mono ?_
              rintro e w6 ⟨v, rfl, hown, hb⟩
              rw [hP0.2]
              rw [hP0.1] at hown
              obtain ⟨gp, cp, rfl, hgp, hRw⟩ := row_form hown rfl (by rw [hlen]; exact hmz)
              rw [hlen]
              have c0 := hRw.cell 0 (by rw [hlen]; exact hmz)
              rw [hG] at c0
              have hgl := hRw.lt
              replace hB := Lib.hid (hB.out.trans (hb.mono hB.out.size))
              clear hb hown hgp hRw hP0 hlen hG
              go_wp2_with fail
              refine (bRole_any 0 k none 0 0 ⟨#[120]⟩ 2147483647 _ (by decide) (by decide)).mono ?_
              rintro e w7 ⟨rfl, hb⟩
              rw [hre]
              replace c0 := (hb.cell (p := ⟨gp, 0, none⟩) hgl).trans c0
              replace hgl := Nat.lt_of_lt_of_le hgl hb.size
              replace hB := Lib.hid (hB.out.trans (hb.mono hB.out.size))
              clear hb hre
              generalize Bn.roleS k ⟨#[120]⟩ 2147483647 = rs at *
              generalize Bn.prefAt k 0 0 = pa at *
              generalize Bn.wid k = W at *
              rcases (show r = 0 ∨ r = 1 ∨ r = 2 ∨ r = 3 by omega) with rfl | rfl | rfl | rfl
              · obtain rfl : m = 8 := hsp
                by_cases h31 : 31 ≤ k
                · rw [if_pos h31]
                  have hg31 : decide ((31 : Int) ≤ (k : Int)) = true := by simp; omega
                  by_cases h32 : k < 32
                  · exfalso; omega
                  · exfalso; omega
                · rw [if_neg h31]
                  have hg31 : decide ((31 : Int) ≤ (k : Int)) = false := by simp; omega
                  have h32 : k < 32 := by omega
                  have hgl2 := hgl
                  have c0b : (w7.alloc (.cells #[.int .i64 8, .int .i64 4, .int .i64 2, .int .i64 1] 3 (0, 0))).cell? ⟨gp, 0, none⟩ = some (.string pa) := (((Below.refl w7.heap.size w7).alloc (Nat.le_refl _) (.cells #[.int .i64 8, .int .i64 4, .int .i64 2, .int .i64 1] 3 (0, 0))).cell (p := ⟨gp, 0, none⟩) hgl).trans c0
                  replace hB := Lib.hid (hB.out.alloc hB.out.size (.cells #[.int .i64 8, .int .i64 4, .int .i64 2, .int .i64 1] 3 (0, 0)))
                  have hq31 : q ≤ 2147483648 := hq2.out h32
                  have hlt32 : decide ((k : Int) < 32) = true := by simp; omega
                  go_wp2_with fail
                  refine (bPrefixes_any k q _ (by omega)).mono ?_
                  rintro e wv ⟨v, rfl, hown, hb⟩
                  rw [HPO.out.2]
                  replace hB := Lib.hid (hB.out.trans (hb.mono hB.out.size))
                  obtain ⟨vA, vl, vc, rfl⟩ := own_slice hown
                  clear hb hown
                  go_wp2_with fail
                  go_roundw
                  case rel => first | exact ⟨k + 1, by omega, by omega, by go_num, hB⟩ | ((repeat apply Exists.intro); exact ⟨⟨k + 1, by omega, by omega, by go_num, hB⟩, rfl⟩)
                  case measure => simp [intOf]; omega
              · obtain rfl : m = 4 := hsp
                by_cases h31 : 31 ≤ k
                · rw [if_pos h31]
                  have hg31 : decide ((31 : Int) ≤ (k : Int)) = true := by simp; omega
                  by_cases h32 : k < 32
                  · exfalso; omega
                  · exfalso; omega
                · rw [if_neg h31]
                  have hg31 : decide ((31 : Int) ≤ (k : Int)) = false := by simp; omega
                  have h32 : k < 32 := by omega
                  have hgl2 := hgl
                  have c0b : (w7.alloc (.cells #[.int .i64 8, .int .i64 4, .int .i64 2, .int .i64 1] 3 (0, 0))).cell? ⟨gp, 0, none⟩ = some (.string pa) := (((Below.refl w7.heap.size w7).alloc (Nat.le_refl _) (.cells #[.int .i64 8, .int .i64 4, .int .i64 2, .int .i64 1] 3 (0, 0))).cell (p := ⟨gp, 0, none⟩) hgl).trans c0
                  replace hB := Lib.hid (hB.out.alloc hB.out.size (.cells #[.int .i64 8, .int .i64 4, .int .i64 2, .int .i64 1] 3 (0, 0)))
                  have hq31 : q ≤ 2147483648 := hq2.out h32
                  have hlt32 : decide ((k : Int) < 32) = true := by simp; omega
                  go_wp2_with fail
                  refine (bPrefixes_any k q _ (by omega)).mono ?_
                  rintro e wv ⟨v, rfl, hown, hb⟩
                  rw [HPO.out.2]
                  replace hB := Lib.hid (hB.out.trans (hb.mono hB.out.size))
                  obtain ⟨vA, vl, vc, rfl⟩ := own_slice hown
                  clear hb hown
                  go_wp2_with fail
                  go_roundw
                  case rel => first | exact ⟨k + 1, by omega, by omega, by go_num, hB⟩ | ((repeat apply Exists.intro); exact ⟨⟨k + 1, by omega, by omega, by go_num, hB⟩, rfl⟩)
                  case measure => simp [intOf]; omega
              · obtain rfl : m = 2 := hsp
                by_cases h31 : 31 ≤ k
                · rw [if_pos h31]
                  have hg31 : decide ((31 : Int) ≤ (k : Int)) = true := by simp; omega
                  by_cases h32 : k < 32
                  · have hgl2 := hgl
                    have c0b : (w7.alloc (.cells #[.int .i64 8, .int .i64 4, .int .i64 2, .int .i64 1] 3 (0, 0))).cell? ⟨gp, 0, none⟩ = some (.string pa) := (((Below.refl w7.heap.size w7).alloc (Nat.le_refl _) (.cells #[.int .i64 8, .int .i64 4, .int .i64 2, .int .i64 1] 3 (0, 0))).cell (p := ⟨gp, 0, none⟩) hgl).trans c0
                    replace hB := Lib.hid (hB.out.alloc hB.out.size (.cells #[.int .i64 8, .int .i64 4, .int .i64 2, .int .i64 1] 3 (0, 0)))
                    have hq31 : q ≤ 2147483648 := hq2.out h32
                    have hlt32 : decide ((k : Int) < 32) = true := by simp; omega
                    go_wp2_with fail
                    refine (bPrefixes_any k q _ (by omega)).mono ?_
                    rintro e wv ⟨v, rfl, hown, hb⟩
                    rw [HPO.out.2]
                    replace hB := Lib.hid (hB.out.trans (hb.mono hB.out.size))
                    obtain ⟨vA, vl, vc, rfl⟩ := own_slice hown
                    clear hb hown
                    go_wp2_with fail
                    go_roundw
                    case rel => first | exact ⟨k + 1, by omega, by omega, by go_num, hB⟩ | ((repeat apply Exists.intro); exact ⟨⟨k + 1, by omega, by omega, by go_num, hB⟩, rfl⟩)
                    case measure => simp [intOf]; omega
                  · exfalso; omega
                · rw [if_neg h31]
                  have hg31 : decide ((31 : Int) ≤ (k : Int)) = false := by simp; omega
                  have h32 : k < 32 := by omega
                  have hgl2 := hgl
                  have c0b : (w7.alloc (.cells #[.int .i64 8, .int .i64 4, .int .i64 2, .int .i64 1] 3 (0, 0))).cell? ⟨gp, 0, none⟩ = some (.string pa) := (((Below.refl w7.heap.size w7).alloc (Nat.le_refl _) (.cells #[.int .i64 8, .int .i64 4, .int .i64 2, .int .i64 1] 3 (0, 0))).cell (p := ⟨gp, 0, none⟩) hgl).trans c0
                  replace hB := Lib.hid (hB.out.alloc hB.out.size (.cells #[.int .i64 8, .int .i64 4, .int .i64 2, .int .i64 1] 3 (0, 0)))
                  have hq31 : q ≤ 2147483648 := hq2.out h32
                  have hlt32 : decide ((k : Int) < 32) = true := by simp; omega
                  go_wp2_with fail
                  refine (bPrefixes_any k q _ (by omega)).mono ?_
                  rintro e wv ⟨v, rfl, hown, hb⟩
                  rw [HPO.out.2]
                  replace hB := Lib.hid (hB.out.trans (hb.mono hB.out.size))
                  obtain ⟨vA, vl, vc, rfl⟩ := own_slice hown
                  clear hb hown
                  go_wp2_with fail
                  go_roundw
                  case rel => first | exact ⟨k + 1, by omega, by omega, by go_num, hB⟩ | ((repeat apply Exists.intro); exact ⟨⟨k + 1, by omega, by omega, by go_num, hB⟩, rfl⟩)
                  case measure => simp [intOf]; omega
              · obtain rfl : m = 1 := hsp
                by_cases h31 : 31 ≤ k
                · rw [if_pos h31]
                  have hg31 : decide ((31 : Int) ≤ (k : Int)) = true := by simp; omega
                  by_cases h32 : k < 32
                  · exfalso; omega
                  · have hgl2 := hgl
                    have c0b : (w7.alloc (.cells #[.int .i64 8, .int .i64 4, .int .i64 2, .int .i64 1] 3 (0, 0))).cell? ⟨gp, 0, none⟩ = some (.string pa) := (((Below.refl w7.heap.size w7).alloc (Nat.le_refl _) (.cells #[.int .i64 8, .int .i64 4, .int .i64 2, .int .i64 1] 3 (0, 0))).cell (p := ⟨gp, 0, none⟩) hgl).trans c0
                    replace hB := Lib.hid (hB.out.alloc hB.out.size (.cells #[.int .i64 8, .int .i64 4, .int .i64 2, .int .i64 1] 3 (0, 0)))
                    have hlt32 : decide ((k : Int) < 32) = false := by simp; omega
                    go_wp2_with fail
                    go_roundw
                    case rel => first | exact ⟨k + 1, by omega, by omega, by go_num, hB⟩ | ((repeat apply Exists.intro); exact ⟨⟨k + 1, by omega, by omega, by go_num, hB⟩, rfl⟩)
                    case measure => simp [intOf]; omega
                · rw [if_neg h31]
                  have hg31 : decide ((31 : Int) ≤ (k : Int)) = false := by simp; omega
                  have h32 : k < 32 := by omega
                  have hgl2 := hgl
                  have c0b : (w7.alloc (.cells #[.int .i64 8, .int .i64 4, .int .i64 2, .int .i64 1] 3 (0, 0))).cell? ⟨gp, 0, none⟩ = some (.string pa) := (((Below.refl w7.heap.size w7).alloc (Nat.le_refl _) (.cells #[.int .i64 8, .int .i64 4, .int .i64 2, .int .i64 1] 3 (0, 0))).cell (p := ⟨gp, 0, none⟩) hgl).trans c0
                  replace hB := Lib.hid (hB.out.alloc hB.out.size (.cells #[.int .i64 8, .int .i64 4, .int .i64 2, .int .i64 1] 3 (0, 0)))
                  have hq31 : q ≤ 2147483648 := hq2.out h32
                  have hlt32 : decide ((k : Int) < 32) = true := by simp; omega
                  go_wp2_with fail
                  refine (bPrefixes_any k q _ (by omega)).mono ?_
                  rintro e wv ⟨v, rfl, hown, hb⟩
                  rw [HPO.out.2]
                  replace hB := Lib.hid (hB.out.trans (hb.mono hB.out.size))
                  obtain ⟨vA, vl, vc, rfl⟩ := own_slice hown
                  clear hb hown
                  go_wp2_with fail
                  go_roundw
                  case rel => first | exact ⟨k + 1, by omega, by omega, by go_num, hB⟩ | ((repeat apply Exists.intro); exact ⟨⟨k + 1, by omega, by omega, by go_num, hB⟩, rfl⟩)
                  case measure => simp [intOf]; omega
            · obtain rfl : k = 33 := by omega
              have hB := hR
              clear hR
              go_wp2_with fail
              refine (bPrefixes_any 32 4294967295 _ (by decide)).mono ?_
              rintro e w8 ⟨v, rfl, hown, hb⟩
              rw [last_pref.2]
              rw [last_pref.1] at hown
              obtain ⟨gp, cp, rfl, hgp, hR⟩ := row_form hown rfl (by decide)
              have hR := Lib.hid hR
              replace hB := Lib.hid (hB.out.trans (hb.mono hB.out.size))
              clear hb hown hgp
              go_wp2_with fail
              refine (bExpand_any 0 6 none [] 0 ⟨#[120]⟩ _ (by decide) wrong6 (by decide) (Strs.nil _ _) (by simp)).mono ?_
              rintro e w9 ⟨ge, V, U, rfl, hgw, hD, hb⟩
              have n63 := hD.cells 63 (by decide)
              have m63 : w9.cell? ⟨ge, 378, none⟩ = some (.string (Bn.roleT 6 ⟨#[120]⟩ 63)) := n63 0 _ rfl
              rw [name_3f] at m63
              have hgl : ge < w9.heap.size := World.block_lt_of_cell? _ _ m63
              clear n63 hD hgw
              simp only [Nat.reducePow]
              replace hR := Lib.hid (hR.out.below hb hR.out.lt)
              replace hB := Lib.hid (hB.out.trans (hb.mono hB.out.size))
              clear hb
              go_wp2_with fail
              refine (bExpand_long 0 7 none 0 0 _ _ (by decide) wrong7 (by decide)).mono ?_
              rintro e w10 ⟨rfl, hb⟩
              replace m63 := (hb.cell (p := ⟨ge, 378, none⟩) hgl).trans m63
              replace hgl := Nat.lt_of_lt_of_le hgl hb.size
              replace hR := Lib.hid (hR.out.below hb hR.out.lt)
              replace hB := Lib.hid (hB.out.trans (hb.mono hB.out.size))
              clear hb
              have c0 := hR.out.cell 0 (by decide)
              simp only [List.getD_cons_zero, List.getD_cons_succ] at c0
              have hdz : (⟨#[101, 51, 98, 48, 99, 52, 52, 50, 57, 56, 102, 99, 49, 99, 49, 52, 57, 97, 102, 98, 102, 52, 99, 56, 57, 57, 54, 102, 98, 57, 50, 52, 50, 55, 97, 101, 52, 49, 101, 52, 54, 52, 57, 98, 57, 51, 52, 99, 97, 52, 57, 53, 57, 57, 49, 98, 55, 56, 53, 50, 98, 56, 53, 53]⟩ : ByteArray).size = 64 := rfl
              go_wp2_with fail
              have hL := Lib.hid (rw_lit w10 [⟨#[]⟩, ⟨#[101, 52]⟩, ⟨#[101, 51, 98, 48, 99, 52, 52, 50, 57, 56, 102, 99, 49, 99, 49, 52, 57, 97, 102, 98, 102, 52, 99, 56, 57, 57, 54, 102, 98, 57, 50, 52, 50, 55, 97, 101, 52, 49, 101, 52, 54, 52, 57, 98, 57, 51, 52, 99, 97, 52, 57, 53, 57, 57, 49, 98, 55, 56, 53, 50, 98, 56, 53, 53]⟩])
              replace hB := Lib.hid (hB.out.alloc hB.out.size (.cells (strsL [⟨#[]⟩, ⟨#[101, 52]⟩, ⟨#[101, 51, 98, 48, 99, 52, 52, 50, 57, 56, 102, 99, 49, 99, 49, 52, 57, 97, 102, 98, 102, 52, 99, 56, 57, 57, 54, 102, 98, 57, 50, 52, 50, 55, 97, 101, 52, 49, 101, 52, 54, 52, 57, 98, 57, 51, 52, 99, 97, 52, 57, 53, 57, 57, 49, 98, 55, 56, 53, 50, 98, 56, 53, 53]⟩]).toArray 9 (0, 0)))
              replace hR := Lib.hid (hR.out.alloc (.cells (strsL [⟨#[]⟩, ⟨#[101, 52]⟩, ⟨#[101, 51, 98, 48, 99, 52, 52, 50, 57, 56, 102, 99, 49, 99, 49, 52, 57, 97, 102, 98, 102, 52, 99, 56, 57, 57, 54, 102, 98, 57, 50, 52, 50, 55, 97, 101, 52, 49, 101, 52, 54, 52, 57, 98, 57, 51, 52, 99, 97, 52, 57, 53, 57, 57, 49, 98, 55, 56, 53, 50, 98, 56, 53, 53]⟩]).toArray 9 (0, 0)))
              refine (bPrefixed_any [⟨#[]⟩, ⟨#[101, 52]⟩, ⟨#[101, 51, 98, 48, 99, 52, 52, 50, 57, 56, 102, 99, 49, 99, 49, 52, 57, 97, 102, 98, 102, 52, 99, 56, 57, 57, 54, 102, 98, 57, 50, 52, 50, 55, 97, 101, 52, 49, 101, 52, 54, 52, 57, 98, 57, 51, 52, 99, 97, 52, 57, 53, 57, 57, 49, 98, 55, 56, 53, 50, 98, 56, 53, 53]⟩] _ _ ⟨#[]⟩ _ (hT.below hB.out hT.lt) (hD.below hB.out hD.lt) hL.out.strs (fun j hj => ?_) (by unfold maxLen; simp) (by decide)).mono ?_
              · rcases j with _ | _ | _ | j <;> first | (show _ ≤ maxLen; unfold maxLen; decide) | (simp at hj; done) | (simp at hj; omega)
              rintro e w11 ⟨rfl, hb⟩
              rw [pr_d]
              replace hR := Lib.hid (hR.out.below hb hR.out.lt)
              replace hB := Lib.hid (hB.out.trans (hb.mono hB.out.size))
              clear hb
              go_wp2_with fail
              have hL := Lib.hid (rw_lit w11 [⟨#[]⟩, ⟨#[69, 51]⟩, ⟨#[101, 51, 98, 48, 99, 52, 52, 50, 57, 56, 102, 99, 49, 99, 49, 52, 57, 97, 102, 98, 102, 52, 99, 56, 57, 57, 54, 102, 98, 57, 50, 52, 50, 55, 97, 101, 52, 49, 101, 52, 54, 52, 57, 98, 57, 51, 52, 99, 97, 52, 57, 53, 57, 57, 49, 98, 55, 56, 53, 50, 98, 56, 53, 53]⟩ ++ ⟨#[48]⟩])
              replace hB := Lib.hid (hB.out.alloc hB.out.size (.cells (strsL [⟨#[]⟩, ⟨#[69, 51]⟩, ⟨#[101, 51, 98, 48, 99, 52, 52, 50, 57, 56, 102, 99, 49, 99, 49, 52, 57, 97, 102, 98, 102, 52, 99, 56, 57, 57, 54, 102, 98, 57, 50, 52, 50, 55, 97, 101, 52, 49, 101, 52, 54, 52, 57, 98, 57, 51, 52, 99, 97, 52, 57, 53, 57, 57, 49, 98, 55, 56, 53, 50, 98, 56, 53, 53]⟩ ++ ⟨#[48]⟩]).toArray 9 (0, 0)))
              replace hR := Lib.hid (hR.out.alloc (.cells (strsL [⟨#[]⟩, ⟨#[69, 51]⟩, ⟨#[101, 51, 98, 48, 99, 52, 52, 50, 57, 56, 102, 99, 49, 99, 49, 52, 57, 97, 102, 98, 102, 52, 99, 56, 57, 57, 54, 102, 98, 57, 50, 52, 50, 55, 97, 101, 52, 49, 101, 52, 54, 52, 57, 98, 57, 51, 52, 99, 97, 52, 57, 53, 57, 57, 49, 98, 55, 56, 53, 50, 98, 56, 53, 53]⟩ ++ ⟨#[48]⟩]).toArray 9 (0, 0)))
              refine (bPrefixed_any [⟨#[]⟩, ⟨#[69, 51]⟩, ⟨#[101, 51, 98, 48, 99, 52, 52, 50, 57, 56, 102, 99, 49, 99, 49, 52, 57, 97, 102, 98, 102, 52, 99, 56, 57, 57, 54, 102, 98, 57, 50, 52, 50, 55, 97, 101, 52, 49, 101, 52, 54, 52, 57, 98, 57, 51, 52, 99, 97, 52, 57, 53, 57, 57, 49, 98, 55, 56, 53, 50, 98, 56, 53, 53]⟩ ++ ⟨#[48]⟩] _ _ ⟨#[]⟩ _ (hT.below hB.out hT.lt) (hD.below hB.out hD.lt) hL.out.strs (fun j hj => ?_) (by unfold maxLen; simp) (by decide)).mono ?_
              · rcases j with _ | _ | _ | j <;> first | (show _ ≤ maxLen; unfold maxLen; decide) | (simp at hj; done) | (simp at hj; omega)
              rintro e w12 ⟨rfl, hb⟩
              rw [pr_e]
              replace hR := Lib.hid (hR.out.below hb hR.out.lt)
              replace hB := Lib.hid (hB.out.trans (hb.mono hB.out.size))
              clear hb
              go_wp2_with fail
              refine (bPrefixed_any [] none 0 ⟨#[]⟩ _ (hT.below hB.out hT.lt) (hD.below hB.out hD.lt) (Strs.nil _ _) (fun j hj => absurd hj (by simp)) (by simp) (by decide)).mono ?_
              rintro e w13 ⟨rfl, hb⟩
              rw [show Bn.prd [] ⟨#[]⟩ = false from prd_empty]
              replace hR := Lib.hid (hR.out.below hb hR.out.lt)
              replace hB := Lib.hid (hB.out.trans (hb.mono hB.out.size))
              clear hb
              go_wp2_with fail
              refine (bIs_any _ _ (by unfold maxLen; decide)).mono ?_
              rintro e _ ⟨rfl, rfl⟩
              rw [is_d.1]
              go_wp2_with fail
              refine (bIs_any _ _ (by unfold maxLen; decide)).mono ?_
              rintro e _ ⟨rfl, rfl⟩
              rw [is_d.2.1]
              go_wp2_with fail
              refine (bIs_any _ _ (by unfold maxLen; decide)).mono ?_
              rintro e _ ⟨rfl, rfl⟩
              rw [is_d.2.2]
              go_wp2_with fail
              go_ret
              exact ⟨rfl, hB.out⟩
end Go.Proofs.YtflfmacfodkedaaDoor
