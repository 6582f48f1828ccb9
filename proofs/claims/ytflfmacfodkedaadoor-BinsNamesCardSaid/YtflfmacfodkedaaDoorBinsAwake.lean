/-
  Rows of strings that a call makes; the examples of the statements on bins: awake returns true.
-/
import Derived.Test.YtflfmacfodkedaaDoorBinsGoes
import Derived.Test.YtflfmacfodkedaaDoorShaFast
namespace Go.Proofs.YtflfmacfodkedaaDoor
set_option linter.unusedSimpArgs false
set_option linter.unusedVariables false
open Go Go.RowKit

/-- Block g begins with these strings. -/
def Rw (w : World) (g : Nat) (ls : List ByteArray) : Prop := ∃ cur, w.heap[g]? = some (.cells cur 9 (0, 0)) ∧ ls.length ≤ cur.size ∧ ∀ j, j < ls.length → cur[j]? = some (.string (ls.getD j ByteArray.empty))
theorem Rw.lt {w : World} {g : Nat} {ls : List ByteArray} (h : Rw w g ls) : g < w.heap.size := by
  obtain ⟨cur, h1, _⟩ := h
  exact Bk.lt h1
theorem Rw.cell {w : World} {g : Nat} {ls : List ByteArray} (h : Rw w g ls) (j : Nat) (hj : j < ls.length) : w.cell? ⟨g, j, none⟩ = some (.string (ls.getD j ByteArray.empty)) := by
  obtain ⟨cur, h1, _, h3⟩ := h
  exact (Bk.cell h1 j).trans (h3 j hj)
theorem Rw.frozen {w : World} {g : Nat} {ls : List ByteArray} (h : Rw w g ls) (j : Nat) : w.frozen? ⟨g, j, none⟩ = false := by
  obtain ⟨cur, h1, _⟩ := h
  exact Bk.frozen h1 j
theorem Rw.below {w w' : World} {B g : Nat} {ls : List ByteArray} (h : Rw w g ls) (hb : Below B w w') (hg : g < B) : Rw w' g ls := by
  obtain ⟨cur, h1, h2⟩ := h
  exact ⟨cur, Bk.below h1 hb hg, h2⟩
theorem Rw.alloc {w : World} {g : Nat} {ls : List ByteArray} (h : Rw w g ls) (o : Obj) : Rw (w.alloc o) g ls := by
  obtain ⟨cur, h1, h2⟩ := h
  exact ⟨cur, Bk.grow h1 (World.grownBy_alloc _ _ none) (by simp), h2⟩
theorem Rw.drawn {w : World} {g : Nat} {ls : List ByteArray} (h : Rw w g ls) (n : Nat) : Rw (w.drewN n) g ls := h
theorem Rw.put {w : World} {g : Nat} {ls : List ByteArray} (h : Rw w g ls) (j : Nat) (hj : j < ls.length) (x : ByteArray) : Rw (w.setCell ⟨g, j, none⟩ (.string x)) g (ls.set j x) := by
  obtain ⟨cur, h1, h2, h3⟩ := h
  refine ⟨_, Bk.put h1 j _, by rw [List.length_set, Array.size_setIfInBounds]; exact h2, fun i hi => ?_⟩
  rw [List.length_set] at hi
  rw [Array.getElem?_setIfInBounds, List.getD_eq_getElem?_getD, List.getElem?_set]
  by_cases e : j = i
  · subst e; rw [if_pos rfl, if_pos (by omega), if_pos rfl, if_pos hi]; rfl
  · rw [if_neg e, if_neg e, h3 i hi, List.getD_eq_getElem?_getD]
theorem Rw.strs {w : World} {g : Nat} {ls : List ByteArray} (h : Rw w g ls) : Strs w (some ⟨g, 0, none⟩) ls := fun i hi => ⟨⟨g, 0, none⟩, rfl, h.lt, by
  rw [show (⟨g, 0, none⟩ : Addr).add i = ⟨g, i, none⟩ by unfold Addr.add; by_cases e : i = 0 <;> simp [e]]
  exact h.cell i hi⟩
theorem rw_lit (w : World) (ls : List ByteArray) : Rw (w.alloc (.cells (strsL ls).toArray 9 (0, 0))) w.heap.size ls :=
  ⟨_, Bk.fresh w 9 _, by simp [strsL], fun j hj => by
    rw [List.getElem?_toArray]
    unfold strsL
    rw [List.getElem?_map, List.getD_eq_getElem?_getD, List.getElem?_eq_getElem hj]
    rfl⟩
theorem Strs.nil (w : World) (A : Option Addr) : Strs w A [] := fun i hi => absurd hi (by simp)
/-- What a call hands on: nothing, or a new row. -/
theorem row_form {w : World} {B n : Nat} {v : Value} {ls : List ByteArray} (h : w.ownsRow B 9 1 v n (strsL ls)) (hn : n = ls.length) (h0 : 0 < n) : ∃ g cap, v = .slice (some ⟨g, 0, none⟩) ls.length cap ∧ B ≤ g ∧ Rw w g ls := by
  obtain ⟨h1, h2⟩ := h
  rcases h2 with ⟨_, h2⟩ | ⟨g, cap, cur, rfl, hB, hh, hc, hm, hz, ht⟩
  · omega
  · subst hn
    rw [Nat.mul_one] at ht hz
    refine ⟨g, cap, rfl, hB, cur, hh, by omega, fun j hj => ?_⟩
    have := congrArg (fun l => l[j]?) ht
    simp only [List.getElem?_take, if_pos hj, Array.getElem?_toList, strsL, List.getElem?_map] at this
    rw [this, List.getD_eq_getElem?_getD, List.getElem?_eq_getElem hj]
    rfl
theorem row_nil {w : World} {B n : Nat} {v : Value} {xs : List Value} (h : w.ownsRow B 9 1 v n xs) (hn : n = 0) : ∃ A cap, v = .slice A 0 cap := by
  obtain ⟨h1, h2⟩ := h
  rcases h2 with ⟨rfl, _⟩ | ⟨g, cap, cur, rfl, _⟩
  · exact ⟨_, _, rfl⟩
  · subst hn
    exact ⟨_, _, rfl⟩
theorem sha_nil : Sh.sha [] = [227, 176, 196, 66, 152, 252, 28, 20, 154, 251, 244, 200, 153, 111, 185, 36, 39, 174, 65, 228, 100, 155, 147, 76, 164, 149, 153, 27, 120, 82, 184, 85] := Sh.sha_fast 1 (by decide +kernel) ⟨3820012610, 2566659092, 2600203464, 2574235940, 665731556, 1687917388, 2761267483, 2018687061⟩ (by decide +kernel)
theorem be4_nil : Bn.be4 (shaS ⟨#[]⟩) = 3820012610 := by
  unfold Bn.be4
  rw [show byt (shaS ⟨#[]⟩) = Sh.sha [] from byt_strN _ (Sh.sha_lt _), sha_nil]
  decide +kernel
theorem dig_nil : Bn.dig ⟨#[]⟩ = ⟨#[101, 51, 98, 48, 99, 52, 52, 50, 57, 56, 102, 99, 49, 99, 49, 52, 57, 97, 102, 98, 102, 52, 99, 56, 57, 57, 54, 102, 98, 57, 50, 52, 50, 55, 97, 101, 52, 49, 101, 52, 54, 52, 57, 98, 57, 51, 52, 99, 97, 52, 57, 53, 57, 57, 49, 98, 55, 56, 53, 50, 98, 56, 53, 53]⟩ := by
  unfold Bn.dig shaS
  rw [show byt ⟨#[]⟩ = [] from rfl, sha_nil]
  decide +kernel
theorem bn1 : Bn.binN ⟨#[]⟩ 1 = 1 := by
  unfold Bn.binN Bn.bin
  rw [be4_nil]
  decide +kernel
theorem bn2 : Bn.binN ⟨#[]⟩ 2 = 3 := by
  unfold Bn.binN Bn.bin
  rw [be4_nil]
  decide +kernel
theorem bn4 : Bn.binN ⟨#[]⟩ 4 = 14 := by
  unfold Bn.binN Bn.bin
  rw [be4_nil]
  decide +kernel
theorem bn5 : Bn.binN ⟨#[]⟩ 5 = 28 := by
  unfold Bn.binN Bn.bin
  rw [be4_nil]
  decide +kernel
theorem bn8 : Bn.binN ⟨#[]⟩ 8 = 227 := by
  unfold Bn.binN Bn.bin
  rw [be4_nil]
  decide +kernel
theorem bn32 : Bn.binN ⟨#[]⟩ 32 = 3820012610 := by
  unfold Bn.binN Bn.bin
  rw [be4_nil]
  decide +kernel
theorem pl528 : Bn.prefL 5 28 = [⟨#[101, 48]⟩, ⟨#[101, 49]⟩, ⟨#[101, 50]⟩, ⟨#[101, 51]⟩, ⟨#[101, 52]⟩, ⟨#[101, 53]⟩, ⟨#[101, 54]⟩, ⟨#[101, 55]⟩] := by decide +kernel
theorem pr_e3b : Bn.prd [⟨#[101, 51, 98]⟩] ⟨#[]⟩ = true := by
  unfold Bn.prd
  rw [dig_nil]
  decide +kernel
theorem goes_x : Bn.goesS 2 ⟨#[120]⟩ ⟨#[]⟩ = ⟨#[120, 45, 51]⟩ := by
  unfold Bn.goesS Bn.bin
  rw [be4_nil]
  decide +kernel
theorem role7 : Bn.roleS 5 ⟨#[120]⟩ 7 = ⟨#[120, 45, 48, 55]⟩ ∧ Bn.roleE 5 ⟨#[120]⟩ 7 = 0 := by decide +kernel
theorem role255 : Bn.roleS 32 ⟨#[120]⟩ 255 = ⟨#[120, 45, 48, 48, 48, 48, 48, 48, 102, 102]⟩ ∧ Bn.roleE 32 ⟨#[120]⟩ 255 = 0 := by decide +kernel
theorem wrong2 : Bn.wrong 2 ⟨#[120]⟩ = 0 := by decide +kernel
theorem wrong7 : Bn.wrong 7 ⟨#[120]⟩ = 0 := by decide +kernel
theorem isP_e3b : Bn.isP ⟨#[101, 51, 98]⟩ = true := by decide +kernel
attribute [local irreducible] Sh.sha shaS Bn.prd Bn.goesS Bn.roleS Bn.roleE Bn.wrong Bn.prefL Bn.binN Bn.isP

set_option maxRecDepth 20000 in
set_option maxHeartbeats 2000000 in
theorem bawake_any (w : World) (hT : Tb w) (hD : Digs w) :
    Calls Tryd.prog 11 #[] w fun e w' => e = .returned (.bool true) ∧ Below w.heap.size w w' := by
  have hB : Hid (Below w.heap.size w w) := Below.refl _ _
  go_enter Tryd.func11, Tryd.ntmps11
  go_wp2_with fail
  refine (bPrefixes_any 5 28 _ (by decide)).mono ?_
  rintro e w1 ⟨v, rfl, hown, hb⟩
  rw [show Bn.prefE 5 28 = 0 from by decide +kernel]
  rw [pl528] at hown
  obtain ⟨g, cap, rfl, hg, hR⟩ := row_form hown rfl (by decide)
  clear hown
  have hR := Lib.hid hR
  replace hB := Lib.hid (hB.out.trans (hb.mono hB.out.size))
  clear hb
  go_wp2_with fail
  refine (bRole_any 0 5 none 0 0 _ 7 _ (by decide) (by decide)).mono ?_
  rintro e w2 ⟨rfl, hb⟩
  rw [role7.1, role7.2]
  replace hR := Lib.hid (hR.out.below hb hR.out.lt)
  replace hB := Lib.hid (hB.out.trans (hb.mono hB.out.size))
  clear hb
  go_wp2_with fail
  refine (bRole_any 0 32 none 0 0 _ 255 _ (by decide) (by decide)).mono ?_
  rintro e w3 ⟨rfl, hb⟩
  rw [role255.1, role255.2]
  replace hR := Lib.hid (hR.out.below hb hR.out.lt)
  replace hB := Lib.hid (hB.out.trans (hb.mono hB.out.size))
  clear hb
  go_wp2_with fail
  refine (bGoes_any 0 2 none 0 0 _ _ _ (hT.below hB.out hT.lt) (by decide) (by decide)).mono ?_
  rintro e w4 ⟨rfl, hb⟩
  rw [goes_x, wrong2]
  replace hR := Lib.hid (hR.out.below hb hR.out.lt)
  replace hB := Lib.hid (hB.out.trans (hb.mono hB.out.size))
  clear hb
  go_wp2_with fail
  refine (bExpand_long 0 7 none 0 0 _ _ (by decide) wrong7 (by decide)).mono ?_
  rintro e w5 ⟨rfl, hb⟩
  replace hR := Lib.hid (hR.out.below hb hR.out.lt)
  replace hB := Lib.hid (hB.out.trans (hb.mono hB.out.size))
  clear hb
  go_wp2_with fail
  refine (lbin_any 1 1 _ (hT.below hB.out hT.lt) bn1 (by decide +kernel)).mono ?_
  rintro e w6 ⟨rfl, hb⟩
  replace hR := Lib.hid (hR.out.below hb hR.out.lt)
  replace hB := Lib.hid (hB.out.trans (hb.mono hB.out.size))
  clear hb
  go_wp2_with fail
  refine (lbin_any 2 3 _ (hT.below hB.out hT.lt) bn2 (by decide +kernel)).mono ?_
  rintro e w7 ⟨rfl, hb⟩
  replace hR := Lib.hid (hR.out.below hb hR.out.lt)
  replace hB := Lib.hid (hB.out.trans (hb.mono hB.out.size))
  clear hb
  go_wp2_with fail
  refine (lbin_any 4 14 _ (hT.below hB.out hT.lt) bn4 (by decide +kernel)).mono ?_
  rintro e w8 ⟨rfl, hb⟩
  replace hR := Lib.hid (hR.out.below hb hR.out.lt)
  replace hB := Lib.hid (hB.out.trans (hb.mono hB.out.size))
  clear hb
  go_wp2_with fail
  refine (lbin_any 5 28 _ (hT.below hB.out hT.lt) bn5 (by decide +kernel)).mono ?_
  rintro e w9 ⟨rfl, hb⟩
  replace hR := Lib.hid (hR.out.below hb hR.out.lt)
  replace hB := Lib.hid (hB.out.trans (hb.mono hB.out.size))
  clear hb
  go_wp2_with fail
  refine (lbin_any 8 227 _ (hT.below hB.out hT.lt) bn8 (by decide +kernel)).mono ?_
  rintro e w10 ⟨rfl, hb⟩
  replace hR := Lib.hid (hR.out.below hb hR.out.lt)
  replace hB := Lib.hid (hB.out.trans (hb.mono hB.out.size))
  clear hb
  go_wp2_with fail
  refine (lbin_any 32 3820012610 _ (hT.below hB.out hT.lt) bn32 (by decide +kernel)).mono ?_
  rintro e w11 ⟨rfl, hb⟩
  replace hR := Lib.hid (hR.out.below hb hR.out.lt)
  replace hB := Lib.hid (hB.out.trans (hb.mono hB.out.size))
  clear hb
  have c0 := hR.out.cell 0 (by decide)
  have c7 := hR.out.cell 7 (by decide)
  simp only [List.getD_cons_zero, List.getD_cons_succ] at c0 c7
  go_wp2_with fail
  refine (bIs_any _ _ (by decide)).mono ?_
  rintro e _ ⟨rfl, rfl⟩
  rw [isP_e3b]
  go_wp2_with fail
  have hL := Lib.hid (rw_lit w11 [⟨#[101, 51, 98]⟩])
  replace hB := Lib.hid (hB.out.alloc hB.out.size (.cells (strsL [⟨#[101, 51, 98]⟩]).toArray 9 (0, 0)))
  replace hR := Lib.hid (hR.out.alloc (.cells (strsL [⟨#[101, 51, 98]⟩]).toArray 9 (0, 0)))
  refine (bPrefixed_any [⟨#[101, 51, 98]⟩] _ _ _ _ (hT.below hB.out hT.lt) (hD.below hB.out hD.lt) hL.out.strs (by intro i hi; unfold maxLen; rcases i with _ | _ | _ | i <;> first | (simp at hi; done) | decide | (simp at hi; omega)) (by decide) (by decide)).mono ?_
  rintro e w12 ⟨rfl, hb⟩
  rw [pr_e3b]
  replace hR := Lib.hid (hR.out.below hb hR.out.lt)
  replace hB := Lib.hid (hB.out.trans (hb.mono hB.out.size))
  clear hb
  go_wp2_with fail
  go_ret
  exact ⟨rfl, hB.out⟩
end Go.Proofs.YtflfmacfodkedaaDoor
