/-
  The statements MacTells, MacTwice, MacBlocks and MacSame, walked: they return true.
-/
import Derived.Test.YtmfkelcpnollbaaDoorMacVals
namespace Go.Proofs.YtmfkelcpnollbaaDoor
set_option linter.unusedSimpArgs false
set_option linter.unusedVariables false
open Go Go.RowKit
attribute [local irreducible] Sh.sha Mc.blk Mc.blkS Mc.ofS Mc.xoS reps

set_option maxHeartbeats 2000000 in
theorem mawake_any (w : World) (hT : Tb w) (hD : Digs w) :
    Calls Tryd.prog 8 #[] w fun e w' => e = .returned (.bool true) ∧ Below w.heap.size w w' := by
  have hB : Hid (Below w.heap.size w w) := Below.refl _ _
  go_enter Tryd.func8, Tryd.ntmps8
  go_wp2_with fail
  refine (lbytes_any 20 11 _ (by decide) (by decide)).mono ?_
  rintro e w1 ⟨rfl, hb⟩
  replace hB := Lib.hid (hB.out.trans (hb.mono hB.out.size))
  clear hb
  go_wp2_with fail
  refine (mof_any _ _ _ (hT.below hB.out hT.lt) (by rw [reps_size _ _ (by decide)]; decide) (by decide)).mono ?_
  rintro e w2 ⟨rfl, hb⟩
  replace hB := Lib.hid (hB.out.trans (hb.mono hB.out.size))
  clear hb
  go_wp2_with fail
  refine (encode_any _ _ (by rw [Mc.ofS_size]; omega) (hD.below hB.out hD.lt)).mono ?_
  rintro e w3 ⟨rfl, hb⟩
  rw [mv1]
  replace hB := Lib.hid (hB.out.trans (hb.mono hB.out.size))
  clear hb
  go_wp2_with fail
  refine (mof_any ⟨#[74, 101, 102, 101]⟩ _ _ (hT.below hB.out hT.lt) (by decide) (by decide)).mono ?_
  rintro e w4 ⟨rfl, hb⟩
  replace hB := Lib.hid (hB.out.trans (hb.mono hB.out.size))
  clear hb
  go_wp2_with fail
  refine (encode_any _ _ (by rw [Mc.ofS_size]; omega) (hD.below hB.out hD.lt)).mono ?_
  rintro e w5 ⟨rfl, hb⟩
  rw [mv2]
  replace hB := Lib.hid (hB.out.trans (hb.mono hB.out.size))
  clear hb
  go_wp2_with fail
  refine (msame_any _ _ _).mono ?_
  rintro e _ ⟨rfl, rfl⟩
  go_wp2_with fail
  go_ret
  exact ⟨rfl, hB.out⟩
set_option maxHeartbeats 2000000 in
theorem macTells_walk (k s : ByteArray) (w : World) (hk0 : k.size ≤ maxLen) (hs0 : s.size ≤ maxLen) (hT : Tb w) (hD : Digs w) :
    Calls Tryd.prog 5 #[.string k, .string s] w fun e w' => e = .returned (.bool true) ∧ Below w.heap.size w w' := by
  by_cases h : 1500 < k.size
  · have hB : Hid (Below w.heap.size w w) := Below.refl _ _
    have hgt : decide ((1500 : Int) < k.size) = true := by simp; omega
    go_enter Tryd.func5, Tryd.ntmps5
    go_wp2_with fail
    refine (mawake_any _ (hT.below hB.out hT.lt) (hD.below hB.out hD.lt)).mono ?_
    rintro e w6 ⟨rfl, hb⟩
    replace hB := Lib.hid (hB.out.trans (hb.mono hB.out.size))
    clear hb
    go_wp2_with fail
    go_ret
    exact ⟨rfl, hB.out⟩
  by_cases h2 : 1500 < s.size
  · have hB : Hid (Below w.heap.size w w) := Below.refl _ _
    have hgt : decide ((1500 : Int) < k.size) = false := by simp; omega
    have hgt2 : decide ((1500 : Int) < s.size) = true := by simp; omega
    go_enter Tryd.func5, Tryd.ntmps5
    go_wp2_with fail
    refine (mawake_any _ (hT.below hB.out hT.lt) (hD.below hB.out hD.lt)).mono ?_
    rintro e w7 ⟨rfl, hb⟩
    replace hB := Lib.hid (hB.out.trans (hb.mono hB.out.size))
    clear hb
    go_wp2_with fail
    go_ret
    exact ⟨rfl, hB.out⟩
  have hB : Hid (Below w.heap.size w w) := Below.refl _ _
  have hgt : decide ((1500 : Int) < k.size) = false := by simp; omega
  have hgt2 : decide ((1500 : Int) < s.size) = false := by simp; omega
  have kz : k.size ≤ 1500 := by omega
  have sz : s.size ≤ 1500 := by omega
  clear h h2 hk0 hs0
  go_enter Tryd.func5, Tryd.ntmps5
  go_wp2_with fail
  refine (mof_any k s _ (hT.below hB.out hT.lt) (by omega) (by omega)).mono ?_
  rintro e w8 ⟨rfl, hb⟩
  replace hB := Lib.hid (hB.out.trans (hb.mono hB.out.size))
  clear hb
  go_wp2_with fail
  refine (rof_any k s _ (by omega) (by omega)).mono ?_
  rintro e w9 ⟨rfl, hb⟩
  replace hB := Lib.hid (hB.out.trans (hb.mono hB.out.size))
  clear hb
  go_wp2_with fail
  refine (mBlock_any k _ (hT.below hB.out hT.lt) (by omega)).mono ?_
  rintro e w10 ⟨rfl, hb⟩
  replace hB := Lib.hid (hB.out.trans (hb.mono hB.out.size))
  clear hb
  go_wp2_with fail
  refine (rBlock_any k _ (by omega)).mono ?_
  rintro e w11 ⟨rfl, hb⟩
  replace hB := Lib.hid (hB.out.trans (hb.mono hB.out.size))
  clear hb
  go_wp2_with fail
  refine (mawake_any _ (hT.below hB.out hT.lt) (hD.below hB.out hD.lt)).mono ?_
  rintro e w12 ⟨rfl, hb⟩
  replace hB := Lib.hid (hB.out.trans (hb.mono hB.out.size))
  clear hb
  go_wp2_with fail
  go_ret
  exact ⟨rfl, hB.out⟩
set_option maxHeartbeats 2000000 in
theorem macTwice_walk (k s : ByteArray) (w : World) (hk0 : k.size ≤ maxLen) (hs0 : s.size ≤ maxLen) (hT : Tb w) (hD : Digs w) :
    Calls Tryd.prog 6 #[.string k, .string s] w fun e w' => e = .returned (.bool true) ∧ Below w.heap.size w w' := by
  by_cases h : 1500 < k.size
  · have hB : Hid (Below w.heap.size w w) := Below.refl _ _
    have hgt : decide ((1500 : Int) < k.size) = true := by simp; omega
    go_enter Tryd.func6, Tryd.ntmps6
    go_wp2_with fail
    refine (mawake_any _ (hT.below hB.out hT.lt) (hD.below hB.out hD.lt)).mono ?_
    rintro e w13 ⟨rfl, hb⟩
    replace hB := Lib.hid (hB.out.trans (hb.mono hB.out.size))
    clear hb
    go_wp2_with fail
    go_ret
    exact ⟨rfl, hB.out⟩
  by_cases h2 : 1500 < s.size
  · have hB : Hid (Below w.heap.size w w) := Below.refl _ _
    have hgt : decide ((1500 : Int) < k.size) = false := by simp; omega
    have hgt2 : decide ((1500 : Int) < s.size) = true := by simp; omega
    go_enter Tryd.func6, Tryd.ntmps6
    go_wp2_with fail
    refine (mawake_any _ (hT.below hB.out hT.lt) (hD.below hB.out hD.lt)).mono ?_
    rintro e w14 ⟨rfl, hb⟩
    replace hB := Lib.hid (hB.out.trans (hb.mono hB.out.size))
    clear hb
    go_wp2_with fail
    go_ret
    exact ⟨rfl, hB.out⟩
  have hB : Hid (Below w.heap.size w w) := Below.refl _ _
  have hgt : decide ((1500 : Int) < k.size) = false := by simp; omega
  have hgt2 : decide ((1500 : Int) < s.size) = false := by simp; omega
  have kz : k.size ≤ 1500 := by omega
  have sz : s.size ≤ 1500 := by omega
  clear h h2 hk0 hs0
  go_enter Tryd.func6, Tryd.ntmps6
  have bz := Mc.blkS_size k
  have HOF := Lib.hid (ofS_eq k s)
  have x1 := xoS64 54 (by decide) k
  have x2 := xoS64 92 (by decide) k
  go_wp2_with fail
  refine (mawake_any _ (hT.below hB.out hT.lt) (hD.below hB.out hD.lt)).mono ?_
  rintro e w15 ⟨rfl, hb⟩
  replace hB := Lib.hid (hB.out.trans (hb.mono hB.out.size))
  clear hb
  go_wp2_with fail
  refine (mBlock_any k _ (hT.below hB.out hT.lt) (by omega)).mono ?_
  rintro e w16 ⟨rfl, hb⟩
  replace hB := Lib.hid (hB.out.trans (hb.mono hB.out.size))
  clear hb
  go_wp2_with fail
  refine (mof_any k s _ (hT.below hB.out hT.lt) (by omega) (by omega)).mono ?_
  rintro e w17 ⟨rfl, hb⟩
  replace hB := Lib.hid (hB.out.trans (hb.mono hB.out.size))
  clear hb
  go_wp2_with fail
  refine (lcomb_any (Mc.blkS k) 92 _ (by omega) (by decide)).mono ?_
  rintro e w18 ⟨rfl, hb⟩
  replace hB := Lib.hid (hB.out.trans (hb.mono hB.out.size))
  clear hb
  go_wp2_with fail
  refine (lcomb_any (Mc.blkS k) 54 _ (by omega) (by decide)).mono ?_
  rintro e w19 ⟨rfl, hb⟩
  replace hB := Lib.hid (hB.out.trans (hb.mono hB.out.size))
  clear hb
  generalize Mc.xoS 54 (Mc.blkS k) = a at *
  generalize Mc.xoS 92 (Mc.blkS k) = b at *
  go_wp2_with fail
  refine (shaSum_any _ _ (hT.below hB.out hT.lt) (by rw [ByteArray.size_append]; omega)).mono ?_
  rintro e w20 ⟨rfl, hb⟩
  replace hB := Lib.hid (hB.out.trans (hb.mono hB.out.size))
  clear hb
  have x3 := shaS_size (a ++ s)
  generalize shaS (a ++ s) = c at *
  go_wp2_with fail
  refine (shaSum_any _ _ (hT.below hB.out hT.lt) (by rw [ByteArray.size_append]; omega)).mono ?_
  rintro e w21 ⟨rfl, hb⟩
  rw [HOF.out]
  replace hB := Lib.hid (hB.out.trans (hb.mono hB.out.size))
  clear hb
  go_wp2_with fail
  go_ret
  exact ⟨rfl, hB.out⟩
end Go.Proofs.YtmfkelcpnollbaaDoor
