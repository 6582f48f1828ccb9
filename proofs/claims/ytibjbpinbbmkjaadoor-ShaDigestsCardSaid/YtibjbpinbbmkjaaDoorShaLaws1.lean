/-
  The statements ShaSums and ShaDigests, walked: they return true.
-/
import Derived.Test.YtibjbpinbbmkjaaDoorShaAwake
import Derived.Test.YtibjbpinbbmkjaaDoorShaRDig
import Derived.Test.YtibjbpinbbmkjaaDoorHexDec
import Derived.Test.YtibjbpinbbmkjaaDoorHexLaw
namespace Go.Proofs.YtibjbpinbbmkjaaDoor
set_option linter.unusedSimpArgs false
set_option linter.unusedVariables false
open Go Go.RowKit
attribute [local irreducible] Sh.sha

set_option maxHeartbeats 2000000 in
theorem shaSums_walk (s : ByteArray) (w : World) (hs : s.size ≤ maxLen) (hT : Tb w) (hD : Digs w) :
    Calls Tryd.prog 3 #[.string s] w fun e w' => e = .returned (.bool true) ∧ Below w.heap.size w w' := by
  by_cases h : 20000 < s.size
  · have hB : Hid (Below w.heap.size w w) := Below.refl _ _
    go_enter Tryd.func3, Tryd.ntmps3
    go_wp2_with fail
    refine (sawake_any _ (hT.below hB.out hT.lt) (hD.below hB.out hD.lt)).mono ?_
    rintro e w1 ⟨rfl, hb⟩
    replace hB := Lib.hid (hB.out.trans (hb.mono hB.out.size))
    clear hb
    go_wp2_with fail
    go_ret
    exact ⟨rfl, hB.out⟩
  · have hB : Hid (Below w.heap.size w w) := Below.refl _ _
    go_enter Tryd.func3, Tryd.ntmps3
    go_wp2_with fail
    refine (shaSum_any s _ (hT.below hB.out hT.lt) (by omega)).mono ?_
    rintro e w1 ⟨rfl, hb⟩
    replace hB := Lib.hid (hB.out.trans (hb.mono hB.out.size))
    clear hb
    go_wp2_with fail
    refine (rsum_any s _ (by omega)).mono ?_
    rintro e w2 ⟨rfl, hb⟩
    rw [show strN (Sh.sha (byt s)) = shaS s from rfl]
    replace hB := Lib.hid (hB.out.trans (hb.mono hB.out.size))
    clear hb
    go_wp2_with fail
    refine (digest_any s _ (hT.below hB.out hT.lt) (hD.below hB.out hD.lt) (by omega)).mono ?_
    rintro e w3 ⟨rfl, hb⟩
    replace hB := Lib.hid (hB.out.trans (hb.mono hB.out.size))
    clear hb
    go_wp2_with fail
    refine (rdigest_any s _ (by omega)).mono ?_
    rintro e w4 ⟨rfl, hb⟩
    replace hB := Lib.hid (hB.out.trans (hb.mono hB.out.size))
    clear hb
    go_wp2_with fail
    refine (sawake_any _ (hT.below hB.out hT.lt) (hD.below hB.out hD.lt)).mono ?_
    rintro e w5 ⟨rfl, hb⟩
    replace hB := Lib.hid (hB.out.trans (hb.mono hB.out.size))
    clear hb
    go_wp2_with fail
    go_ret
    exact ⟨rfl, hB.out⟩
set_option maxHeartbeats 2000000 in
theorem shaDigests_walk (s : ByteArray) (w : World) (hs : s.size ≤ maxLen) (hT : Tb w) (hD : Digs w) :
    Calls Tryd.prog 8 #[.string s] w fun e w' => e = .returned (.bool true) ∧ Below w.heap.size w w' := by
  by_cases h : 20000 < s.size
  · have hB : Hid (Below w.heap.size w w) := Below.refl _ _
    go_enter Tryd.func8, Tryd.ntmps8
    go_wp2_with fail
    refine (sawake_any _ (hT.below hB.out hT.lt) (hD.below hB.out hD.lt)).mono ?_
    rintro e w1 ⟨rfl, hb⟩
    replace hB := Lib.hid (hB.out.trans (hb.mono hB.out.size))
    clear hb
    go_wp2_with fail
    go_ret
    exact ⟨rfl, hB.out⟩
  · have hB : Hid (Below w.heap.size w w) := Below.refl _ _
    go_enter Tryd.func8, Tryd.ntmps8
    go_wp2_with fail
    refine (sawake_any _ (hT.below hB.out hT.lt) (hD.below hB.out hD.lt)).mono ?_
    rintro e w1 ⟨rfl, hb⟩
    replace hB := Lib.hid (hB.out.trans (hb.mono hB.out.size))
    clear hb
    go_wp2_with fail
    refine (digest_any s _ (hT.below hB.out hT.lt) (hD.below hB.out hD.lt) (by omega)).mono ?_
    rintro e w2 ⟨rfl, hb⟩
    replace hB := Lib.hid (hB.out.trans (hb.mono hB.out.size))
    clear hb
    obtain ⟨x, hx⟩ : ∃ x, x = shaS s := ⟨_, rfl⟩
    have hx32 : x.size = 32 := by rw [hx]; exact shaS_size s
    rw [← hx]
    have HX := Lib.hid hx
    clear hx
    obtain ⟨d, hd⟩ : ∃ d, d = Hx.enc x := ⟨_, rfl⟩
    have hd64 : d.size = 64 := by rw [hd, Hx.enc_size, hx32]
    have hdec : Hx.dec d = x ∧ Hx.decE d = 0 := by rw [hd]; exact Hx.dec_enc x
    rw [← hd]
    have HD2 := Lib.hid hd
    clear hd
    have HDEC := Lib.hid hdec
    clear hdec
    have x64 : d.size ≤ 1000000 := by omega
    go_wp2_with fail
    refine (decode_any d _ x64).mono ?_
    rintro e w3 ⟨rfl, hb⟩
    rw [HDEC.out.1, HDEC.out.2]
    replace hB := Lib.hid (hB.out.trans (hb.mono hB.out.size))
    clear hb
    go_wp2_with fail
    refine (shaSum_any s _ (hT.below hB.out hT.lt) (by omega)).mono ?_
    rintro e w4 ⟨rfl, hb⟩
    rw [← HX.out]
    replace hB := Lib.hid (hB.out.trans (hb.mono hB.out.size))
    clear hb
    go_wp2_with fail
    refine (encode_any x _ (by omega) (hD.below hB.out hD.lt)).mono ?_
    rintro e w5 ⟨rfl, hb⟩
    rw [← HD2.out]
    replace hB := Lib.hid (hB.out.trans (hb.mono hB.out.size))
    clear hb
    go_wp2_with fail
    go_ret
    exact ⟨rfl, hB.out⟩
end Go.Proofs.YtibjbpinbbmkjaaDoor
