/-
  The examples of the statements on sha: awake returns true.
-/
import Derived.Test.YtibjbpinbbmkjaaDoorShaTop
namespace Go.Proofs.YtibjbpinbbmkjaaDoor
set_option linter.unusedSimpArgs false
set_option linter.unusedVariables false
open Go Go.RowKit

theorem sha_nil : Sh.sha [] = [227, 176, 196, 66, 152, 252, 28, 20, 154, 251, 244, 200, 153, 111, 185, 36, 39, 174, 65, 228, 100, 155, 147, 76, 164, 149, 153, 27, 120, 82, 184, 85] := by decide +kernel
theorem sha_abc : Sh.sha [97, 98, 99] = [186, 120, 22, 191, 143, 1, 207, 234, 65, 65, 64, 222, 93, 174, 34, 35, 176, 3, 97, 163, 150, 23, 122, 156, 180, 16, 255, 97, 242, 0, 21, 173] := by decide +kernel
theorem dig_nil : Hx.enc (shaS ⟨#[]⟩) = ⟨#[101, 51, 98, 48, 99, 52, 52, 50, 57, 56, 102, 99, 49, 99, 49, 52, 57, 97, 102, 98, 102, 52, 99, 56, 57, 57, 54, 102, 98, 57, 50, 52, 50, 55, 97, 101, 52, 49, 101, 52, 54, 52, 57, 98, 57, 51, 52, 99, 97, 52, 57, 53, 57, 57, 49, 98, 55, 56, 53, 50, 98, 56, 53, 53]⟩ := by
  unfold shaS
  rw [show byt ⟨#[]⟩ = [] from rfl, sha_nil]
  decide +kernel
theorem dig_abc : Hx.enc (shaS ⟨#[97, 98, 99]⟩) = ⟨#[98, 97, 55, 56, 49, 54, 98, 102, 56, 102, 48, 49, 99, 102, 101, 97, 52, 49, 52, 49, 52, 48, 100, 101, 53, 100, 97, 101, 50, 50, 50, 51, 98, 48, 48, 51, 54, 49, 97, 51, 57, 54, 49, 55, 55, 97, 57, 99, 98, 52, 49, 48, 102, 102, 54, 49, 102, 50, 48, 48, 49, 53, 97, 100]⟩ := by
  unfold shaS
  rw [show byt ⟨#[97, 98, 99]⟩ = [97, 98, 99] from rfl, sha_abc]
  decide +kernel
attribute [local irreducible] Sh.sha
theorem sum_abc : strN (Sh.sha ([] ++ byt ⟨#[97, 98]⟩ ++ byt ⟨#[99]⟩)) = shaS ⟨#[97, 98, 99]⟩ := rfl
set_option maxHeartbeats 2000000 in
theorem sawake_any (w : World) (hT : Tb w) (hD : Digs w) :
    Calls Tryd.prog 9 #[] w fun e w' => e = .returned (.bool true) ∧ Below w.heap.size w w' := by
  have hB : Hid (Below w.heap.size w w) := Below.refl _ _
  go_enter Tryd.func9, Tryd.ntmps9
  go_wp2_with fail
  refine (new_any _ (hT.below hB.out hT.lt)).mono ?_
  rintro e w1 ⟨rfl, hb, hz, hH⟩
  have o0 : w.heap.size ≤ w.heap.size := hB.out.size
  have H0 := Lib.hid hH
  clear hH hz
  replace hB := Lib.hid (hB.out.trans (hb.mono hB.out.size))
  clear hb
  go_wp2_with fail
  refine (write_any w.heap.size _ ⟨#[97, 98]⟩ _ H0.out (hT.below hB.out hT.lt) (hT.lt.mono o0) (by decide)).mono ?_
  rintro e w2 ⟨rfl, hG, hH⟩
  replace H0 := Lib.hid hH
  replace hB := Lib.hid (below_one hB.out hG hB.out.size (fun g hg => by cases hg; exact o0))
  clear hG hH
  go_wp2_with fail
  refine (write_any w.heap.size _ ⟨#[99]⟩ _ H0.out (hT.below hB.out hT.lt) (hT.lt.mono o0) (by decide)).mono ?_
  rintro e w3 ⟨rfl, hG, hH⟩
  replace H0 := Lib.hid hH
  replace hB := Lib.hid (below_one hB.out hG hB.out.size (fun g hg => by cases hg; exact o0))
  clear hG hH
  go_wp2_with fail
  refine (digest_any ⟨#[]⟩ _ (hT.below hB.out hT.lt) (hD.below hB.out hD.lt) (by decide)).mono ?_
  rintro e w4 ⟨rfl, hb⟩
  rw [dig_nil]
  replace H0 := Lib.hid (H0.out.below hb H0.out.lt)
  replace hB := Lib.hid (hB.out.trans (hb.mono hB.out.size))
  clear hb
  go_wp2_with fail
  refine (digest_any ⟨#[97, 98, 99]⟩ _ (hT.below hB.out hT.lt) (hD.below hB.out hD.lt) (by decide)).mono ?_
  rintro e w5 ⟨rfl, hb⟩
  rw [dig_abc]
  replace H0 := Lib.hid (H0.out.below hb H0.out.lt)
  replace hB := Lib.hid (hB.out.trans (hb.mono hB.out.size))
  clear hb
  have hz3 := shaS_size ⟨#[97, 98, 99]⟩
  go_wp2_with fail
  refine (len_any w.heap.size _ _ H0.out).mono ?_
  rintro e _ ⟨rfl, rfl⟩
  simp only [show (([] : List Nat) ++ byt ⟨#[97, 98]⟩ ++ byt ⟨#[99]⟩).length = 3 from rfl]
  go_wp2_with fail
  refine (sum_any w.heap.size _ _ H0.out (hT.below hB.out hT.lt) (by decide)).mono ?_
  rintro e w6 ⟨rfl, hb⟩
  rw [sum_abc]
  replace H0 := Lib.hid (H0.out.below hb H0.out.lt)
  replace hB := Lib.hid (hB.out.trans (hb.mono hB.out.size))
  clear hb
  go_wp2_with fail
  refine (shaSum_any ⟨#[97, 98, 99]⟩ _ (hT.below hB.out hT.lt) (by decide)).mono ?_
  rintro e w7 ⟨rfl, hb⟩
  replace H0 := Lib.hid (H0.out.below hb H0.out.lt)
  replace hB := Lib.hid (hB.out.trans (hb.mono hB.out.size))
  clear hb
  go_wp2_with fail
  refine (sum_any w.heap.size _ _ H0.out (hT.below hB.out hT.lt) (by decide)).mono ?_
  rintro e w8 ⟨rfl, hb⟩
  rw [sum_abc]
  replace H0 := Lib.hid (H0.out.below hb H0.out.lt)
  replace hB := Lib.hid (hB.out.trans (hb.mono hB.out.size))
  clear hb
  go_wp2_with fail
  go_ret
  exact ⟨rfl, hB.out⟩
end Go.Proofs.YtibjbpinbbmkjaaDoor
