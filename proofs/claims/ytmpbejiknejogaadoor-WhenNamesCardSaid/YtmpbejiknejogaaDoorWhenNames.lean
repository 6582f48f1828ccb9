/-
  The closed statement WhenNames, walked: it returns true.
-/
import Derived.Test.YtmpbejiknejogaaDoorWhenLaw
namespace Go.Proofs.YtmpbejiknejogaaDoor
set_option linter.unusedSimpArgs false
set_option linter.unusedVariables false
open Go Go.RowKit

def nt (j : Nat) : ByteArray := ([⟨#[]⟩, ⟨#[49, 57, 55, 48, 45, 48, 49, 45, 48, 49, 84, 48, 48, 58, 48, 48, 58, 48, 48]⟩, ⟨#[49, 57, 55, 48, 45, 48, 49, 45, 48, 49, 84, 48, 48, 58, 48, 48, 58, 48, 48, 90, 32]⟩, ⟨#[49, 57, 54, 57, 45, 49, 50, 45, 51, 49, 84, 50, 51, 58, 53, 57, 58, 53, 57, 90]⟩, ⟨#[49, 57, 55, 48, 45, 48, 48, 45, 48, 49, 84, 48, 48, 58, 48, 48, 58, 48, 48, 90]⟩, ⟨#[49, 57, 55, 48, 45, 49, 51, 45, 48, 49, 84, 48, 48, 58, 48, 48, 58, 48, 48, 90]⟩, ⟨#[49, 57, 55, 48, 45, 48, 49, 45, 48, 48, 84, 48, 48, 58, 48, 48, 58, 48, 48, 90]⟩, ⟨#[49, 57, 55, 48, 45, 48, 49, 45, 51, 50, 84, 48, 48, 58, 48, 48, 58, 48, 48, 90]⟩, ⟨#[49, 57, 55, 48, 45, 48, 52, 45, 51, 49, 84, 48, 48, 58, 48, 48, 58, 48, 48, 90]⟩, ⟨#[49, 57, 55, 49, 45, 48, 50, 45, 50, 57, 84, 48, 48, 58, 48, 48, 58, 48, 48, 90]⟩, ⟨#[49, 57, 55, 48, 45, 48, 49, 45, 48, 49, 84, 50, 52, 58, 48, 48, 58, 48, 48, 90]⟩, ⟨#[49, 57, 55, 48, 45, 48, 49, 45, 48, 49, 84, 48, 48, 58, 54, 48, 58, 48, 48, 90]⟩, ⟨#[49, 57, 55, 48, 45, 48, 49, 45, 48, 49, 84, 50, 51, 58, 53, 57, 58, 54, 48, 90]⟩, ⟨#[49, 57, 55, 48, 45, 48, 49, 45, 48, 49, 116, 48, 48, 58, 48, 48, 58, 48, 48, 90]⟩, ⟨#[49, 57, 55, 48, 45, 48, 49, 45, 48, 49, 84, 48, 48, 58, 48, 48, 58, 48, 48, 122]⟩, ⟨#[49, 57, 55, 48, 45, 48, 49, 45, 48, 49, 32, 48, 48, 58, 48, 48, 58, 48, 48, 90]⟩, ⟨#[49, 57, 55, 48, 47, 48, 49, 47, 48, 49, 84, 48, 48, 58, 48, 48, 58, 48, 48, 90]⟩, ⟨#[49, 57, 55, 48, 45, 49, 45, 48, 49, 84, 48, 48, 58, 48, 48, 58, 48, 48, 48, 90]⟩, ⟨#[49, 57, 55, 48, 45, 48, 49, 45, 48, 49, 84, 48, 32, 58, 48, 48, 58, 48, 48, 90]⟩, ⟨#[43, 57, 55, 48, 45, 48, 49, 45, 48, 49, 84, 48, 48, 58, 48, 48, 58, 48, 48, 90]⟩, ⟨#[49, 57, 55, 48, 45, 48, 49, 45, 43, 49, 84, 48, 48, 58, 48, 48, 58, 48, 48, 90]⟩, ⟨#[49, 48, 48, 48, 48, 45, 48, 49, 45, 48, 49, 84, 48, 48, 58, 48, 48, 58, 48, 90]⟩] : List ByteArray).getD j ⟨#[]⟩
def ntC : Array Value := #[.string ⟨#[]⟩, .string ⟨#[49, 57, 55, 48, 45, 48, 49, 45, 48, 49, 84, 48, 48, 58, 48, 48, 58, 48, 48]⟩, .string ⟨#[49, 57, 55, 48, 45, 48, 49, 45, 48, 49, 84, 48, 48, 58, 48, 48, 58, 48, 48, 90, 32]⟩, .string ⟨#[49, 57, 54, 57, 45, 49, 50, 45, 51, 49, 84, 50, 51, 58, 53, 57, 58, 53, 57, 90]⟩, .string ⟨#[49, 57, 55, 48, 45, 48, 48, 45, 48, 49, 84, 48, 48, 58, 48, 48, 58, 48, 48, 90]⟩, .string ⟨#[49, 57, 55, 48, 45, 49, 51, 45, 48, 49, 84, 48, 48, 58, 48, 48, 58, 48, 48, 90]⟩, .string ⟨#[49, 57, 55, 48, 45, 48, 49, 45, 48, 48, 84, 48, 48, 58, 48, 48, 58, 48, 48, 90]⟩, .string ⟨#[49, 57, 55, 48, 45, 48, 49, 45, 51, 50, 84, 48, 48, 58, 48, 48, 58, 48, 48, 90]⟩, .string ⟨#[49, 57, 55, 48, 45, 48, 52, 45, 51, 49, 84, 48, 48, 58, 48, 48, 58, 48, 48, 90]⟩, .string ⟨#[49, 57, 55, 49, 45, 48, 50, 45, 50, 57, 84, 48, 48, 58, 48, 48, 58, 48, 48, 90]⟩, .string ⟨#[49, 57, 55, 48, 45, 48, 49, 45, 48, 49, 84, 50, 52, 58, 48, 48, 58, 48, 48, 90]⟩, .string ⟨#[49, 57, 55, 48, 45, 48, 49, 45, 48, 49, 84, 48, 48, 58, 54, 48, 58, 48, 48, 90]⟩, .string ⟨#[49, 57, 55, 48, 45, 48, 49, 45, 48, 49, 84, 50, 51, 58, 53, 57, 58, 54, 48, 90]⟩, .string ⟨#[49, 57, 55, 48, 45, 48, 49, 45, 48, 49, 116, 48, 48, 58, 48, 48, 58, 48, 48, 90]⟩, .string ⟨#[49, 57, 55, 48, 45, 48, 49, 45, 48, 49, 84, 48, 48, 58, 48, 48, 58, 48, 48, 122]⟩, .string ⟨#[49, 57, 55, 48, 45, 48, 49, 45, 48, 49, 32, 48, 48, 58, 48, 48, 58, 48, 48, 90]⟩, .string ⟨#[49, 57, 55, 48, 47, 48, 49, 47, 48, 49, 84, 48, 48, 58, 48, 48, 58, 48, 48, 90]⟩, .string ⟨#[49, 57, 55, 48, 45, 49, 45, 48, 49, 84, 48, 48, 58, 48, 48, 58, 48, 48, 48, 90]⟩, .string ⟨#[49, 57, 55, 48, 45, 48, 49, 45, 48, 49, 84, 48, 32, 58, 48, 48, 58, 48, 48, 90]⟩, .string ⟨#[43, 57, 55, 48, 45, 48, 49, 45, 48, 49, 84, 48, 48, 58, 48, 48, 58, 48, 48, 90]⟩, .string ⟨#[49, 57, 55, 48, 45, 48, 49, 45, 43, 49, 84, 48, 48, 58, 48, 48, 58, 48, 48, 90]⟩, .string ⟨#[49, 48, 48, 48, 48, 45, 48, 49, 45, 48, 49, 84, 48, 48, 58, 48, 48, 58, 48, 90]⟩]
theorem nt_at (j : Nat) (h : j < 22) : ntC[j]? = some (.string (nt j)) := by
  match j, h with
  | 0, _ => exact rfl
  | 1, _ => exact rfl
  | 2, _ => exact rfl
  | 3, _ => exact rfl
  | 4, _ => exact rfl
  | 5, _ => exact rfl
  | 6, _ => exact rfl
  | 7, _ => exact rfl
  | 8, _ => exact rfl
  | 9, _ => exact rfl
  | 10, _ => exact rfl
  | 11, _ => exact rfl
  | 12, _ => exact rfl
  | 13, _ => exact rfl
  | 14, _ => exact rfl
  | 15, _ => exact rfl
  | 16, _ => exact rfl
  | 17, _ => exact rfl
  | 18, _ => exact rfl
  | 19, _ => exact rfl
  | 20, _ => exact rfl
  | 21, _ => exact rfl
  | j + 22, h => exact absurd h (by omega)
theorem nt_facts (j : Nat) (h : j < 22) : Wh.good (nt j) = false ∧ (nt j).size ≤ 30 := by
  have : ∀ i : Fin 22, Wh.good (nt i) = false ∧ (nt i).size ≤ 30 := by decide +kernel
  exact this ⟨j, h⟩
theorem nd_1969_1 (w : World) (h : Tb w) : Calls Tryd.prog 13 #[.int .i64 1969, .int .i64 1] w fun e w' => e = .returned (.int .i64 0) ∧ Below w.heap.size w w' := by
  have := days_any 1969 1 w h
  rwa [show Wh.dim 1969 1 = 0 by decide +kernel] at this
theorem nd_10000_1 (w : World) (h : Tb w) : Calls Tryd.prog 13 #[.int .i64 10000, .int .i64 1] w fun e w' => e = .returned (.int .i64 0) ∧ Below w.heap.size w w' := by
  have := days_any 10000 1 w h
  rwa [show Wh.dim 10000 1 = 0 by decide +kernel] at this
theorem nd_1970_0 (w : World) (h : Tb w) : Calls Tryd.prog 13 #[.int .i64 1970, .int .i64 0] w fun e w' => e = .returned (.int .i64 0) ∧ Below w.heap.size w w' := by
  have := days_any 1970 0 w h
  rwa [show Wh.dim 1970 0 = 0 by decide +kernel] at this
theorem nd_1970_13 (w : World) (h : Tb w) : Calls Tryd.prog 13 #[.int .i64 1970, .int .i64 13] w fun e w' => e = .returned (.int .i64 0) ∧ Below w.heap.size w w' := by
  have := days_any 1970 13 w h
  rwa [show Wh.dim 1970 13 = 0 by decide +kernel] at this
theorem nd_2000_2 (w : World) (h : Tb w) : Calls Tryd.prog 13 #[.int .i64 2000, .int .i64 2] w fun e w' => e = .returned (.int .i64 29) ∧ Below w.heap.size w w' := by
  have := days_any 2000 2 w h
  rwa [show Wh.dim 2000 2 = 29 by decide +kernel] at this
theorem nd_2100_2 (w : World) (h : Tb w) : Calls Tryd.prog 13 #[.int .i64 2100, .int .i64 2] w fun e w' => e = .returned (.int .i64 28) ∧ Below w.heap.size w w' := by
  have := days_any 2100 2 w h
  rwa [show Wh.dim 2100 2 = 28 by decide +kernel] at this

set_option maxRecDepth 100000 in
set_option maxHeartbeats 4000000 in
theorem whenNames_walk  (w : World)  (hT : Tb w) :
    Calls Tryd.prog 8 #[] w fun e w' => e = .returned (.bool true) ∧ Below w.heap.size w w' := by
  have hB : Hid (Below w.heap.size w w) := Below.refl _ _
  have HT := Lib.hid hT
  clear hT
  go_enter Tryd.func8, Tryd.ntmps8
  go_wp2_with fail
  refine (wawake_any _ (HT.out.to hB.out)).mono ?_
  rintro e w1 ⟨rfl, hb1⟩
  replace hB := Lib.hid (keep_trans hB.out hb1)
  clear hb1
  go_wp2_with fail
  refine (is_any 253402300799 9999 12 31 ⟨#[57, 57, 57, 57, 45, 49, 50, 45, 51, 49, 84, 50, 51, 58, 53, 57, 58, 53, 57, 90]⟩ _ (HT.out.to hB.out) (by decide) (by decide) (Wh.vd_mk (by decide +kernel)) (by decide +kernel) (by decide +kernel)).mono ?_
  rintro e w1 ⟨rfl, hb1⟩
  replace hB := Lib.hid (keep_trans hB.out hb1)
  clear hb1
  go_wp2_with fail
  refine (is_any 31535999 1970 12 31 ⟨#[49, 57, 55, 48, 45, 49, 50, 45, 51, 49, 84, 50, 51, 58, 53, 57, 58, 53, 57, 90]⟩ _ (HT.out.to hB.out) (by decide) (by decide) (Wh.vd_mk (by decide +kernel)) (by decide +kernel) (by decide +kernel)).mono ?_
  rintro e w1 ⟨rfl, hb1⟩
  replace hB := Lib.hid (keep_trans hB.out hb1)
  clear hb1
  go_wp2_with fail
  refine (is_any 68169601 1972 2 29 ⟨#[49, 57, 55, 50, 45, 48, 50, 45, 50, 57, 84, 48, 48, 58, 48, 48, 58, 48, 49, 90]⟩ _ (HT.out.to hB.out) (by decide) (by decide) (Wh.vd_mk (by decide +kernel)) (by decide +kernel) (by decide +kernel)).mono ?_
  rintro e w1 ⟨rfl, hb1⟩
  replace hB := Lib.hid (keep_trans hB.out hb1)
  clear hb1
  obtain ⟨wo, hwo⟩ : ∃ wo : World, wo = w1 := ⟨_, rfl⟩
  subst hwo
  have hs0 := hB.out.size
  go_wp2_with fail
  go_loopw [27] (fun i wx => ∃ j : Nat, j ≤ 22 ∧ i = .int .i64 j ∧ Hid (Bk wx wo.heap.size 9 ntC) ∧ Hid (Below w.heap.size w wx)) (fun i _ => 22 - (intOf i).toNat)
  case atStart => exact ⟨0, Nat.zero_le _, rfl, heap_alloc_new wo _, hB.out.alloc hs0 _⟩
  case round =>
    clear hB hs0
    obtain ⟨j, hj, rfl, hblk, hB⟩ := hrel
    by_cases hj9 : j < 22
    · have y1 := (hblk.out.cell j).trans (nt_at j hj9)
      have F := nt_facts j hj9
      have C := Lib.hid (fun W (h : Tb W) => no_any (nt j) W h (Nat.le_trans F.2 (by decide)) F.1)
      have hl := hblk.out.lt
      clear F
      generalize nt j = x at *
      go_wp2_with fail
      refine (C.out _ (HT.out.to hB.out)).mono ?_
      rintro e w2 ⟨rfl, hb2⟩
      have hK : Hid (Bk w2 wo.heap.size 9 ntC) := hblk.out.below hb2 hl
      have hB2 : Hid (Below w.heap.size w w2) := keep_trans hB.out hb2
      clear hb2 y1
      go_wp2_with fail
      go_roundw
      case rel => first | exact ⟨j + 1, by omega, by go_num, hK, hB2⟩ | ((repeat apply Exists.intro); exact ⟨⟨j + 1, by omega, by go_num, hK, hB2⟩, rfl⟩)
      case measure => simp [intOf]; omega
    · obtain rfl : j = 22 := by omega
      clear hblk hj hj9
      go_wp2_with fail
      refine (show_no (-1) _ (.inl (by omega))).mono ?_
      rintro e _ ⟨rfl, rfl⟩
      go_wp2_with fail
      refine (show_no 253402300800 _ (.inr (by omega))).mono ?_
      rintro e _ ⟨rfl, rfl⟩
      go_wp2_with fail
      refine (nd_1969_1 _ (HT.out.to hB.out)).mono ?_
      rintro e w1 ⟨rfl, hb1⟩
      replace hB := Lib.hid (keep_trans hB.out hb1)
      clear hb1
      go_wp2_with fail
      refine (nd_10000_1 _ (HT.out.to hB.out)).mono ?_
      rintro e w1 ⟨rfl, hb1⟩
      replace hB := Lib.hid (keep_trans hB.out hb1)
      clear hb1
      go_wp2_with fail
      refine (nd_1970_0 _ (HT.out.to hB.out)).mono ?_
      rintro e w1 ⟨rfl, hb1⟩
      replace hB := Lib.hid (keep_trans hB.out hb1)
      clear hb1
      go_wp2_with fail
      refine (nd_1970_13 _ (HT.out.to hB.out)).mono ?_
      rintro e w1 ⟨rfl, hb1⟩
      replace hB := Lib.hid (keep_trans hB.out hb1)
      clear hb1
      go_wp2_with fail
      refine (nd_2000_2 _ (HT.out.to hB.out)).mono ?_
      rintro e w1 ⟨rfl, hb1⟩
      replace hB := Lib.hid (keep_trans hB.out hb1)
      clear hb1
      go_wp2_with fail
      refine (nd_2100_2 _ (HT.out.to hB.out)).mono ?_
      rintro e w1 ⟨rfl, hb1⟩
      replace hB := Lib.hid (keep_trans hB.out hb1)
      clear hb1
      go_wp2_with fail
      refine (over_yes (-9223372036854775808) (-9223372036854775808) _ true (by decide)).mono ?_
      rintro e _ ⟨rfl, rfl⟩
      go_wp2_with fail
      refine (over_yes (-9223372036854775808) 9223372036854775807 _ true (by decide)).mono ?_
      rintro e _ ⟨rfl, rfl⟩
      go_wp2_with fail
      refine (over_yes 9223372036854775807 (-9223372036854775808) _ false (by decide)).mono ?_
      rintro e _ ⟨rfl, rfl⟩
      go_wp2_with fail
      go_ret
      exact ⟨rfl, hB.out⟩
end Go.Proofs.YtmpbejiknejogaaDoor
