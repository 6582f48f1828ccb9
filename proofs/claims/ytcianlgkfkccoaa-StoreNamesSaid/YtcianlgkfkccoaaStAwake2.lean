/-
  awake returns true.
-/
import Derived.Test.YtcianlgkfkccoaaStAwake
namespace Go.Proofs.Ytcianlgkfkccoaa
set_option linter.unusedSimpArgs false
set_option linter.unusedVariables false
open Go Go.RowKit

theorem ax1 : St.get exF [] ⟨#[97]⟩ 3 = [x1] ∧ getV exF [] ⟨#[97]⟩ 3 = .tuple #[.string ⟨#[120, 121, 122]⟩, .int .i64 3, .int .i64 0] := ⟨by kernel_rfl, by kernel_rfl⟩
theorem ax2 : St.get exF [x1] ⟨#[97]⟩ 1 = [x1] ∧ getV exF [x1] ⟨#[97]⟩ 1 = .tuple #[.string ⟨#[120, 121, 122]⟩, .int .i64 3, .int .i64 0] := ⟨by kernel_rfl, by kernel_rfl⟩
theorem ax3 : St.get exF [x1] ⟨#[98]⟩ 0 = [x1, x2] ∧ getV exF [x1] ⟨#[98]⟩ 0 = .tuple #[.string ⟨#[]⟩, .int .i64 0, .int .i64 0] := ⟨by kernel_rfl, by kernel_rfl⟩
theorem ax4 : St.get exF [x1, x2] ⟨#[99]⟩ 5 = [x1, x2, x3] ∧ getV exF [x1, x2] ⟨#[99]⟩ 5 = .tuple #[.string ⟨#[]⟩, .int .i64 (-1), .int .i64 0] := ⟨by kernel_rfl, by kernel_rfl⟩
theorem ay1 : St.get exF [] ⟨#[97]⟩ 2 = [y1] ∧ getV exF [] ⟨#[97]⟩ 2 = .tuple #[.string ⟨#[]⟩, .int .i64 (-2), .int .i64 0] := ⟨by kernel_rfl, by kernel_rfl⟩
theorem ay2 : St.get exF [y1] ⟨#[97]⟩ 3 = [y1] ∧ getV exF [y1] ⟨#[97]⟩ 3 = .tuple #[.string ⟨#[]⟩, .int .i64 (-2), .int .i64 0] := ⟨by kernel_rfl, by kernel_rfl⟩
theorem ax_row (w : World) : (w.alloc (.cells #[.string ⟨#[114]⟩, .string ⟨#[97]⟩, .int .i64 3, .int .i64 3, .string ⟨#[114]⟩, .string ⟨#[98]⟩, .int .i64 0, .int .i64 0, .string ⟨#[114]⟩, .string ⟨#[99]⟩, .int .i64 5, .int .i64 (-1)] 41)).ownsRow 0 41 4 (.slice (some ⟨w.heap.size, 0, none⟩) 3 3) ([x1, x2, x3] : List St.En).length (fetC ⟨#[114]⟩ [x1, x2, x3]) :=
  ⟨rfl, .inr ⟨w.heap.size, 3, _, rfl, Nat.zero_le _, heap_alloc_new w _, Nat.le_refl _, by decide, rfl, rfl⟩⟩

set_option maxRecDepth 100000 in
set_option maxHeartbeats 4000000 in
theorem awake_any (w : World) : Calls Try.prog 13 #[] w fun e w' => e = .returned (.bool true) ∧ Below w.heap.size w w' := by
  go_enter Try.func13, Try.ntmps13
  go_wp2_with fail
  refine (ex_any _).mono ?_
  rintro e w1 ⟨A, c, rfl, hF, hb⟩
  have HF := Lib.hid hF
  have HB := Lib.hid hb
  clear hF hb
  go_wp2_with fail
  refine (new_ok ⟨#[114]⟩ A exF c _ (by decide) role_r HF.out (by decide) exF_small).mono ?_
  rintro e w2 ⟨g, rfl, hf, hb⟩
  have H := Lib.hid (One.made HB.out hf hb)
  clear hf hb HF HB
  go_wp2_with fail
  refine (came_yes H.out _ _ _ _ ax1.1 ax1.2 (by decide) (by decide) (by decide)).mono ?_
  rintro e w3 ⟨rfl, h⟩
  have H := Lib.hid h
  clear h
  go_wp2_with fail
  refine (came_yes H.out _ _ _ _ ax2.1 ax2.2 (by decide) (by decide) (by decide)).mono ?_
  rintro e w4 ⟨rfl, h⟩
  have H := Lib.hid h
  clear h
  go_wp2_with fail
  refine (came_yes H.out _ _ _ _ ax3.1 ax3.2 (by decide) (by decide) (by decide)).mono ?_
  rintro e w5 ⟨rfl, h⟩
  have H := Lib.hid h
  clear h
  go_wp2_with fail
  refine (came_yes H.out _ _ _ _ ax4.1 ax4.2 (by decide) (by decide) (by decide)).mono ?_
  rintro e w6 ⟨rfl, h⟩
  have H := Lib.hid h
  clear h
  go_wp2_with fail
  refine (one_fetched H.out (by decide)).mono ?_
  rintro e w7 ⟨v, rfl, hown, hb⟩
  have H := Lib.hid (H.out.later hb)
  have HO := Lib.hid hown
  obtain ⟨va, vl, vc, rfl⟩ := own_slice hown
  clear hown hb
  go_wp2_with fail
  refine (same_own _ _ _ _ ⟨#[114]⟩ [x1, x2, x3] _ (HO.out.alloc _) (ax_row _) (by decide)).mono ?_
  rintro e w8 ⟨rfl, hb⟩
  have HB := Lib.hid ((H.out.later ((Below.refl _ _).alloc (Nat.le_refl _) _)).later hb).1
  clear hb
  go_wp2_with fail
  refine (ex_any _).mono ?_
  rintro e w9 ⟨A', c', rfl, hF, hb⟩
  have HF := Lib.hid hF
  have HB := Lib.hid (HB.out.trans (hb.mono HB.out.size))
  clear hF hb
  go_wp2_with fail
  refine (new_ok ⟨#[114]⟩ A' exF c' _ (by decide) role_r HF.out (by decide) exF_small).mono ?_
  rintro e w10 ⟨g', rfl, hf, hb⟩
  have H := Lib.hid (One.made HB.out hf hb)
  clear hf hb HF HB
  go_wp2_with fail
  refine (came_yes H.out _ _ _ _ ay1.1 ay1.2 (by decide) (by decide) (by decide)).mono ?_
  rintro e w11 ⟨rfl, h⟩
  have H := Lib.hid h
  clear h
  go_wp2_with fail
  refine (came_yes H.out _ _ _ _ ay2.1 ay2.2 (by decide) (by decide) (by decide)).mono ?_
  rintro e w12 ⟨rfl, h⟩
  have H := Lib.hid h.1
  clear h
  go_wp2_with fail
  go_ret
  exact ⟨rfl, H.out⟩
end Go.Proofs.Ytcianlgkfkccoaa
