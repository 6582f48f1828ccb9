/-
  The examples of the statements on hex: awake returns true.
-/
import Derived.Test.YticilkbhcejmoaaDoorHexNum
import Derived.Test.YticilkbhcejmoaaDoorHexDec
import Derived.Test.YticilkbhcejmoaaDoorHexEnc
import Derived.Test.YticilkbhcejmoaaDoorHexDigits
namespace Go.Proofs.YticilkbhcejmoaaDoor
open Go Go.RowKit Go.Sort

theorem awake_c1 : ∀ w, Calls Tryd.prog 12 #[.string ⟨#[48, 48, 70, 70]⟩] w fun e w' => e = .returned (.tuple #[.string ByteArray.empty, .int .i64 3]) ∧ Below w.heap.size w w' := fun w => decode_any _ w (by decide)
theorem awake_c2 : ∀ w, Calls Tryd.prog 12 #[.string ⟨#[48]⟩] w fun e w' => e = .returned (.tuple #[.string ByteArray.empty, .int .i64 4]) ∧ Below w.heap.size w w' := fun w => decode_any _ w (by decide)
theorem awake_c3 : ∀ w, Calls Tryd.prog 12 #[.string ⟨#[120]⟩] w fun e w' => e = .returned (.tuple #[.string ByteArray.empty, .int .i64 3]) ∧ Below w.heap.size w w' := fun w => decode_any _ w (by decide)
theorem awake_c4 : ∀ w, Calls Tryd.prog 11 #[.string ⟨#[102, 102]⟩] w fun e w' => e = .returned (.tuple #[.int .u64 255, .int .i64 0]) ∧ w = w' := fun w => number_any _ w (by decide)
theorem awake_c5 : ∀ w, Calls Tryd.prog 11 #[.string ⟨#[48, 48, 48, 48, 48, 48, 48, 48, 48, 48, 48, 48, 48, 48, 48, 48, 102, 102]⟩] w fun e w' => e = .returned (.tuple #[.int .u64 0, .int .i64 5]) ∧ w = w' := fun w => number_any _ w (by decide)
theorem awake_c6 : ∀ w, Digs w → Calls Tryd.prog 10 #[.string ⟨#[0, 255, 26]⟩] w fun e w' => e = .returned (.string ⟨#[48, 48, 102, 102, 49, 97]⟩) ∧ Below w.heap.size w w' := fun w h => encode_any _ w (by decide) h
theorem awake_c7 : ∀ w, Digs w → Calls Tryd.prog 15 #[.int .u64 255, .int .i64 1] w fun e w' => e = .returned (.string ⟨#[102, 102]⟩) ∧ Below w.heap.size w w' := fun w h => digits_any 255 1 w (by decide) h
theorem awake_c8 : ∀ w, Digs w → Calls Tryd.prog 15 #[.int .u64 255, .int .i64 4] w fun e w' => e = .returned (.string ⟨#[48, 48, 102, 102]⟩) ∧ Below w.heap.size w w' := fun w h => digits_any 255 4 w (by decide) h
theorem awake_c9 : ∀ w, Digs w → Calls Tryd.prog 15 #[.int .u64 0, .int .i64 0] w fun e w' => e = .returned (.string ⟨#[48]⟩) ∧ Below w.heap.size w w' := fun w h => digits_any 0 0 w (by decide) h

set_option maxHeartbeats 1000000 in
theorem awake_any (w : World) (hD : Digs w) :
    Calls Tryd.prog 9 #[] w fun e w' => e = .returned (.bool true) ∧ Below w.heap.size w w' := by
  go_enter Tryd.func9, Tryd.ntmps9
  go_wp2_with fail
  refine (awake_c1 _).mono ?_
  rintro e w1 ⟨rfl, hb1⟩
  have hD1 : Digs w1 := Digs.below hD hb1 (Digs.lt hD)
  have hB1 : Below w.heap.size w w1 := keep_trans (Below.refl _ _) hb1
  have hB1 := Lib.hid hB1
  clear hb1
  go_wp2_with fail
  refine (awake_c2 _).mono ?_
  rintro e w2 ⟨rfl, hb2⟩
  have hD2 : Digs w2 := Digs.below hD1 hb2 (Digs.lt hD1)
  have hB2 : Below w.heap.size w w2 := keep_trans hB1.out hb2
  have hB2 := Lib.hid hB2
  clear hb2
  go_wp2_with fail
  refine (awake_c3 _).mono ?_
  rintro e w3 ⟨rfl, hb3⟩
  have hD3 : Digs w3 := Digs.below hD2 hb3 (Digs.lt hD2)
  have hB3 : Below w.heap.size w w3 := keep_trans hB2.out hb3
  have hB3 := Lib.hid hB3
  clear hb3
  go_wp2_with fail
  refine (awake_c4 _).mono ?_
  rintro e _ ⟨rfl, rfl⟩
  go_wp2_with fail
  refine (awake_c5 _).mono ?_
  rintro e _ ⟨rfl, rfl⟩
  go_wp2_with fail
  refine (awake_c6 _ hD3).mono ?_
  rintro e w4 ⟨rfl, hb4⟩
  have hD4 : Digs w4 := Digs.below hD3 hb4 (Digs.lt hD3)
  have hB4 : Below w.heap.size w w4 := keep_trans hB3.out hb4
  have hB4 := Lib.hid hB4
  clear hb4
  go_wp2_with fail
  refine (awake_c7 _ hD4).mono ?_
  rintro e w5 ⟨rfl, hb5⟩
  have hD5 : Digs w5 := Digs.below hD4 hb5 (Digs.lt hD4)
  have hB5 : Below w.heap.size w w5 := keep_trans hB4.out hb5
  have hB5 := Lib.hid hB5
  clear hb5
  go_wp2_with fail
  refine (awake_c8 _ hD5).mono ?_
  rintro e w6 ⟨rfl, hb6⟩
  have hD6 : Digs w6 := Digs.below hD5 hb6 (Digs.lt hD5)
  have hB6 : Below w.heap.size w w6 := keep_trans hB5.out hb6
  have hB6 := Lib.hid hB6
  clear hb6
  go_wp2_with fail
  refine (awake_c9 _ hD6).mono ?_
  rintro e w7 ⟨rfl, hb7⟩
  have hD7 : Digs w7 := Digs.below hD6 hb7 (Digs.lt hD6)
  have hB7 : Below w.heap.size w w7 := keep_trans hB6.out hb7
  have hB7 := Lib.hid hB7
  clear hb7
  go_wp2_with fail
  go_ret
  exact ⟨rfl, hB7.out⟩
end Go.Proofs.YticilkbhcejmoaaDoor
