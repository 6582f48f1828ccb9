/-
  The statements HexTells and HexReads, walked: they return true.
-/
import Derived.Test.YticilkbhcejmoaaDoorHexAwake
import Derived.Test.YticilkbhcejmoaaDoorRefHexMem
namespace Go.Proofs.YticilkbhcejmoaaDoor
open Go Go.RowKit Go.Sort

set_option maxHeartbeats 1000000 in
theorem hexTells_walk (s : ByteArray) (i : Int) (w : World) (hs : s.size ≤ maxLen) (hD : Digs w) :
    Calls Tryd.prog 4 #[.string s, .int .i64 i] w fun e w' => e = .returned (.bool true) ∧ Below w.heap.size w w' := by
  by_cases h : 3000 < s.size
  · go_enter Tryd.func4, Tryd.ntmps4
    go_wp2_with fail
    refine (awake_any _ hD).mono ?_
    rintro e w1 ⟨rfl, hb1⟩
    go_wp2_with fail
    go_ret
    exact ⟨rfl, hb1⟩
  · go_enter Tryd.func4, Tryd.ntmps4
    go_wp2_with fail
    refine (digit_any s i _ hs).mono ?_
    rintro e _ ⟨rfl, rfl⟩
    go_wp2_with fail
    refine (rdigit_any s i _ hs).mono ?_
    rintro e _ ⟨rfl, rfl⟩
    go_wp2_with fail
    refine (encode_any s _ (by omega) hD).mono ?_
    rintro e w1 ⟨rfl, hb1⟩
    have hD1 := hD.below hb1 hD.lt
    have hb1 := Lib.hid hb1
    go_wp2_with fail
    refine (rencode_any s _ (by omega)).mono ?_
    rintro e w2 ⟨rfl, hb2⟩
    have hD2 := hD1.below hb2 hD1.lt
    have hb2 := Lib.hid (keep_trans hb1.out hb2)
    go_wp2_with fail
    refine (is_any s _ hs).mono ?_
    rintro e _ ⟨rfl, rfl⟩
    go_wp2_with fail
    refine (ris_any s _ hs).mono ?_
    rintro e _ ⟨rfl, rfl⟩
    go_wp2_with fail
    refine (awake_any _ hD2).mono ?_
    rintro e w3 ⟨rfl, hb3⟩
    have hb3 := Lib.hid (keep_trans hb2.out hb3)
    go_wp2_with fail
    go_ret
    exact ⟨rfl, hb3.out⟩

set_option maxHeartbeats 1000000 in
theorem hexReads_walk (s : ByteArray) (w : World) (hs : s.size ≤ maxLen) (hD : Digs w) :
    Calls Tryd.prog 5 #[.string s] w fun e w' => e = .returned (.bool true) ∧ Below w.heap.size w w' := by
  by_cases h : 3000 < s.size
  · go_enter Tryd.func5, Tryd.ntmps5
    go_wp2_with fail
    refine (awake_any _ hD).mono ?_
    rintro e w1 ⟨rfl, hb1⟩
    go_wp2_with fail
    go_ret
    exact ⟨rfl, hb1⟩
  · go_enter Tryd.func5, Tryd.ntmps5
    go_wp2_with fail
    refine (decode_any s _ (by omega)).mono ?_
    rintro e w1 ⟨rfl, hb1⟩
    have hD1 := hD.below hb1 hD.lt
    have hb1 := Lib.hid hb1
    go_wp2_with fail
    refine (rdecode_any s _ (by omega)).mono ?_
    rintro e w2 ⟨rfl, hb2⟩
    have hD2 := hD1.below hb2 hD1.lt
    have hb2 := Lib.hid (keep_trans hb1.out hb2)
    go_wp2_with fail
    refine (number_any s _ hs).mono ?_
    rintro e _ ⟨rfl, rfl⟩
    go_wp2_with fail
    refine (rnumber_any s _ hs).mono ?_
    rintro e _ ⟨rfl, rfl⟩
    go_wp2_with fail
    refine (awake_any _ hD2).mono ?_
    rintro e w3 ⟨rfl, hb3⟩
    have hb3 := Lib.hid (keep_trans hb2.out hb3)
    go_wp2_with fail
    go_ret
    exact ⟨rfl, hb3.out⟩
end Go.Proofs.YticilkbhcejmoaaDoor
