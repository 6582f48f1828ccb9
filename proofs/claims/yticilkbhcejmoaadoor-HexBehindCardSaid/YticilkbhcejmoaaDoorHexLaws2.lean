/-
  The statements HexBack, HexBehind and HexRise, walked: they return true.
-/
import Derived.Test.YticilkbhcejmoaaDoorHexAwake
import Derived.Test.YticilkbhcejmoaaDoorHexLaw
namespace Go.Proofs.YticilkbhcejmoaaDoor
open Go Go.RowKit Go.Sort

set_option maxHeartbeats 1000000 in
theorem hexBehind_walk (s t : ByteArray) (w : World) (hs : s.size ≤ maxLen) (ht : t.size ≤ maxLen) (hD : Digs w) :
    Calls Tryd.prog 7 #[.string s, .string t] w fun e w' => e = .returned (.bool true) ∧ Below w.heap.size w w' := by
  have big : 3000 < s.size ∨ (¬ 3000 < s.size ∧ 3000 < t.size) ∨ (¬ 3000 < s.size ∧ ¬ 3000 < t.size) := by omega
  rcases big with h | ⟨h, h'⟩ | ⟨h, h'⟩
  · go_enter Tryd.func7, Tryd.ntmps7
    go_wp2_with fail
    refine (awake_any _ hD).mono ?_
    rintro e w1 ⟨rfl, hb1⟩
    go_wp2_with fail
    go_ret
    exact ⟨rfl, hb1⟩
  · go_enter Tryd.func7, Tryd.ntmps7
    go_wp2_with fail
    refine (awake_any _ hD).mono ?_
    rintro e w1 ⟨rfl, hb1⟩
    go_wp2_with fail
    go_ret
    exact ⟨rfl, hb1⟩
  · have hst : (s ++ t).size = s.size + t.size := Hx.app_size s t
    have hl : (s ++ t).size ≤ 1000000 := by omega
    have hl' : (s ++ t).size ≤ maxLen := by unfold maxLen; omega
    have hst := Lib.hid hst
    have k1 : ((Hx.enc (s ++ t)).toList == (Hx.enc s ++ Hx.enc t).toList) = true := by rw [Hx.enc_app]; simp
    have k2 := Lib.hid (Hx.isHex_app s t)
    have k3 : (Hx.enc s).size + (Hx.enc t).size ≤ 100000 := by rw [Hx.enc_size, Hx.enc_size]; omega
    go_enter Tryd.func7, Tryd.ntmps7
    go_wp2_with fail
    refine (awake_any _ hD).mono ?_
    rintro e w1 ⟨rfl, hb1⟩
    have hD1 := hD.below hb1 hD.lt
    have hb1 := Lib.hid hb1
    go_wp2_with fail
    refine (encode_any (s ++ t) _ hl hD1).mono ?_
    rintro e w2 ⟨rfl, hb2⟩
    have hD2 := hD1.below hb2 hD1.lt
    have hb2 := Lib.hid (keep_trans hb1.out hb2)
    go_wp2_with fail
    refine (encode_any s _ (by omega) hD2).mono ?_
    rintro e w3 ⟨rfl, hb3⟩
    have hD3 := hD2.below hb3 hD2.lt
    have hb3 := Lib.hid (keep_trans hb2.out hb3)
    go_wp2_with fail
    refine (encode_any t _ (by omega) hD3).mono ?_
    rintro e w4 ⟨rfl, hb4⟩
    have hb4 := Lib.hid (keep_trans hb3.out hb4)
    go_wp2_with fail
    refine (is_any (s ++ t) _ hl').mono ?_
    rintro e _ ⟨rfl, rfl⟩
    rw [k2.out]
    cases e1 : Hx.isHex s with
    | false =>
      go_wp2_with fail
      refine (is_any s _ hs).mono ?_
      rintro e _ ⟨rfl, rfl⟩
      rw [e1]
      go_wp2_with fail
      go_ret
      exact ⟨rfl, hb4.out⟩
    | true =>
      go_wp2_with fail
      refine (is_any s _ hs).mono ?_
      rintro e _ ⟨rfl, rfl⟩
      rw [e1]
      go_wp2_with fail
      refine (is_any t _ ht).mono ?_
      rintro e _ ⟨rfl, rfl⟩
      go_wp2_with fail
      go_ret
      exact ⟨rfl, hb4.out⟩

set_option maxHeartbeats 1000000 in
theorem hexBack_walk (s t : ByteArray) (w : World) (hs : s.size ≤ maxLen) (ht : t.size ≤ maxLen) (hD : Digs w) :
    Calls Tryd.prog 6 #[.string s, .string t] w fun e w' => e = .returned (.bool true) ∧ Below w.heap.size w w' := by
  have big : 3000 < s.size ∨ (¬ 3000 < s.size ∧ 3000 < t.size) ∨ (¬ 3000 < s.size ∧ ¬ 3000 < t.size) := by omega
  rcases big with h | ⟨h, h'⟩ | ⟨h, h'⟩
  · go_enter Tryd.func6, Tryd.ntmps6
    go_wp2_with fail
    refine (awake_any _ hD).mono ?_
    rintro e w1 ⟨rfl, hb1⟩
    go_wp2_with fail
    go_ret
    exact ⟨rfl, hb1⟩
  · go_enter Tryd.func6, Tryd.ntmps6
    go_wp2_with fail
    refine (awake_any _ hD).mono ?_
    rintro e w1 ⟨rfl, hb1⟩
    go_wp2_with fail
    go_ret
    exact ⟨rfl, hb1⟩
  · obtain ⟨k1, k2⟩ := Hx.dec_enc s
    have k3 := Lib.hid (Hx.enc_isHex s)
    have k4 := Hx.enc_size s
    have k5 : (Hx.enc s).size ≤ 1000000 := by omega
    have k6 : (Hx.enc s).size ≤ maxLen := by unfold maxLen; omega
    have k4 : ((Hx.enc s).size : Int) = 2 * (s.size : Int) := by omega
    have k1 := Lib.hid k1
    have k2 := Lib.hid k2
    by_cases hz : Hx.decE t = 0
    · have q1 : (Hx.dec t).size ≤ 1000000 := by rw [Hx.dec_size t hz]; omega
      have q2 := Lib.hid (Hx.enc_dec t hz)
      have hz := Lib.hid hz
      go_enter Tryd.func6, Tryd.ntmps6
      go_wp2_with fail
      refine (awake_any _ hD).mono ?_
      rintro e w1 ⟨rfl, hb1⟩
      have hD1 := hD.below hb1 hD.lt
      have hb1 := Lib.hid hb1
      go_wp2_with fail
      refine (encode_any s _ (by omega) hD1).mono ?_
      rintro e w2 ⟨rfl, hb2⟩
      have hD2 := hD1.below hb2 hD1.lt
      have hb2 := Lib.hid (keep_trans hb1.out hb2)
      go_wp2_with fail
      refine (decode_any (Hx.enc s) _ k5).mono ?_
      rintro e w3 ⟨rfl, hb3⟩
      rw [k1.out, k2.out]
      have hD3 := hD2.below hb3 hD2.lt
      have hb3 := Lib.hid (keep_trans hb2.out hb3)
      go_wp2_with fail
      refine (decode_any t _ (by omega)).mono ?_
      rintro e w4 ⟨rfl, hb4⟩
      rw [hz.out]
      have hD4 := hD3.below hb4 hD3.lt
      have hb4 := Lib.hid (keep_trans hb3.out hb4)
      go_wp2_with fail
      refine (is_any (Hx.enc s) _ k6).mono ?_
      rintro e _ ⟨rfl, rfl⟩
      rw [k3.out]
      go_wp2_with fail
      refine (encode_any (Hx.dec t) _ q1 hD4).mono ?_
      rintro e w5 ⟨rfl, hb5⟩
      rw [q2.out]
      have hb5 := Lib.hid (keep_trans hb4.out hb5)
      go_wp2_with fail
      go_ret
      exact ⟨rfl, hb5.out⟩
    · have q2 := Lib.hid (Hx.dec_no t hz)
      have hz1 : (Hx.decE t == 0) = false := by rw [beq_eq_false_iff_ne]; exact hz
      have hz2 : (Hx.decE t != 0) = true := by rw [bne_iff_ne]; exact hz
      have hz := Lib.hid hz
      go_enter Tryd.func6, Tryd.ntmps6
      go_wp2_with fail
      refine (awake_any _ hD).mono ?_
      rintro e w1 ⟨rfl, hb1⟩
      have hD1 := hD.below hb1 hD.lt
      have hb1 := Lib.hid hb1
      go_wp2_with fail
      refine (encode_any s _ (by omega) hD1).mono ?_
      rintro e w2 ⟨rfl, hb2⟩
      have hD2 := hD1.below hb2 hD1.lt
      have hb2 := Lib.hid (keep_trans hb1.out hb2)
      go_wp2_with fail
      refine (decode_any (Hx.enc s) _ k5).mono ?_
      rintro e w3 ⟨rfl, hb3⟩
      rw [k1.out, k2.out]
      have hD3 := hD2.below hb3 hD2.lt
      have hb3 := Lib.hid (keep_trans hb2.out hb3)
      go_wp2_with fail
      refine (decode_any t _ (by omega)).mono ?_
      rintro e w4 ⟨rfl, hb4⟩
      rw [q2.out]
      have hb4 := Lib.hid (keep_trans hb3.out hb4)
      go_wp2_with fail
      refine (is_any (Hx.enc s) _ k6).mono ?_
      rintro e _ ⟨rfl, rfl⟩
      rw [k3.out]
      go_wp2_with fail
      go_ret
      exact ⟨rfl, hb4.out⟩

end Go.Proofs.YticilkbhcejmoaaDoor
