/-
  The statement HexRise, walked: it returns true.
-/
import Derived.Test.YticilkbhcejmoaaDoorHexAwake
import Derived.Test.YticilkbhcejmoaaDoorHexLaw
namespace Go.Proofs.YticilkbhcejmoaaDoor
open Go Go.RowKit Go.Sort

set_option maxHeartbeats 1000000 in
theorem hexRise_walk (s t : ByteArray) (w : World) (hs : s.size ≤ maxLen) (ht : t.size ≤ maxLen) (hD : Digs w) :
    Calls Tryd.prog 8 #[.string s, .string t] w fun e w' => e = .returned (.bool true) ∧ Below w.heap.size w w' := by
  unfold maxLen at hs ht
  have hc : (s.size ≤ t.size ∧ s.size ≤ 3000) ∨ (t.size < s.size ∧ t.size ≤ 3000) ∨ (3000 < s.size ∧ 3000 < t.size) := by omega
  rcases hc with ⟨h1, h2⟩ | ⟨h1, h2⟩ | ⟨h1, h2⟩
  · have z1 : (s : ByteArray).size ≤ 1000000 := by (try rw [ByteArray.size_extract]); omega
    have z2 : (t.extract 0 s.size : ByteArray).size ≤ 1000000 := by (try rw [ByteArray.size_extract]); omega
    have k1 := Lib.hid (Hx.enc_less (s) (t.extract 0 s.size))
    have k2 := Lib.hid (Hx.enc_inj (s) (t.extract 0 s.size))
    go_enter Tryd.func8, Tryd.ntmps8
    go_wp2_with fail
    go_quiet (fail)
    have hDq : Digs (w.drewN nq) := hD
    have hbq := Lib.hid (below_drewN (Below.refl w.heap.size w) nq)
    go_wp2_with fail
    refine (encode_any (s) _ z1 hDq).mono ?_
    rintro e w1 ⟨rfl, hb1⟩
    have hD1 := hDq.below hb1 hDq.lt
    have hb1 := Lib.hid (keep_trans hbq.out hb1)
    go_wp2_with fail
    refine (encode_any (t.extract 0 s.size) _ z2 hD1).mono ?_
    rintro e w2 ⟨rfl, hb2⟩
    have hD2 := hD1.below hb2 hD1.lt
    have hb2 := Lib.hid (keep_trans hb1.out hb2)
    have k1 := k1.out
    have k2 := k2.out
    go_wp2_with fail
    refine (awake_any _ hD2).mono ?_
    rintro e w3 ⟨rfl, hb3⟩
    have hb3 := Lib.hid (keep_trans hb2.out hb3)
    clear k1 k2
    go_wp2_with fail
    go_ret
    exact ⟨rfl, hb3.out⟩
  · have z1 : (s.extract 0 t.size : ByteArray).size ≤ 1000000 := by (try rw [ByteArray.size_extract]); omega
    have z2 : (t : ByteArray).size ≤ 1000000 := by (try rw [ByteArray.size_extract]); omega
    have k1 := Lib.hid (Hx.enc_less (s.extract 0 t.size) (t))
    have k2 := Lib.hid (Hx.enc_inj (s.extract 0 t.size) (t))
    go_enter Tryd.func8, Tryd.ntmps8
    go_wp2_with fail
    go_quiet (fail)
    have hDq : Digs (w.drewN nq) := hD
    have hbq := Lib.hid (below_drewN (Below.refl w.heap.size w) nq)
    go_wp2_with fail
    refine (encode_any (s.extract 0 t.size) _ z1 hDq).mono ?_
    rintro e w1 ⟨rfl, hb1⟩
    have hD1 := hDq.below hb1 hDq.lt
    have hb1 := Lib.hid (keep_trans hbq.out hb1)
    go_wp2_with fail
    refine (encode_any (t) _ z2 hD1).mono ?_
    rintro e w2 ⟨rfl, hb2⟩
    have hD2 := hD1.below hb2 hD1.lt
    have hb2 := Lib.hid (keep_trans hb1.out hb2)
    have k1 := k1.out
    have k2 := k2.out
    go_wp2_with fail
    refine (awake_any _ hD2).mono ?_
    rintro e w3 ⟨rfl, hb3⟩
    have hb3 := Lib.hid (keep_trans hb2.out hb3)
    clear k1 k2
    go_wp2_with fail
    go_ret
    exact ⟨rfl, hb3.out⟩
  · have z1 : (s.extract 0 3000 : ByteArray).size ≤ 1000000 := by (try rw [ByteArray.size_extract]); omega
    have z2 : (t.extract 0 3000 : ByteArray).size ≤ 1000000 := by (try rw [ByteArray.size_extract]); omega
    have k1 := Lib.hid (Hx.enc_less (s.extract 0 3000) (t.extract 0 3000))
    have k2 := Lib.hid (Hx.enc_inj (s.extract 0 3000) (t.extract 0 3000))
    go_enter Tryd.func8, Tryd.ntmps8
    go_wp2_with fail
    go_quiet (fail)
    have hDq : Digs (w.drewN nq) := hD
    have hbq := Lib.hid (below_drewN (Below.refl w.heap.size w) nq)
    go_wp2_with fail
    refine (encode_any (s.extract 0 3000) _ z1 hDq).mono ?_
    rintro e w1 ⟨rfl, hb1⟩
    have hD1 := hDq.below hb1 hDq.lt
    have hb1 := Lib.hid (keep_trans hbq.out hb1)
    go_wp2_with fail
    refine (encode_any (t.extract 0 3000) _ z2 hD1).mono ?_
    rintro e w2 ⟨rfl, hb2⟩
    have hD2 := hD1.below hb2 hD1.lt
    have hb2 := Lib.hid (keep_trans hb1.out hb2)
    have k1 := k1.out
    have k2 := k2.out
    go_wp2_with fail
    refine (awake_any _ hD2).mono ?_
    rintro e w3 ⟨rfl, hb3⟩
    have hb3 := Lib.hid (keep_trans hb2.out hb3)
    clear k1 k2
    go_wp2_with fail
    go_ret
    exact ⟨rfl, hb3.out⟩
end Go.Proofs.YticilkbhcejmoaaDoor
