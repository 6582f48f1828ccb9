/-
  The walks of sha.Sum and sha.Digest.
-/
import Derived.Test.YtflfmacfodkedaaDoorShaSum
import Derived.Test.YtflfmacfodkedaaDoorHexEnc
namespace Go.Proofs.YtflfmacfodkedaaDoor
set_option linter.unusedSimpArgs false
set_option linter.unusedVariables false
open Go Go.RowKit

/-- The SHA-256 of a string, as a string. -/
def shaS (s : ByteArray) : ByteArray := strN (Sh.sha (byt s))
theorem shaS_size (s : ByteArray) : (shaS s).size = 32 := by
  rw [← byt_len, shaS, byt_strN _ (Sh.sha_lt _)]; exact Sh.sha_len _
set_option maxRecDepth 20000 in
set_option maxHeartbeats 1000000 in
theorem shaSum_any (s : ByteArray) (w : World) (hT : Tb w) (hs : s.size ≤ 1099511627776) :
    Calls Tryd.prog 38 #[.string s] w fun e w' => e = .returned (.string (shaS s)) ∧ Below w.heap.size w w' := by
  go_enter Tryd.func38, Tryd.ntmps38
  go_wp2_with fail
  refine (new_any _ hT).mono ?_
  rintro e w1 ⟨rfl, hb1, hz1, hH1⟩
  have hT1 := hT.below hb1 hT.lt
  have hb1 := Lib.hid hb1
  have g1 : w.heap.size < w1.heap.size := by omega
  clear hz1
  go_wp2_with fail
  refine (write_any w.heap.size [] s w1 hH1 hT1 hT.lt (by rw [List.length_nil]; omega)).mono ?_
  rintro e w2 ⟨rfl, hG2, hH2⟩
  have hb2 := Lib.hid (below_one hb1.out hG2 (by omega) (fun g hg => by cases hg; exact Nat.le_refl _))
  have hT2 := hT.below hb2.out hT.lt
  rw [List.nil_append] at hH2
  have g2 : w.heap.size < w2.heap.size := Nat.lt_of_lt_of_le g1 hG2.size
  clear hG2 hH1 hT1
  go_wp2_with fail
  refine (sum_any w.heap.size (byt s) w2 hH2 hT2 (by rw [byt_len]; exact hs)).mono ?_
  rintro e w3 ⟨rfl, hb3⟩
  have hb3 := Lib.hid (hb2.out.trans (hb3.mono (by omega)))
  go_wp2_with fail
  go_ret
  exact ⟨rfl, hb3.out⟩
set_option maxRecDepth 20000 in
set_option maxHeartbeats 1000000 in
theorem digest_any (s : ByteArray) (w : World) (hT : Tb w) (hD : Digs w) (hs : s.size ≤ 1099511627776) :
    Calls Tryd.prog 31 #[.string s] w fun e w' => e = .returned (.string (Hx.enc (shaS s))) ∧ Below w.heap.size w w' := by
  go_enter Tryd.func31, Tryd.ntmps31
  go_wp2_with fail
  refine (shaSum_any s _ hT hs).mono ?_
  rintro e w1 ⟨rfl, hb1⟩
  have hD1 := hD.below hb1 hD.lt
  have hb1 := Lib.hid hb1
  have hz := shaS_size s
  have hz1 : (shaS s).size ≤ 1000000 := by omega
  clear hz
  go_wp2_with fail
  refine (encode_any _ w1 hz1 hD1).mono ?_
  rintro e w2 ⟨rfl, hb2⟩
  have hb2 := Lib.hid (keep_trans hb1.out hb2)
  go_wp2_with fail
  go_ret
  exact ⟨rfl, hb2.out⟩
end Go.Proofs.YtflfmacfodkedaaDoor
