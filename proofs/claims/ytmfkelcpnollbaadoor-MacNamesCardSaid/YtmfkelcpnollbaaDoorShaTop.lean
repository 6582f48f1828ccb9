/-
  The walks of sha.Sum and sha.Digest.
-/
import Derived.Test.YtmfkelcpnollbaaDoorShaSum
import Derived.Test.YtmfkelcpnollbaaDoorHexEnc
namespace Go.Proofs.YtmfkelcpnollbaaDoor
set_option linter.unusedSimpArgs false
set_option linter.unusedVariables false
open Go Go.RowKit

/-- The SHA-256 of a string, as a string. -/
def shaS (s : ByteArray) : ByteArray := strN (Sh.sha (byt s))
theorem shaS_size (s : ByteArray) : (shaS s).size = 32 := by
  rw [← byt_len, shaS, byt_strN _ (Sh.sha_lt _)]; exact Sh.sha_len _
set_option maxHeartbeats 1000000 in
theorem shaSum_any (s : ByteArray) (w : World) (hT : Tb w) (hs : s.size ≤ 1099511627776) :
    Calls Tryd.prog 16 #[.string s] w fun e w' => e = .returned (.string (shaS s)) ∧ Below w.heap.size w w' := by
  go_enter Tryd.func16, Tryd.ntmps16
  go_wp2_with fail
  refine (new_any _ hT).mono ?_
  rintro e w1 ⟨rfl, hb1, hz1, hH1⟩
  have hT1 := hT.below hb1 hT.lt
  have hb1 := Lib.hid hb1
  have g1 : w.heap.size < w1.heap.size := by omega
  clear hz1
  go_wp2_with fail
  refine (write_any w.heap.size [] s w1 hH1 hT1 hT.lt (by rw [List.length_nil]; omega)).mono ?_
  rintro e w2 ⟨rfl, hG2, hH2⟩
  have hb2 := Lib.hid (below_one hb1.out hG2 (by omega) (fun g hg => by cases hg; exact Nat.le_refl _))
  have hT2 := hT.below hb2.out hT.lt
  rw [List.nil_append] at hH2
  have g2 : w.heap.size < w2.heap.size := Nat.lt_of_lt_of_le g1 hG2.size
  clear hG2 hH1 hT1
  go_wp2_with fail
  refine (sum_any w.heap.size (byt s) w2 hH2 hT2 (by rw [byt_len]; exact hs)).mono ?_
  rintro e w3 ⟨rfl, hb3⟩
  have hb3 := Lib.hid (hb2.out.trans (hb3.mono (by omega)))
  go_wp2_with fail
  go_ret
  exact ⟨rfl, hb3.out⟩
end Go.Proofs.YtmfkelcpnollbaaDoor
