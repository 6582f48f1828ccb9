/-
  The statement MacNames, walked: it returns true.
-/
import Derived.Test.YtmfkelcpnollbaaDoorMacLaws1
namespace Go.Proofs.YtmfkelcpnollbaaDoor
set_option linter.unusedSimpArgs false
set_option linter.unusedVariables false
open Go Go.RowKit

def intsV : Array Value := #[.int .i64 0, .int .i64 1, .int .i64 63, .int .i64 64, .int .i64 65, .int .i64 200]
def lnK (k : Nat) : Nat := [0, 1, 63, 64, 65, 200].getD k 0
theorem lnK_at (k : Nat) (h : k < 6) : intsV[k]? = some (.int .i64 ((lnK k : Nat) : Int)) ∧ lnK k ≤ 200 := by
  rcases (show k = 0 ∨ k = 1 ∨ k = 2 ∨ k = 3 ∨ k = 4 ∨ k = 5 by omega) with rfl | rfl | rfl | rfl | rfl | rfl <;> exact ⟨rfl, by decide⟩
theorem blk_nil : Mc.blkS ⟨#[]⟩ = reps 64 0 := byt_inj (by rw [Mc.byt_blk, byt_reps _ _ (by decide)]; rfl)
theorem blk_64 : Mc.blkS (reps 64 7) = reps 64 7 := byt_inj (by
  rw [Mc.byt_blk, byt_reps _ _ (by decide)]
  unfold Mc.blk Mc.short
  rw [List.length_replicate, if_pos (by decide), List.length_replicate]
  exact List.append_nil _)
theorem sm0 : (((⟨#[]⟩) : ByteArray).toList == ((⟨#[]⟩) : ByteArray).toList) = true := beq_self_eq_true _
theorem sm1 : ((⟨#[]⟩ : ByteArray).toList == (⟨#[97]⟩ : ByteArray).toList) = false := by
  rw [ByteArray.toList_eq, ByteArray.toList_eq]
  rfl
theorem sm2 : ((⟨#[97, 98]⟩ : ByteArray).toList == (⟨#[97, 66]⟩ : ByteArray).toList) = false := by
  rw [ByteArray.toList_eq, ByteArray.toList_eq]
  rfl
theorem sm3 : ((⟨#[97, 98]⟩ : ByteArray).toList == (⟨#[98, 97]⟩ : ByteArray).toList) = false := by
  rw [ByteArray.toList_eq, ByteArray.toList_eq]
  rfl
theorem sm4 : ((⟨#[97, 98]⟩ : ByteArray).toList == (⟨#[98]⟩ : ByteArray).toList) = false := by
  rw [ByteArray.toList_eq, ByteArray.toList_eq]
  rfl
attribute [local irreducible] Sh.sha Mc.blk Mc.blkS Mc.ofS Mc.xoS reps shaS
set_option maxHeartbeats 2000000 in
theorem macNames_walk (w : World) (hT : Tb w) (hD : Digs w) :
    Calls Tryd.prog 4 #[] w fun e w' => e = .returned (.bool true) ∧ Below w.heap.size w w' := by
  have hB : Hid (Below w.heap.size w w) := Below.refl _ _
  go_enter Tryd.func4, Tryd.ntmps4
  go_wp2_with fail
  refine (mawake_any _ (hT.below hB.out hT.lt) (hD.below hB.out hD.lt)).mono ?_
  rintro e w1 ⟨rfl, hb⟩
  replace hB := Lib.hid (hB.out.trans (hb.mono hB.out.size))
  clear hb
  go_wp2_with fail
  refine (lbytes_any 131 170 _ (by decide) (by decide)).mono ?_
  rintro e w2 ⟨rfl, hb⟩
  replace hB := Lib.hid (hB.out.trans (hb.mono hB.out.size))
  clear hb
  go_wp2_with fail
  refine (mof_any _ _ _ (hT.below hB.out hT.lt) (by rw [reps_size _ _ (by decide)]; decide) (by decide)).mono ?_
  rintro e w3 ⟨rfl, hb⟩
  replace hB := Lib.hid (hB.out.trans (hb.mono hB.out.size))
  clear hb
  go_wp2_with fail
  refine (encode_any _ _ (by rw [Mc.ofS_size]; omega) (hD.below hB.out hD.lt)).mono ?_
  rintro e w4 ⟨rfl, hb⟩
  rw [mv3]
  replace hB := Lib.hid (hB.out.trans (hb.mono hB.out.size))
  clear hb
  go_wp2_with fail
  have hw1 : w.heap.size ≤ w4.heap.size := hB.out.size
  go_loopw [14] (fun i wr => ∃ k : Nat, k ≤ 6 ∧ i = .int .i64 k ∧ Hid (Below w.heap.size w wr ∧ Bk wr w4.heap.size 3 intsV)) (fun i _ => 6 - (intOf i).toNat)
  case atStart => exact ⟨0, by omega, rfl, Lib.hid ⟨hB.out.alloc hB.out.size _, Bk.fresh _ _ _⟩⟩
  case round =>
    obtain ⟨k, hk, rfl, hR⟩ := hrel
    by_cases hk6 : k < 6
    · obtain ⟨hcl, hln⟩ := lnK_at k hk6
      have cK : wr.cell? ⟨w4.heap.size, k, none⟩ = some (.int .i64 ((lnK k : Nat) : Int)) := (hR.out.2.cell k).trans hcl
      clear hcl
      replace hB := Lib.hid hR.out.1
      have hK := Lib.hid hR.out.2
      clear hR
      generalize lnK k = n at *
      have hrz := reps_size n 7 (by decide)
      go_wp2_with fail
      refine (lbytes_any n 7 _ (by omega) (by decide)).mono ?_
      rintro e w5 ⟨rfl, hb⟩
      replace hK := Lib.hid (hK.out.below hb hK.out.lt)
      replace hB := Lib.hid (hB.out.trans (hb.mono hB.out.size))
      clear hb
      have hbz := Mc.blkS_size (reps n 7)
      have hoz := Mc.ofS_size (reps n 7) ⟨#[97]⟩
      have hrz6 : (reps n 7).size ≤ 1048576 := by omega
      go_wp2_with fail
      refine (mof_any _ _ _ (hT.below hB.out hT.lt) hrz6 (by decide)).mono ?_
      rintro e w6 ⟨rfl, hb⟩
      replace hK := Lib.hid (hK.out.below hb hK.out.lt)
      replace hB := Lib.hid (hB.out.trans (hb.mono hB.out.size))
      clear hb
      go_wp2_with fail
      refine (rof_any _ _ _ hrz6 (by decide)).mono ?_
      rintro e w7 ⟨rfl, hb⟩
      replace hK := Lib.hid (hK.out.below hb hK.out.lt)
      replace hB := Lib.hid (hB.out.trans (hb.mono hB.out.size))
      clear hb
      go_wp2_with fail
      refine (mBlock_any _ _ (hT.below hB.out hT.lt) (by omega)).mono ?_
      rintro e w8 ⟨rfl, hb⟩
      replace hK := Lib.hid (hK.out.below hb hK.out.lt)
      replace hB := Lib.hid (hB.out.trans (hb.mono hB.out.size))
      clear hb
      go_wp2_with fail
      refine (rBlock_any _ _ (by omega)).mono ?_
      rintro e w9 ⟨rfl, hb⟩
      replace hK := Lib.hid (hK.out.below hb hK.out.lt)
      replace hB := Lib.hid (hB.out.trans (hb.mono hB.out.size))
      clear hb
      go_wp2_with fail
      refine (mBlock_any _ _ (hT.below hB.out hT.lt) (by omega)).mono ?_
      rintro e w10 ⟨rfl, hb⟩
      replace hK := Lib.hid (hK.out.below hb hK.out.lt)
      replace hB := Lib.hid (hB.out.trans (hb.mono hB.out.size))
      clear hb
      go_wp2_with fail
      refine (mof_any _ _ _ (hT.below hB.out hT.lt) hrz6 (by decide)).mono ?_
      rintro e w11 ⟨rfl, hb⟩
      replace hK := Lib.hid (hK.out.below hb hK.out.lt)
      replace hB := Lib.hid (hB.out.trans (hb.mono hB.out.size))
      clear hb
      go_wp2_with fail
      go_roundw
      case rel => exact ⟨k + 1, by omega, by go_num, Lib.hid ⟨hB.out, hK.out⟩⟩
      case measure => simp [intOf]; omega
    · obtain rfl : k = 6 := by omega
      replace hB := Lib.hid hR.out.1
      clear hR
      go_wp2_with fail
      refine (mBlock_any ⟨#[]⟩ _ (hT.below hB.out hT.lt) (by decide)).mono ?_
      rintro e w12 ⟨rfl, hb⟩
      rw [blk_nil]
      replace hB := Lib.hid (hB.out.trans (hb.mono hB.out.size))
      clear hb
      go_wp2_with fail
      refine (lbytes_any 64 0 _ (by decide) (by decide)).mono ?_
      rintro e w13 ⟨rfl, hb⟩
      replace hB := Lib.hid (hB.out.trans (hb.mono hB.out.size))
      clear hb
      go_wp2_with fail
      refine (lbytes_any 64 7 _ (by decide) (by decide)).mono ?_
      rintro e w14 ⟨rfl, hb⟩
      replace hB := Lib.hid (hB.out.trans (hb.mono hB.out.size))
      clear hb
      go_wp2_with fail
      refine (mBlock_any _ _ (hT.below hB.out hT.lt) (by rw [reps_size _ _ (by decide)]; decide)).mono ?_
      rintro e w15 ⟨rfl, hb⟩
      rw [blk_64]
      replace hB := Lib.hid (hB.out.trans (hb.mono hB.out.size))
      clear hb
      go_wp2_with fail
      refine (lbytes_any 64 7 _ (by decide) (by decide)).mono ?_
      rintro e w16 ⟨rfl, hb⟩
      replace hB := Lib.hid (hB.out.trans (hb.mono hB.out.size))
      clear hb
      go_wp2_with fail
      refine (msame_any _ _ _).mono ?_
      rintro e _ ⟨rfl, rfl⟩
      rw [sm0]
      go_wp2_with fail
      refine (msame_any _ _ _).mono ?_
      rintro e _ ⟨rfl, rfl⟩
      rw [sm1]
      go_wp2_with fail
      refine (msame_any _ _ _).mono ?_
      rintro e _ ⟨rfl, rfl⟩
      rw [sm2]
      go_wp2_with fail
      refine (msame_any _ _ _).mono ?_
      rintro e _ ⟨rfl, rfl⟩
      rw [sm3]
      go_wp2_with fail
      refine (msame_any _ _ _).mono ?_
      rintro e _ ⟨rfl, rfl⟩
      rw [sm4]
      go_wp2_with fail
      go_ret
      exact ⟨rfl, hB.out⟩
end Go.Proofs.YtmfkelcpnollbaaDoor
