/-
  The walks of package mac's Of, Block and Same, the document's Block, combined and Of, and the statements' own combined and bytes.
-/
import Derived.Test.YtmfkelcpnollbaaDoorMacFns
import Derived.Test.YtmfkelcpnollbaaDoorBytesOf
import Derived.Test.YtmfkelcpnollbaaDoorShaRSum
namespace Go.Proofs.YtmfkelcpnollbaaDoor
set_option linter.unusedSimpArgs false
set_option linter.unusedVariables false
open Go Go.RowKit
attribute [local irreducible] Sh.sha Mc.blk

/-- A block of 64 bytes, said as a string. -/
theorem blkV_say (k : ByteArray) (w : World) (g : Nat) (h : Bk w g 34 (blkV k)) : (convert 24 9 (.slice (some ⟨g, 0, none⟩) 64 64)).run Tryd.prog w = .ok (.string (Mc.blkS k)) w := by
  have hl := Mc.blk_len (byt k)
  have e : Mc.blkS k = strOfNums ((Mc.blk (byt k)).map fun b : Nat => (b : Int)) := by
    unfold Mc.blkS strN strOfNums
    rw [List.map_map]
    rfl
  rw [e]
  refine run_convert_bytes_arg w _ _ Tryd.underlying24 Tryd.underlying5 _ _ _ _ _ (by rw [List.length_map, hl]) (fun i hi => ?_) _ Tryd.underlying9
  rw [Bk.cell h]
  unfold blkV cellsB
  simp [show i < (Mc.blk (byt k)).length by omega]
theorem blk_lt' (k : ByteArray) : ∀ x ∈ Mc.blk (byt k), x < 256 := Mc.blk_lt (byt_lt k)
theorem xoS_eq (c : Nat) (k : ByteArray) : strN (Mc.xo c (Mc.blk (byt k))) = Mc.xoS c (Mc.blkS k) := by
  unfold Mc.xoS
  rw [Mc.byt_blk]
theorem ofS_eq (k s : ByteArray) : shaS (Mc.xoS 92 (Mc.blkS k) ++ shaS (Mc.xoS 54 (Mc.blkS k) ++ s)) = Mc.ofS k s := rfl
theorem xoS64 (c : Nat) (hc : c < 256) (k : ByteArray) : (Mc.xoS c (Mc.blkS k)).size = 64 := by rw [Mc.xoS_size hc, Mc.blkS_size]
set_option maxRecDepth 100000 in
set_option maxHeartbeats 1000000 in
theorem mBlock_any (k : ByteArray) (w : World) (hT : Tb w) (hk : k.size ≤ 1099511627776) : Calls Tryd.prog 14 #[.string k] w fun e w' => e = .returned (.string (Mc.blkS k)) ∧ Below w.heap.size w w' := by
  go_enter Tryd.func14, Tryd.ntmps14
  go_wp2_with fail
  refine (mblock_any k _ hT hk).mono ?_
  rintro e w1 ⟨rfl, hb⟩
  have hB := Lib.hid hb
  clear hb
  go_wp2_with (first
      | (refine wpList_store_row rfl 34 _ _ rfl w1.heap.size (blkV k) rfl rfl 34 zu64 (Bk.fresh w1 _ _) (by rw [blkV_size]; exact u64_info) (by rw [blkV_size]; rfl) (blkV_one _) ?_
         refine wp_letter (fun W' => Below w.heap.size w W' ∧ Bk W' w1.heap.size 34 (blkV k)) ⟨below_row (hB.out.alloc hB.out.size _) hB.out.size _, Bk.row (Bk.fresh w1 _ _) _⟩ ?_
         intro w2 hw2
         have hcv := blkV_say k w2 _ hw2.2
         have hw2 := Lib.hid hw2.1))
  go_ret
  exact ⟨rfl, hw2.out⟩
set_option maxRecDepth 100000 in
set_option maxHeartbeats 1000000 in
theorem mof_any (k s : ByteArray) (w : World) (hT : Tb w) (hk : k.size ≤ 1048576) (hs : s.size ≤ 1048576) : Calls Tryd.prog 11 #[.string k, .string s] w fun e w' => e = .returned (.string (Mc.ofS k s)) ∧ Below w.heap.size w w' := by
  go_enter Tryd.func11, Tryd.ntmps11
  go_wp2_with fail
  refine (mblock_any k _ hT (by omega)).mono ?_
  rintro e w1 ⟨rfl, hb⟩
  have hB := Lib.hid hb
  clear hb
  have hOf := Lib.hid (ofS_eq k s)
  go_wp2_with (first
      | (refine wpList_store_row rfl 34 _ _ rfl w1.heap.size (blkV k) rfl rfl 34 zu64 (Bk.fresh w1 _ _) (by rw [blkV_size]; exact u64_info) (by rw [blkV_size]; rfl) (blkV_one _) ?_
         refine wp_letter (fun W' => Below w.heap.size w W' ∧ Bk W' w1.heap.size 34 (blkV k)) ⟨below_row (hB.out.alloc hB.out.size _) hB.out.size _, Bk.row (Bk.fresh w1 _ _) _⟩ ?_
         intro w2 hw2
         have hk2 := hw2.2
         have hb2 := Lib.hid hw2.1
         clear hw2)
      | (refine wpList_load_row rfl 34 _ rfl w1.heap.size rfl 34 (blkV k) (0, 0) _ hk2 Tryd.underlying34 rfl (by rw [blkV_size]; exact u64_info) ?_))
  refine (comb1_any (Mc.blk (byt k)) _ (Mc.blk_len _) (blk_lt' k)).mono ?_
  rintro e w3 ⟨rfl, hb⟩
  rw [xoS_eq]
  have hk3 := Lib.hid (hk2.below hb hk2.lt)
  have hB := Lib.hid (hb2.out.trans (hb.mono hb2.out.size))
  clear hb hb2 hk2
  have x1 := xoS64 54 (by decide) k
  have x2 := xoS64 92 (by decide) k
  generalize Mc.xoS 54 (Mc.blkS k) = a at *
  go_wp2_with fail
  refine (shaSum_any _ _ (hT.below hB.out hT.lt) (by rw [ByteArray.size_append]; omega)).mono ?_
  rintro e w4 ⟨rfl, hb⟩
  have hk4 := hk3.out.below hb hk3.out.lt
  have hB := Lib.hid (hB.out.trans (hb.mono hB.out.size))
  clear hb
  have x3 := shaS_size (a ++ s)
  generalize shaS (a ++ s) = c at *
  go_wp2_with (first
      | (refine wpList_load_row rfl 34 _ rfl w1.heap.size rfl 34 (blkV k) (0, 0) _ hk4 Tryd.underlying34 rfl (by rw [blkV_size]; exact u64_info) ?_))
  refine (comb2_any (Mc.blk (byt k)) _ (Mc.blk_len _) (blk_lt' k)).mono ?_
  rintro e w5 ⟨rfl, hb⟩
  rw [xoS_eq]
  have hB := Lib.hid (hB.out.trans (hb.mono hB.out.size))
  clear hb
  generalize Mc.xoS 92 (Mc.blkS k) = b at *
  go_wp2_with fail
  refine (shaSum_any _ _ (hT.below hB.out hT.lt) (by rw [ByteArray.size_append]; omega)).mono ?_
  rintro e w6 ⟨rfl, hb⟩
  have hB := Lib.hid (hB.out.trans (hb.mono hB.out.size))
  clear hb
  rw [hOf.out]
  go_wp2_with fail
  go_ret
  exact ⟨rfl, hB.out⟩
end Go.Proofs.YtmfkelcpnollbaaDoor
