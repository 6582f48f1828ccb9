/-
  The statements MacBlocks and MacSame, walked: they return true.
-/
import Derived.Test.YtmfkelcpnollbaaDoorMacLaws1
namespace Go.Proofs.YtmfkelcpnollbaaDoor
set_option linter.unusedSimpArgs false
set_option linter.unusedVariables false
open Go Go.RowKit
attribute [local irreducible] Sh.sha Mc.blk Mc.blkS Mc.ofS Mc.xoS reps shaS

set_option maxHeartbeats 2000000 in
theorem macBlocks_walk (k s : ByteArray) (n : Int) (w : World) (hk0 : k.size ≤ maxLen) (hs0 : s.size ≤ maxLen) (hT : Tb w) (hD : Digs w) :
    Calls Tryd.prog 7 #[.string k, .string s, .int .i64 n] w fun e w' => e = .returned (.bool true) ∧ Below w.heap.size w w' := by
  by_cases h : 1500 < k.size
  · have hB : Hid (Below w.heap.size w w) := Below.refl _ _
    have hgt : decide ((1500 : Int) < k.size) = true := by simp; omega
    go_enter Tryd.func7, Tryd.ntmps7
    go_wp2_with fail
    refine (mawake_any _ (hT.below hB.out hT.lt) (hD.below hB.out hD.lt)).mono ?_
    rintro e w1 ⟨rfl, hb⟩
    replace hB := Lib.hid (hB.out.trans (hb.mono hB.out.size))
    clear hb
    go_wp2_with fail
    go_ret
    exact ⟨rfl, hB.out⟩
  by_cases h2 : 1500 < s.size
  · have hB : Hid (Below w.heap.size w w) := Below.refl _ _
    have hgt : decide ((1500 : Int) < k.size) = false := by simp; omega
    have hgt2 : decide ((1500 : Int) < s.size) = true := by simp; omega
    go_enter Tryd.func7, Tryd.ntmps7
    go_wp2_with fail
    refine (mawake_any _ (hT.below hB.out hT.lt) (hD.below hB.out hD.lt)).mono ?_
    rintro e w2 ⟨rfl, hb⟩
    replace hB := Lib.hid (hB.out.trans (hb.mono hB.out.size))
    clear hb
    go_wp2_with fail
    go_ret
    exact ⟨rfl, hB.out⟩
  have hB : Hid (Below w.heap.size w w) := Below.refl _ _
  have hgt : decide ((1500 : Int) < k.size) = false := by simp; omega
  have hgt2 : decide ((1500 : Int) < s.size) = false := by simp; omega
  have kz : k.size ≤ 1500 := by omega
  have sz : s.size ≤ 1500 := by omega
  clear h h2 hk0 hs0
  go_enter Tryd.func7, Tryd.ntmps7
  have bz := Mc.blkS_size k
  have HBB := Lib.hid (Mc.blkS_blkS k)
  have HOB := Lib.hid (Mc.ofS_blk k s)
  go_wp2_with fail
  refine (mawake_any _ (hT.below hB.out hT.lt) (hD.below hB.out hD.lt)).mono ?_
  rintro e w3 ⟨rfl, hb⟩
  replace hB := Lib.hid (hB.out.trans (hb.mono hB.out.size))
  clear hb
  go_wp2_with fail
  refine (mBlock_any k _ (hT.below hB.out hT.lt) (by omega)).mono ?_
  rintro e w4 ⟨rfl, hb⟩
  replace hB := Lib.hid (hB.out.trans (hb.mono hB.out.size))
  clear hb
  by_cases h64 : 64 < k.size
  · have hgt3 : decide ((64 : Int) < k.size) = true := by simp; omega
    have HX := Lib.hid (Mc.blkS_sha k (by omega))
    have HY := Lib.hid (Mc.ofS_congr (Mc.blkS_sha k (by omega)) s)
    have hzz := shaS_size k
    go_wp2_with fail
    refine (shaSum_any k _ (hT.below hB.out hT.lt) (by omega)).mono ?_
    rintro e w5 ⟨rfl, hb⟩
    replace hB := Lib.hid (hB.out.trans (hb.mono hB.out.size))
    clear hb
    go_wp2_with fail
    refine (mof_any k s _ (hT.below hB.out hT.lt) (by omega) (by omega)).mono ?_
    rintro e w6 ⟨rfl, hb⟩
    replace hB := Lib.hid (hB.out.trans (hb.mono hB.out.size))
    clear hb
    go_wp2_with fail
    refine (mBlock_any _ _ (hT.below hB.out hT.lt) (by omega)).mono ?_
    rintro e w7 ⟨rfl, hb⟩
    rw [HBB.out]
    replace hB := Lib.hid (hB.out.trans (hb.mono hB.out.size))
    clear hb
    go_wp2_with fail
    refine (mof_any _ s _ (hT.below hB.out hT.lt) (by omega) (by omega)).mono ?_
    rintro e w8 ⟨rfl, hb⟩
    rw [HOB.out]
    replace hB := Lib.hid (hB.out.trans (hb.mono hB.out.size))
    clear hb
    go_wp2_with fail
    refine (mBlock_any _ _ (hT.below hB.out hT.lt) (by omega)).mono ?_
    rintro e w9 ⟨rfl, hb⟩
    rw [HX.out]
    replace hB := Lib.hid (hB.out.trans (hb.mono hB.out.size))
    clear hb
    go_wp2_with fail
    refine (mof_any _ s _ (hT.below hB.out hT.lt) (by omega) (by omega)).mono ?_
    rintro e w10 ⟨rfl, hb⟩
    rw [HY.out]
    replace hB := Lib.hid (hB.out.trans (hb.mono hB.out.size))
    clear hb
    go_wp2_with fail
    go_ret
    exact ⟨rfl, hB.out⟩
  have hgt3 : decide ((64 : Int) < k.size) = false := by simp; omega
  by_cases h64b : k.size < 64
  · have hgt4 : decide ((k.size : Int) < 64) = true := by simp; omega
    obtain ⟨m, hm, hme⟩ := place_of n (65 - k.size) (by omega) (by omega)
    rw [show ((65 - k.size : Nat) : Int) = 65 - (k.size : Int) by omega] at hme
    have hrz := reps_size m 0 (by decide)
    have HX := Lib.hid (Mc.blkS_zeros k (reps m 0) m (byt_reps m 0 (by decide)) (by omega))
    have HY := Lib.hid (Mc.ofS_congr (Mc.blkS_zeros k (reps m 0) m (byt_reps m 0 (by decide)) (by omega)) s)
    go_wp2_with fail
    refine (lbytes_any m 0 _ (by omega) (by decide)).mono ?_
    rintro e w11 ⟨rfl, hb⟩
    replace hB := Lib.hid (hB.out.trans (hb.mono hB.out.size))
    clear hb
    generalize reps m 0 = z at *
    go_wp2_with fail
    refine (mof_any k s _ (hT.below hB.out hT.lt) (by omega) (by omega)).mono ?_
    rintro e w12 ⟨rfl, hb⟩
    replace hB := Lib.hid (hB.out.trans (hb.mono hB.out.size))
    clear hb
    go_wp2_with fail
    refine (mBlock_any _ _ (hT.below hB.out hT.lt) (by omega)).mono ?_
    rintro e w13 ⟨rfl, hb⟩
    rw [HBB.out]
    replace hB := Lib.hid (hB.out.trans (hb.mono hB.out.size))
    clear hb
    go_wp2_with fail
    refine (mof_any _ s _ (hT.below hB.out hT.lt) (by omega) (by omega)).mono ?_
    rintro e w14 ⟨rfl, hb⟩
    rw [HOB.out]
    replace hB := Lib.hid (hB.out.trans (hb.mono hB.out.size))
    clear hb
    go_wp2_with fail
    refine (mBlock_any _ _ (hT.below hB.out hT.lt) (by rw [ByteArray.size_append]; omega)).mono ?_
    rintro e w15 ⟨rfl, hb⟩
    rw [HX.out]
    replace hB := Lib.hid (hB.out.trans (hb.mono hB.out.size))
    clear hb
    go_wp2_with fail
    refine (mof_any _ s _ (hT.below hB.out hT.lt) (by rw [ByteArray.size_append]; omega) (by omega)).mono ?_
    rintro e w16 ⟨rfl, hb⟩
    rw [HY.out]
    replace hB := Lib.hid (hB.out.trans (hb.mono hB.out.size))
    clear hb
    go_wp2_with fail
    go_ret
    exact ⟨rfl, hB.out⟩
  · have hgt4 : decide ((k.size : Int) < 64) = false := by simp; omega
    go_wp2_with fail
    refine (mof_any k s _ (hT.below hB.out hT.lt) (by omega) (by omega)).mono ?_
    rintro e w17 ⟨rfl, hb⟩
    replace hB := Lib.hid (hB.out.trans (hb.mono hB.out.size))
    clear hb
    go_wp2_with fail
    refine (mBlock_any _ _ (hT.below hB.out hT.lt) (by omega)).mono ?_
    rintro e w18 ⟨rfl, hb⟩
    rw [HBB.out]
    replace hB := Lib.hid (hB.out.trans (hb.mono hB.out.size))
    clear hb
    go_wp2_with fail
    refine (mof_any _ s _ (hT.below hB.out hT.lt) (by omega) (by omega)).mono ?_
    rintro e w19 ⟨rfl, hb⟩
    rw [HOB.out]
    replace hB := Lib.hid (hB.out.trans (hb.mono hB.out.size))
    clear hb
    go_wp2_with fail
    refine (mBlock_any k _ (hT.below hB.out hT.lt) (by omega)).mono ?_
    rintro e w20 ⟨rfl, hb⟩
    replace hB := Lib.hid (hB.out.trans (hb.mono hB.out.size))
    clear hb
    go_wp2_with fail
    refine (mof_any k s _ (hT.below hB.out hT.lt) (by omega) (by omega)).mono ?_
    rintro e w21 ⟨rfl, hb⟩
    replace hB := Lib.hid (hB.out.trans (hb.mono hB.out.size))
    clear hb
    go_wp2_with fail
    go_ret
    exact ⟨rfl, hB.out⟩

/-- The text with one byte another one. -/
def edS (s : ByteArray) (p c : Nat) : ByteArray := strN ((byt s).set p ((byt s).getD p 0 ^^^ c))
theorem xor_ne (x c : Nat) (hc : 0 < c) : x ^^^ c ≠ x := by
  intro h
  have h2 : x ^^^ (x ^^^ c) = x ^^^ x := by rw [h]
  rw [← Nat.xor_assoc, Nat.xor_self, Nat.zero_xor] at h2
  omega
theorem edS_ne (s : ByteArray) (p c : Nat) (hp : p < s.size) (hc : 0 < c) (hc2 : c < 256) : (s.toList == (edS s p c).toList) = false := by
  have hx := getD_lt256 (byt_lt s) p
  have hne : s ≠ edS s p c := by
    intro h
    have h2 := congrArg byt h
    unfold edS at h2
    rw [byt_strN _ (fun y hy => by
      rcases List.mem_or_eq_of_mem_set hy with hy | rfl
      · exact byt_lt s y hy
      · exact Nat.xor_lt_two_pow (n := 8) hx hc2)] at h2
    have h3 := congrArg (fun l => l.getD p 0) h2
    simp only [List.getD_eq_getElem?_getD, List.getElem?_set, byt_len, hp, if_true, Option.getD_some] at h3
    exact xor_ne _ _ hc h3.symm
  rw [← Bool.not_eq_true, beq_iff_eq]
  intro h
  rw [ByteArray.toList_eq, ByteArray.toList_eq] at h
  exact hne (eq_bytes h)
theorem edS_say (s : ByteArray) (p c cap g : Nat) (cs : Array Value) (w : World) (hp : p < s.size) (hB : Bf w g 5 cs) (hz : s.size ≤ cs.size) (hc : ∀ j, j < s.size → cs[j]? = some (.int .u8 (((byt s).getD j 0 : Nat) : Int))) (X : Int) (hX : X = (((byt s).getD p 0 ^^^ c : Nat) : Int)) :
    (convert 24 9 (.slice (some ⟨g, 0, none⟩) s.size cap)).run Tryd.prog (w.setCell ⟨g, p, none⟩ (.int .u8 X)) = .ok (.string (edS s p c)) (w.setCell ⟨g, p, none⟩ (.int .u8 X)) := by
  have e : edS s p c = strOfNums (((byt s).set p ((byt s).getD p 0 ^^^ c)).map fun b : Nat => (b : Int)) := by
    unfold edS strN strOfNums
    rw [List.map_map]
    rfl
  rw [e]
  refine run_convert_bytes_arg _ _ _ Tryd.underlying24 Tryd.underlying5 _ _ _ _ _ (by rw [List.length_map, List.length_set, byt_len]) (fun i hi => ?_) _ Tryd.underlying9
  rw [Bf.cell (hB.put' p _), show 0 + i = i by omega, Array.getElem?_setIfInBounds]
  by_cases e : p = i
  · subst e
    rw [if_pos rfl, if_pos (by omega), hX]
    simp [byt_len, hp]
  · rw [if_neg e, hc i (by omega)]
    simp [List.getElem?_set, e, List.getD_eq_getElem?_getD, byt_len, hi]
theorem cut_ne (s : ByteArray) (h : 0 < s.size) : (s.toList == (s.extract 0 (s.size - 1)).toList) = false := by
  rw [← Bool.not_eq_true, beq_iff_eq]
  intro h2
  rw [ByteArray.toList_eq, ByteArray.toList_eq] at h2
  have h3 : s = s.extract 0 (s.size - 1) := eq_bytes h2
  have h4 := congrArg ByteArray.size h3
  rw [ByteArray.size_extract] at h4
  omega
theorem ne_lists (s t : ByteArray) (h : s ≠ t) : (s.toList == t.toList) = false := by
  rw [← Bool.not_eq_true, beq_iff_eq]
  intro h2
  rw [ByteArray.toList_eq, ByteArray.toList_eq] at h2
  exact h (eq_bytes h2)

set_option maxHeartbeats 2000000 in
theorem macSameN_walk (s t : ByteArray) (at_ : Int) (c : Nat) (w : World) (hk0 : s.size ≤ maxLen) (hs0 : t.size ≤ maxLen) (hc : c < 256) (hT : Tb w) (hD : Digs w) :
    Calls Tryd.prog 3 #[.string s, .string t, .int .i64 at_, .int .u8 (c : Int)] w fun e w' => e = .returned (.bool true) ∧ Below w.heap.size w w' := by
  by_cases h : 3000 < s.size
  · have hB : Hid (Below w.heap.size w w) := Below.refl _ _
    have hgt : decide ((3000 : Int) < s.size) = true := by simp; omega
    go_enter Tryd.func3, Tryd.ntmps3
    go_wp2_with fail
    refine (mawake_any _ (hT.below hB.out hT.lt) (hD.below hB.out hD.lt)).mono ?_
    rintro e w22 ⟨rfl, hb⟩
    replace hB := Lib.hid (hB.out.trans (hb.mono hB.out.size))
    clear hb
    go_wp2_with fail
    go_ret
    exact ⟨rfl, hB.out⟩
  by_cases h2 : 3000 < t.size
  · have hB : Hid (Below w.heap.size w w) := Below.refl _ _
    have hgt : decide ((3000 : Int) < s.size) = false := by simp; omega
    have hgt2 : decide ((3000 : Int) < t.size) = true := by simp; omega
    go_enter Tryd.func3, Tryd.ntmps3
    go_wp2_with fail
    refine (mawake_any _ (hT.below hB.out hT.lt) (hD.below hB.out hD.lt)).mono ?_
    rintro e w23 ⟨rfl, hb⟩
    replace hB := Lib.hid (hB.out.trans (hb.mono hB.out.size))
    clear hb
    go_wp2_with fail
    go_ret
    exact ⟨rfl, hB.out⟩
  have hB : Hid (Below w.heap.size w w) := Below.refl _ _
  have hgt : decide ((3000 : Int) < s.size) = false := by simp; omega
  have hgt2 : decide ((3000 : Int) < t.size) = false := by simp; omega
  have kz : s.size ≤ 3000 := by omega
  have sz : t.size ≤ 3000 := by omega
  clear h h2 hk0 hs0
  go_enter Tryd.func3, Tryd.ntmps3
  have hss : (s.toList == s.toList) = true := beq_self_eq_true _
  go_wp2_with fail
  refine (mawake_any _ (hT.below hB.out hT.lt) (hD.below hB.out hD.lt)).mono ?_
  rintro e w24 ⟨rfl, hb⟩
  replace hB := Lib.hid (hB.out.trans (hb.mono hB.out.size))
  clear hb
  by_cases hst : s = t
  · have h1 : (s.toList == t.toList) = true := by rw [hst]; exact beq_self_eq_true _
    have h2 : (t.toList == s.toList) = true := by rw [hst]; exact beq_self_eq_true _
    clear hst
    go_wp2_with fail
    refine (msame_any _ _ _).mono ?_
    rintro e _ ⟨rfl, rfl⟩
    rw [hss]
    go_wp2_with fail
    refine (msame_any _ _ _).mono ?_
    rintro e _ ⟨rfl, rfl⟩
    rw [h1]
    go_wp2_with fail
    refine (msame_any _ _ _).mono ?_
    rintro e _ ⟨rfl, rfl⟩
    rw [h2]
    by_cases hs0 : s.size = 0
    · have he : s.toList.isEmpty = true := by rw [List.isEmpty_iff, ByteArray.toList_eq]; exact List.length_eq_zero_iff.1 hs0
      go_wp2_with fail
      go_ret
      exact ⟨rfl, hB.out⟩
    have he : s.toList.isEmpty = false := by rw [List.isEmpty_eq_false_iff, ByteArray.toList_eq]; exact fun h => hs0 (congrArg List.length h)
    by_cases hc0 : c = 0
    · subst hc0
      go_wp2_with fail
      go_ret
      exact ⟨rfl, hB.out⟩
    have hcz : ((c : Int) == 0) = false := by rw [beq_eq_false_iff_ne]; omega
    obtain ⟨p, hp, hpe⟩ := place_of at_ s.size (by omega) (by omega)
    have hne := Lib.hid (edS_ne s p c hp (by omega) hc)
    have hcut := Lib.hid (cut_ne s (by omega))
    go_wp2_with (first | (refine wpList_bytes_of _ rfl 9 24 _ rfl 5 Tryd.underlying9 Tryd.underlying24 Tryd.underlying5 s rfl ?_
                          intro w1 cap cs hz1 hB1 hc1 hs1 hg1
                          have hc2 : ∀ j, j < s.size → cs[j]? = some (.int .u8 (((byt s).getD j 0 : Nat) : Int)) := fun j hj => by rw [hc1 j hj, byt_data]
                          have cK := (hB1.cell p).trans (hc2 p hp)
                          have fK := hB1.frozen p (by omega)
                          have hsay := edS_say s p c cap _ cs w1 hp hB1 hz1 hc2 _ (u8_xor_nat _ c (getD_lt256 (byt_lt s) p) hc)
                          have hB2 := Lib.hid (below_one hB.out hg1 hB.out.size (fun g hg => by cases hg))
                          clear hc2 hz1 hB1 hc1 hs1 hg1
                          generalize (byt s).getD p 0 = x at *))
    go_wp2_with fail
    refine (msame_any _ _ _).mono ?_
    rintro e _ ⟨rfl, rfl⟩
    rw [hne.out]
    go_wp2_with fail
    refine (msame_any _ _ _).mono ?_
    rintro e _ ⟨rfl, rfl⟩
    rw [hcut.out]
    go_wp2_with fail
    go_ret
    exact ⟨rfl, hB2.out.setCell hB.out.size _⟩
  · have h1 : (s.toList == t.toList) = false := ne_lists _ _ hst
    have h2 : (t.toList == s.toList) = false := ne_lists _ _ (fun h => hst h.symm)
    clear hst
    go_wp2_with fail
    refine (msame_any _ _ _).mono ?_
    rintro e _ ⟨rfl, rfl⟩
    rw [hss]
    go_wp2_with fail
    refine (msame_any _ _ _).mono ?_
    rintro e _ ⟨rfl, rfl⟩
    rw [h1]
    go_wp2_with fail
    refine (msame_any _ _ _).mono ?_
    rintro e _ ⟨rfl, rfl⟩
    rw [h2]
    by_cases hs0 : s.size = 0
    · have he : s.toList.isEmpty = true := by rw [List.isEmpty_iff, ByteArray.toList_eq]; exact List.length_eq_zero_iff.1 hs0
      go_wp2_with fail
      go_ret
      exact ⟨rfl, hB.out⟩
    have he : s.toList.isEmpty = false := by rw [List.isEmpty_eq_false_iff, ByteArray.toList_eq]; exact fun h => hs0 (congrArg List.length h)
    by_cases hc0 : c = 0
    · subst hc0
      go_wp2_with fail
      go_ret
      exact ⟨rfl, hB.out⟩
    have hcz : ((c : Int) == 0) = false := by rw [beq_eq_false_iff_ne]; omega
    obtain ⟨p, hp, hpe⟩ := place_of at_ s.size (by omega) (by omega)
    have hne := Lib.hid (edS_ne s p c hp (by omega) hc)
    have hcut := Lib.hid (cut_ne s (by omega))
    go_wp2_with (first | (refine wpList_bytes_of _ rfl 9 24 _ rfl 5 Tryd.underlying9 Tryd.underlying24 Tryd.underlying5 s rfl ?_
                          intro w1 cap cs hz1 hB1 hc1 hs1 hg1
                          have hc2 : ∀ j, j < s.size → cs[j]? = some (.int .u8 (((byt s).getD j 0 : Nat) : Int)) := fun j hj => by rw [hc1 j hj, byt_data]
                          have cK := (hB1.cell p).trans (hc2 p hp)
                          have fK := hB1.frozen p (by omega)
                          have hsay := edS_say s p c cap _ cs w1 hp hB1 hz1 hc2 _ (u8_xor_nat _ c (getD_lt256 (byt_lt s) p) hc)
                          have hB2 := Lib.hid (below_one hB.out hg1 hB.out.size (fun g hg => by cases hg))
                          clear hc2 hz1 hB1 hc1 hs1 hg1
                          generalize (byt s).getD p 0 = x at *))
    go_wp2_with fail
    refine (msame_any _ _ _).mono ?_
    rintro e _ ⟨rfl, rfl⟩
    rw [hne.out]
    go_wp2_with fail
    refine (msame_any _ _ _).mono ?_
    rintro e _ ⟨rfl, rfl⟩
    rw [hcut.out]
    go_wp2_with fail
    go_ret
    exact ⟨rfl, hB2.out.setCell hB.out.size _⟩
theorem macSame_walk (s t : ByteArray) (at_ c : Int) (w : World) (hk0 : s.size ≤ maxLen) (hs0 : t.size ≤ maxLen) (hc : (Lit.int .u8 c).wf = true) (hT : Tb w) (hD : Digs w) :
    Calls Tryd.prog 3 #[.string s, .string t, .int .i64 at_, .int .u8 c] w fun e w' => e = .returned (.bool true) ∧ Below w.heap.size w w' := by
  have hcw := bounds_u8 hc
  obtain ⟨n, rfl⟩ := Int.eq_ofNat_of_zero_le hcw.1
  exact macSameN_walk s t at_ n w hk0 hs0 (by omega) hT hD
end Go.Proofs.YtmfkelcpnollbaaDoor
