/-
  The statement ShaNames, walked: it returns true.
-/
import Derived.Test.YtibjbpinbbmkjaaDoorShaZero
import Derived.Test.YtibjbpinbbmkjaaDoorShaAwake
import Derived.Test.YtibjbpinbbmkjaaDoorShaVals
import Derived.Test.YtibjbpinbbmkjaaDoorShaMillion
import Derived.Test.YtibjbpinbbmkjaaDoorShaLaws3
namespace Go.Proofs.YtibjbpinbbmkjaaDoor
set_option linter.unusedSimpArgs false
set_option linter.unusedVariables false
open Go Go.RowKit
attribute [local irreducible] Sh.sha

/-- So many letters a. -/
def aS (n : Nat) : ByteArray := strN (List.replicate n 97)
theorem byt_aS (n : Nat) : byt (aS n) = List.replicate n 97 := byt_strN _ (by intro y hy; have := List.eq_of_mem_replicate hy; omega)
theorem aS_size (n : Nat) : (aS n).size = n := by rw [← byt_len, byt_aS, List.length_replicate]
theorem aS_more (n : Nat) : aS n ++ ⟨#[97]⟩ = aS (n + 1) := by
  refine byt_inj ?_
  rw [cat_byt, byt_aS, byt_aS, List.replicate_succ']
  rfl
theorem dig_long : Hx.enc (shaS ⟨#[97, 98, 99, 100, 98, 99, 100, 101, 99, 100, 101, 102, 100, 101, 102, 103, 101, 102, 103, 104, 102, 103, 104, 105, 103, 104, 105, 106, 104, 105, 106, 107, 105, 106, 107, 108, 106, 107, 108, 109, 107, 108, 109, 110, 108, 109, 110, 111, 109, 110, 111, 112, 110, 111, 112, 113]⟩) = ⟨#[50, 52, 56, 100, 54, 97, 54, 49, 100, 50, 48, 54, 51, 56, 98, 56, 101, 53, 99, 48, 50, 54, 57, 51, 48, 99, 51, 101, 54, 48, 51, 57, 97, 51, 51, 99, 101, 52, 53, 57, 54, 52, 102, 102, 50, 49, 54, 55, 102, 54, 101, 99, 101, 100, 100, 52, 49, 57, 100, 98, 48, 54, 99, 49]⟩ := by
  unfold shaS
  rw [show byt ⟨#[97, 98, 99, 100, 98, 99, 100, 101, 99, 100, 101, 102, 100, 101, 102, 103, 101, 102, 103, 104, 102, 103, 104, 105, 103, 104, 105, 106, 104, 105, 106, 107, 105, 106, 107, 108, 106, 107, 108, 109, 107, 108, 109, 110, 108, 109, 110, 111, 109, 110, 111, 112, 110, 111, 112, 113]⟩ = [97, 98, 99, 100, 98, 99, 100, 101, 99, 100, 101, 102, 100, 101, 102, 103, 101, 102, 103, 104, 102, 103, 104, 105, 103, 104, 105, 106, 104, 105, 106, 107, 105, 106, 107, 108, 106, 107, 108, 109, 107, 108, 109, 110, 108, 109, 110, 111, 109, 110, 111, 112, 110, 111, 112, 113] from rfl, Sh.sha_long]
  decide +kernel
theorem dig_million : Hx.enc (shaS (aS 1000000)) = ⟨#[99, 100, 99, 55, 54, 101, 53, 99, 57, 57, 49, 52, 102, 98, 57, 50, 56, 49, 97, 49, 99, 55, 101, 50, 56, 52, 100, 55, 51, 101, 54, 55, 102, 49, 56, 48, 57, 97, 52, 56, 97, 52, 57, 55, 50, 48, 48, 101, 48, 52, 54, 100, 51, 57, 99, 99, 99, 55, 49, 49, 50, 99, 100, 48]⟩ := by
  unfold shaS
  rw [byt_aS, Sh.sha_million]
  decide +kernel
theorem sums_ne (n : Nat) (h1 : 50 ≤ n) (h2 : n < 140) : ((shaS (aS n)).toList == (shaS (aS n ++ ⟨#[97]⟩)).toList) = false := by
  rw [aS_more]
  cases h : (shaS (aS n)).toList == (shaS (aS (n + 1))).toList with
  | false => rfl
  | true =>
    have e : (shaS (aS n)).toList = (shaS (aS (n + 1))).toList := by simpa using h
    rw [ByteArray.toList_eq, ByteArray.toList_eq] at e
    have e2 : shaS (aS n) = shaS (aS (n + 1)) := eq_bytes e
    have e3 := congrArg byt e2
    unfold shaS at e3
    rw [byt_strN _ (Sh.sha_lt _), byt_strN _ (Sh.sha_lt _), byt_aS, byt_aS] at e3
    exact absurd e3 (Sh.sha_more n h1 h2)
theorem say_aS {w : World} {g : Nat} {cs : Array Value} (h : Bk w g 5 cs) (n cap : Nat) (hc : ∀ j, j < n → cs[j]? = some (.int .u8 97)) :
    (convert 26 9 (.slice (some ⟨g, 0, none⟩) n cap)).run Tryd.prog w = .ok (.string (aS n)) w := by
  have e : aS n = strOfNums ((List.replicate n 97).map fun b : Nat => (b : Int)) := by
    unfold aS strN strOfNums
    rw [List.map_map]
    rfl
  rw [e]
  refine run_convert_bytes_arg w _ _ Tryd.underlying26 Tryd.underlying5 _ _ _ _ _ (by simp) (fun i hi => ?_) _ Tryd.underlying9
  rw [Bk.cell h, show 0 + i = i by omega, hc i hi]
  rw [List.getD_eq_getElem?_getD, List.getElem?_map, List.getElem?_replicate, if_pos hi]
  rfl
/-- The first k of a row of many cells hold the letter a. -/
structure Mil (N : Nat) (w : World) (g k : Nat) (wr : World) : Prop where
  bel : Below w.heap.size w wr
  blk : ∃ cs, Bk wr g 5 cs ∧ cs.size = N ∧ ∀ j, j < k → cs[j]? = some (.int .u8 97)
theorem Mil.put {N : Nat} {w wr : World} {g k : Nat} (h : Mil N w g k wr) (hg : w.heap.size ≤ g) (hk : k < N) : Mil N w g (k + 1) (wr.setCell ⟨g, k, none⟩ (.int .u8 97)) := by
  obtain ⟨hB, cs, h1, h2, h3⟩ := h
  refine ⟨hB.setCell hg _, _, h1.put k _, by rw [Array.size_setIfInBounds]; exact h2, fun j hj => ?_⟩
  rw [Array.getElem?_setIfInBounds]
  by_cases e : k = j
  · rw [if_pos e, if_pos (by omega)]
  · rw [if_neg e]; exact h3 j (by omega)
set_option maxRecDepth 100000 in
set_option maxHeartbeats 1000000 in
theorem shaNames_walk (w : World) (hT : Tb w) (hD : Digs w) :
    Calls Tryd.prog 6 #[] w fun e w' => e = .returned (.bool true) ∧ Below w.heap.size w w' := by
  have hB : Hid (Below w.heap.size w w) := Below.refl _ _
  obtain ⟨N, hN⟩ : ∃ N : Nat, N = 1000000 := ⟨_, rfl⟩
  have hNi : (1000000 : Int) = (N : Int) := by omega
  have HNI := Lib.hid hNi
  have hNa : 200 ≤ N := by omega
  have hNb : N ≤ 4294967296 := by omega
  have HN := Lib.hid hN
  clear hN hNi
  go_enter Tryd.func6, Tryd.ntmps6
  go_wp2_with fail
  refine (sawake_any _ (hT.below hB.out hT.lt) (hD.below hB.out hD.lt)).mono ?_
  rintro e w1 ⟨rfl, hb⟩
  replace hB := Lib.hid (hB.out.trans (hb.mono hB.out.size))
  clear hb
  go_wp2_with fail
  refine (digest_any ⟨#[97, 98, 99, 100, 98, 99, 100, 101, 99, 100, 101, 102, 100, 101, 102, 103, 101, 102, 103, 104, 102, 103, 104, 105, 103, 104, 105, 106, 104, 105, 106, 107, 105, 106, 107, 108, 106, 107, 108, 109, 107, 108, 109, 110, 108, 109, 110, 111, 109, 110, 111, 112, 110, 111, 112, 113]⟩ _ (hT.below hB.out hT.lt) (hD.below hB.out hD.lt) (by decide)).mono ?_
  rintro e w2 ⟨rfl, hb⟩
  rw [dig_long]
  replace hB := Lib.hid (hB.out.trans (hb.mono hB.out.size))
  clear hb
  go_wp2_with (refine wpList_make_bk _ rfl _ _ 26 rfl 5 (.int .u8 0) 1 Tryd.underlying26 info_u8 rfl .i64 .i64 _ _ N rfl rfl HNI.out HNI.out (by omega) (by omega) ?_; intro wm gm hgm hzm hkm hgrow; subst hgm)
  have og : w.heap.size ≤ w2.heap.size := hB.out.size
  have hM : Hid (Mil N w w2.heap.size 0 wm) := ⟨below_one hB.out hgrow hB.out.size (fun g hg => by cases hg), _, hkm, made_size _ _, fun j hj => absurd hj (by omega)⟩
  clear hgrow hkm hzm hB
  go_wp2_with fail
  go_loopw [2] (fun i wr => ∃ k : Nat, k ≤ N ∧ i = .int .i64 k ∧ Hid (Mil N w w2.heap.size k wr)) (fun i _ => N - (intOf i).toNat)
  case atStart => exact ⟨0, by omega, rfl, hM⟩
  case round =>
    clear hM
    obtain ⟨k, hk, rfl, hM⟩ := hrel
    by_cases hlt : k < N
    · have cK : ∃ v, wr.cell? ⟨w2.heap.size, k, none⟩ = some v := hM.out.blk.elim fun cs h => ⟨cs[k]'(by omega), by rw [h.1.cell k]; exact Array.getElem?_eq_getElem (by omega)⟩
      obtain ⟨v, cK⟩ := cK
      have fK : wr.frozen? ⟨w2.heap.size, k, none⟩ = false := hM.out.blk.elim fun cs h => h.1.frozen k
      go_wp2_with fail
      go_roundw
      case rel => exact ⟨k + 1, by omega, by go_num, hM.out.put og hlt⟩
      case measure => simp [intOf]; omega
    · obtain rfl : k = N := by omega
      have hB := Lib.hid hM.out.bel
      obtain ⟨cs, hcs, hcz, hca⟩ := hM.out.blk
      have hsay := say_aS hcs k k hca
      have HCA := Lib.hid hca
      have HCS := Lib.hid hcs
      have hglt := hcs.lt
      clear hca hcs hcz hM
      have hms := aS_size k
      have hmz : (aS k).size ≤ 4294967296 := by omega
      clear hms
      go_wp2_with fail
      go_wp2_with fail
      refine (digest_any (aS k) _ (hT.below hB.out hT.lt) (hD.below hB.out hD.lt) (by omega)).mono ?_
      rintro e w3 ⟨rfl, hb⟩
      rw [show Hx.enc (shaS (aS k)) = _ from HN.out ▸ dig_million]
      replace HCS := Lib.hid (HCS.out.below hb hglt)
      have hglt := HCS.out.lt
      replace hB := Lib.hid (hB.out.trans (hb.mono hB.out.size))
      clear hb
      go_wp2_with fail
      obtain ⟨wz, hwz⟩ : ∃ wz : World, wz = w3 := ⟨_, rfl⟩
      rw [← hwz] at HCS hB hglt ⊢
      have hBw := Lib.hid hB.out
      clear hwz hB
      have hT := hT.below hBw.out hT.lt
      have hD := hD.below hBw.out hD.lt
      go_loopw [3] (fun i wr => ∃ n : Nat, 50 ≤ n ∧ n ≤ 140 ∧ i = .int .i64 n ∧ Hid (Below wz.heap.size wz wr)) (fun i _ => 140 - (intOf i).toNat)
      case atStart => exact ⟨50, by omega, by omega, rfl, Lib.hid (Below.refl _ _)⟩
      case round =>
        obtain ⟨n, hn1, hn2, rfl, hB⟩ := hrel
        by_cases hn : n < 140
        · have hsay := say_aS (HCS.out.below hB.out hglt) n k (fun j hj => HCA.out j (by omega))
          have hne := sums_ne n hn1 hn
          have hxs := aS_size n
          generalize aS n = x at *
          have hx1 : n ≤ x.size := by omega
          have hx2 : x.size ≤ n := by omega
          have HXS := Lib.hid hxs
          clear hxs
          have e := sum_is ([] ++ byt (x.extract 0 (n / 2)) ++ byt ⟨#[]⟩ ++ byt (x.extract (n / 2) x.size)) x (by rw [List.nil_append, show byt ⟨#[]⟩ = [] from rfl, List.append_nil]; exact byt_cut x (n / 2) (by omega))
          have e2 : ([] ++ byt (x.extract 0 (n / 2)) ++ byt ⟨#[]⟩ ++ byt (x.extract (n / 2) x.size)).length = n := by rw [List.nil_append, show byt ⟨#[]⟩ = [] from rfl, List.append_nil, byt_cut x (n / 2) (by omega), byt_len]; omega
          have E := Lib.hid e
          have E2 := Lib.hid e2
          have hz1 := (extract_size x (n / 2) (by omega))
          have HZ := Lib.hid hz1
          clear e e2 hz1
          go_wp2_with fail
          refine (new_any _ (hT.below hB.out hT.lt)).mono ?_
          rintro e w4 ⟨rfl, hb, hz, hH⟩
          have o0 : wz.heap.size ≤ wr.heap.size := hB.out.size
          have H0 := Lib.hid hH
          clear hH hz
          replace hB := Lib.hid (hB.out.trans (hb.mono hB.out.size))
          clear hb
          go_wp2_with fail
          refine (write_any wr.heap.size _ (x.extract 0 (n / 2)) _ H0.out (hT.below hB.out hT.lt) (hT.lt.mono o0) (by rw [HZ.out.1, List.length_nil]; omega)).mono ?_
          rintro e w5 ⟨rfl, hG, hH⟩
          replace H0 := Lib.hid hH
          replace hB := Lib.hid (below_one hB.out hG hB.out.size (fun g hg => by cases hg; exact o0))
          clear hG hH
          go_wp2_with fail
          refine (write_any wr.heap.size _ ⟨#[]⟩ _ H0.out (hT.below hB.out hT.lt) (hT.lt.mono o0) (by simp only [List.length_append, List.length_nil, byt_len]; rw [HZ.out.1]; show _ + 0 ≤ _; omega)).mono ?_
          rintro e w6 ⟨rfl, hG, hH⟩
          replace H0 := Lib.hid hH
          replace hB := Lib.hid (below_one hB.out hG hB.out.size (fun g hg => by cases hg; exact o0))
          clear hG hH
          go_wp2_with fail
          refine (write_any wr.heap.size _ (x.extract (n / 2) x.size) _ H0.out (hT.below hB.out hT.lt) (hT.lt.mono o0) (by simp only [List.length_append, List.length_nil, byt_len]; rw [HZ.out.1, HZ.out.2]; show _ + 0 + _ ≤ _; omega)).mono ?_
          rintro e w7 ⟨rfl, hG, hH⟩
          replace H0 := Lib.hid hH
          replace hB := Lib.hid (below_one hB.out hG hB.out.size (fun g hg => by cases hg; exact o0))
          clear hG hH
          go_wp2_with fail
          refine (sum_any wr.heap.size _ _ H0.out (hT.below hB.out hT.lt) (by rw [E2.out]; omega)).mono ?_
          rintro e w8 ⟨rfl, hb⟩
          rw [E.out]
          replace H0 := Lib.hid (H0.out.below hb H0.out.lt)
          replace hB := Lib.hid (hB.out.trans (hb.mono hB.out.size))
          clear hb
          go_wp2_with fail
          refine (shaSum_any x _ (hT.below hB.out hT.lt) (by omega)).mono ?_
          rintro e w9 ⟨rfl, hb⟩
          replace H0 := Lib.hid (H0.out.below hb H0.out.lt)
          replace hB := Lib.hid (hB.out.trans (hb.mono hB.out.size))
          clear hb
          go_wp2_with fail
          refine (sum_any wr.heap.size _ _ H0.out (hT.below hB.out hT.lt) (by rw [E2.out]; omega)).mono ?_
          rintro e w10 ⟨rfl, hb⟩
          rw [E.out]
          replace H0 := Lib.hid (H0.out.below hb H0.out.lt)
          replace hB := Lib.hid (hB.out.trans (hb.mono hB.out.size))
          clear hb
          go_wp2_with fail
          refine (shaSum_any x _ (hT.below hB.out hT.lt) (by omega)).mono ?_
          rintro e w11 ⟨rfl, hb⟩
          replace H0 := Lib.hid (H0.out.below hb H0.out.lt)
          replace hB := Lib.hid (hB.out.trans (hb.mono hB.out.size))
          clear hb
          go_wp2_with fail
          refine (len_any wr.heap.size _ _ H0.out).mono ?_
          rintro e _ ⟨rfl, rfl⟩
          rw [E2.out]
          go_wp2_with fail
          refine (shaSum_any x _ (hT.below hB.out hT.lt) (by omega)).mono ?_
          rintro e w12 ⟨rfl, hb⟩
          replace H0 := Lib.hid (H0.out.below hb H0.out.lt)
          replace hB := Lib.hid (hB.out.trans (hb.mono hB.out.size))
          clear hb
          go_wp2_with fail
          refine (shaSum_any _ _ (hT.below hB.out hT.lt) (by rw [ByteArray.size_append]; show _ + 1 ≤ _; omega)).mono ?_
          rintro e w13 ⟨rfl, hb⟩
          replace H0 := Lib.hid (H0.out.below hb H0.out.lt)
          replace hB := Lib.hid (hB.out.trans (hb.mono hB.out.size))
          clear hb
          go_wp2_with fail
          go_roundw
          case rel => exact ⟨n + 1, by omega, by omega, by go_num, hB⟩
          case measure => simp [intOf]; omega
        · obtain rfl : n = 140 := by omega
          have hz := hash_zero
          unfold zeroH at hz
          clear hglt HCS HCA hmz hsay
          have o0 : wz.heap.size ≤ wr.heap.size := hB.out.size
          have hF := Bk.fresh wr 41 zeroH
          have hF := Lib.hid hF
          have hB1 := Lib.hid (hB.out.alloc hB.out.size (.cells zeroH 41))
          go_wp2_with fail
          refine (write_zero wr.heap.size ⟨#[97, 98, 99]⟩ _ hF.out (hT.below hB1.out hT.lt) (hT.lt.mono o0) (by decide)).mono ?_
          rintro e wa ⟨rfl, hG, hH⟩
          have H0 := Lib.hid hH
          replace hB := Lib.hid (below_one hB1.out hG hB1.out.size (fun g hg => by cases hg; exact o0))
          clear hG hH hF hB1
          go_wp2_with fail
          refine (sum_any wr.heap.size _ _ H0.out (hT.below hB.out hT.lt) (by decide)).mono ?_
          rintro e w14 ⟨rfl, hb⟩
          rw [sum_is ([] ++ byt ⟨#[97, 98, 99]⟩) ⟨#[97, 98, 99]⟩ rfl]
          replace H0 := Lib.hid (H0.out.below hb H0.out.lt)
          replace hB := Lib.hid (hB.out.trans (hb.mono hB.out.size))
          clear hb
          go_wp2_with fail
          refine (shaSum_any ⟨#[97, 98, 99]⟩ _ (hT.below hB.out hT.lt) (by decide)).mono ?_
          rintro e w15 ⟨rfl, hb⟩
          replace H0 := Lib.hid (H0.out.below hb H0.out.lt)
          replace hB := Lib.hid (hB.out.trans (hb.mono hB.out.size))
          clear hb
          have hF := Lib.hid (Bk.fresh w15 41 zeroH)
          replace hB := Lib.hid (hB.out.alloc hB.out.size (.cells zeroH 41))
          clear H0
          go_wp2_with fail
          refine (sum_zero w15.heap.size _ hF.out (hT.below hB.out hT.lt)).mono ?_
          rintro e w16 ⟨rfl, hb⟩
          rw [sum_is [] ⟨#[]⟩ rfl]
          replace hB := Lib.hid (hB.out.trans (hb.mono hB.out.size))
          clear hb
          go_wp2_with fail
          refine (shaSum_any ⟨#[]⟩ _ (hT.below hB.out hT.lt) (by decide)).mono ?_
          rintro e w17 ⟨rfl, hb⟩
          replace hB := Lib.hid (hB.out.trans (hb.mono hB.out.size))
          clear hb
          go_wp2_with fail
          refine (write_nil _ _).mono ?_
          rintro e _ ⟨rfl, rfl⟩
          go_wp2_with fail
          refine (sum_nil _).mono ?_
          rintro e _ ⟨rfl, rfl⟩
          go_wp2_with fail
          refine (len_nil _).mono ?_
          rintro e _ ⟨rfl, rfl⟩
          go_wp2_with fail
          refine (copy_nil _).mono ?_
          rintro e _ ⟨rfl, rfl⟩
          go_wp2_with fail
          go_ret
          exact ⟨rfl, hBw.out.trans (hB.out.mono hBw.out.size)⟩
end Go.Proofs.YtibjbpinbbmkjaaDoor
