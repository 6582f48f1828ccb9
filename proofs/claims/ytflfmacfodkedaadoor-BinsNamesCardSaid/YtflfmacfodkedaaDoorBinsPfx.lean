/-
  The walks of package bins, and of the document's words beside it: Prefixes.
-/
import Derived.Test.YtflfmacfodkedaaDoorBinsPre
namespace Go.Proofs.YtflfmacfodkedaaDoor
set_option linter.unusedSimpArgs false
set_option linter.unusedVariables false
open Go Go.RowKit
attribute [local irreducible] Sh.sha shaS

def strsL (l : List ByteArray) : List Value := l.map Value.string
theorem info_str : (Tryd.prog.info? 9).map (fun i => (i.zero, i.size, i.bytes)) = some (some (.string ⟨#[]⟩), 1, 16) := by kernel_rfl
/-- The first i prefixes are laid. -/
structure Pq (w : World) (k n m i : Nat) (wr : World) : Prop where
  bel : Below w.heap.size w wr
  blk : ∃ cs, Bk wr w.heap.size 9 cs ∧ cs.size = m ∧ ∀ j, j < i → cs[j]? = some (.string (Bn.prefAt k n j))
theorem Pq.put {w wr w2 : World} {k n m i : Nat} (h : Pq w k n m i wr) (hi : i < m) (hb : Below wr.heap.size wr w2) (x : ByteArray) (hx : x = Bn.prefAt k n i) : Pq w k n m (i + 1) (w2.setCell ⟨w.heap.size, i, none⟩ (.string x)) := by
  obtain ⟨hB, cs, h1, h2, h3⟩ := h
  refine ⟨(hB.trans (hb.mono hB.size)).setCell (Nat.le_refl _) _, _, (h1.below hb h1.lt).put i _, by rw [Array.size_setIfInBounds]; exact h2, fun j hj => ?_⟩
  rw [Array.getElem?_setIfInBounds]
  by_cases e : i = j
  · subst e; rw [if_pos rfl, if_pos (by omega), hx]
  · rw [if_neg e]; exact h3 j (by omega)
theorem Pq.done {w wr : World} {k n : Nat} (hk1 : 1 ≤ k) (hk2 : k ≤ 32) (h : Pq w k n (2 ^ Bn.spare k) (2 ^ Bn.spare k) wr) : wr.ownsRow w.heap.size 9 1 (.slice (some ⟨w.heap.size, 0, none⟩) (2 ^ Bn.spare k) (2 ^ Bn.spare k)) (2 ^ Bn.spare k) (strsL (Bn.prefs k n)) := by
  obtain ⟨hB, cs, h1, h2, h3⟩ := h
  have hm : 2 ^ Bn.spare k ≤ 2 ^ 3 := Nat.pow_le_pow_right (by omega) (Bn.wid_le hk1 hk2).2.2.1
  refine ⟨by unfold strsL; rw [List.length_map, Bn.prefs_len]; omega, Or.inr ⟨_, _, cs, rfl, Nat.le_refl _, h1, Nat.le_refl _, by unfold maxLen; omega, by omega, ?_⟩⟩
  apply List.ext_getElem?
  intro j
  unfold strsL
  rw [List.getElem?_take, List.getElem?_map, Nat.mul_one]
  by_cases hj : j < 2 ^ Bn.spare k
  · rw [if_pos hj, Array.getElem?_toList, h3 j hj, Bn.prefs_at k n j hj]
    rfl
  · rw [if_neg hj, List.getElem?_eq_none (by rw [Bn.prefs_len]; omega)]
    rfl
theorem or_low (n s i : Nat) (hi : i < 2 ^ s) (hlt : n * 2 ^ s + i < 4294967296) : bits .or .u32 ((n * 2 ^ s : Nat) : Int) (i : Int) = ((n * 2 ^ s + i : Nat) : Int) := by
  rw [u32_or _ _ (by omega) (by omega) (by omega) (by omega), nat_join s _ _ (by rw [Int.toNat_natCast, Nat.mul_mod_left]) (by omega)]
  congr 1
theorem mul_pow_cast (x m : Nat) : (x : Int) * 2 ^ m = ((x * 2 ^ m : Nat) : Int) := by rw [Int.natCast_mul, Int.natCast_pow]; rfl
set_option maxRecDepth 20000 in
set_option maxHeartbeats 1000000 in
theorem bPrefixes_any (b : Int) (n : Nat) (w : World) (hn : n < 4294967296) :
    Calls Tryd.prog 18 #[.int .i64 b, .int .u32 n] w fun e w' => ∃ v, e = .returned (.tuple #[v, .int .i64 (Bn.prefE b n)]) ∧ w'.ownsRow w.heap.size 9 1 v (Bn.prefL b n).length (strsL (Bn.prefL b n)) ∧ Below w.heap.size w w' := by
  cases hm : Bn.may b with
  | false =>
    have E : Hid (Bn.prefL b n = [] ∧ Bn.prefE b n = 1) := ⟨by unfold Bn.prefL Bn.hasB; rw [hm]; rfl, by unfold Bn.prefE Bn.hasB; rw [hm]; rfl⟩
    go_enter Tryd.func18, Tryd.ntmps18
    go_wp2_with fail
    refine (bmay_any b _).mono ?_
    rintro e _ ⟨rfl, rfl⟩
    rw [hm]
    go_wp2_with fail
    go_ret2
    exact ⟨_, by rw [E.out.2]; rfl, by rw [E.out.1]; exact World.ownsRow_nil _ _ _ _, Below.refl _ _⟩
  | true =>
    obtain ⟨k, rfl, hk1, hk2⟩ := Bn.may_nat hm
    by_cases hlt : n < 2 ^ k
    · have E : Hid (Bn.prefL k n = Bn.prefs k n ∧ Bn.prefE k n = 0) := by
        have : Bn.hasB k n = true := by unfold Bn.hasB; rw [hm]; simpa using hlt
        exact ⟨by unfold Bn.prefL; rw [this]; rfl, by unfold Bn.prefE; rw [this]; rfl⟩
      have hd : decide (n < 2 ^ k) = true := decide_eq_true hlt
      obtain ⟨w1, w2, s3, hw⟩ := Bn.wid_le hk1 hk2
      have hsp : (4 : Int) * (Bn.wid k : Int) - (k : Int) = (Bn.spare k : Int) := by omega
      have hmp : 2 ^ Bn.spare k ≤ 2 ^ 3 := Nat.pow_le_pow_right (by omega) s3
      have hmz : 0 < 2 ^ Bn.spare k := Nat.two_pow_pos _
      have HN : Hid (∀ i : Nat, i < 2 ^ Bn.spare k → n * 2 ^ Bn.spare k + i < 4294967296) := fun i hi => Bn.num_lt32 hk1 hk2 hlt hi
      have HOR : Hid (∀ i : Nat, i < 2 ^ Bn.spare k → bits .or .u32 ((n * 2 ^ Bn.spare k : Nat) : Int) (i : Int) = ((n * 2 ^ Bn.spare k + i : Nat) : Int)) := fun i hi => or_low n _ i hi (HN.out i hi)
      have HD := Lib.hid (fun wr (h : Pq w k n (2 ^ Bn.spare k) (2 ^ Bn.spare k) wr) => Pq.done hk1 hk2 h)
      have HTX : Hid (∀ (i : Nat) W (a : Int), i < 2 ^ Bn.spare k → a = ((n * 2 ^ Bn.spare k + i : Nat) : Int) → Calls Tryd.prog 45 #[.int .u32 a, .int .i64 (Bn.wid k : Nat)] W fun e w' => e = .returned (.string (Bn.prefAt k n i)) ∧ Below W.heap.size W w') := fun i W a hi ha => by subst ha; exact btext_any _ _ W (HN.out i hi) w2
      have hmul : Hid ((n : Int) * ((2 ^ Bn.spare k : Nat) : Int) = ((n * 2 ^ Bn.spare k : Nat) : Int)) := (Int.natCast_mul _ _).symm
      have HPL := Lib.hid (Bn.prefs_len k n)
      have hpw0 : ((2 ^ Bn.spare k : Nat) : Int) = (2 : Int) ^ Bn.spare k := by rw [Int.natCast_pow]; rfl
      generalize Bn.spare k = s at *
      generalize hN : n * 2 ^ s = N at *
      clear hN
      generalize hm2 : 2 ^ s = m at *
      have hpw : (2 : Int) ^ s = (m : Int) := by rw [← hpw0]
      clear hm2 hpw0
      have hm8 : m ≤ 8 := hmp
      clear hmp
      clear hlt hw
      go_enter Tryd.func18, Tryd.ntmps18
      go_wp2_with fail
      refine (bmay_any k _).mono ?_
      rintro e _ ⟨rfl, rfl⟩
      rw [hm]
      go_wp2_with fail
      refine (bhas_any k n _ hk1 hk2 hn).mono ?_
      rintro e _ ⟨rfl, rfl⟩
      rw [hd]
      go_wp2_with fail
      refine (bwidth_any k _ (by omega)).mono ?_
      rintro e _ ⟨rfl, rfl⟩
      go_wp2_with (first
        | (refine wpList_make_bk _ rfl _ _ 22 rfl 9 (.string ⟨#[]⟩) 16 Tryd.underlying22 info_str rfl _ _ _ _ (m) rfl rfl rfl rfl (by omega) (by omega) ?_
           intro wn g hg hsz hBk hgr
           subst hg
           have hP : Hid (Pq w k n (m) 0 wn) := ⟨below_one (Below.refl _ _) hgr (Nat.le_refl _) (fun g hg => by cases hg), _, hBk, made_size _ _, fun j hj => absurd hj (by omega)⟩
           clear hsz hBk hgr))
      go_loopw [30] (fun i wr => ∃ j : Nat, j ≤ m ∧ i = .int .i64 j ∧ Hid (Pq w k n (m) j wr)) (fun i _ => m - (intOf i).toNat)
      case atStart => exact ⟨0, by omega, rfl, hP⟩
      case round =>
        clear hP
        obtain ⟨j, hj, rfl, hR⟩ := hrel
        by_cases hjm : j < m
        · have hnj := HN.out j hjm
          have hor := HOR.out j hjm
          have htx := Lib.hid (fun W a ha => HTX.out j W a hjm ha)
          have hor2 := Lib.hid hor
          clear hor
          go_wp2_with fail
          refine (htx.out _ _ (by rw [hmul.out, Int.emod_eq_of_lt (by omega) (by omega)]; exact hor2.out)).mono ?_
          rintro e w2 ⟨rfl, hb⟩
          obtain ⟨cs, h1, h2, h3⟩ := hR.out.blk
          obtain ⟨v, hv⟩ : ∃ v, cs[j]? = some v := ⟨_, Array.getElem?_eq_getElem (by omega)⟩
          have cK : w2.cell? ⟨w.heap.size, j, none⟩ = some v := ((h1.below hb h1.lt).cell j).trans hv
          have fK : w2.frozen? ⟨w.heap.size, j, none⟩ = false := (h1.below hb h1.lt).frozen j
          clear h1 h2 h3 hv
          have hQ := Lib.hid (hR.out.put hjm hb _ rfl)
          clear hb
          go_wp2_with fail
          go_roundw
          case rel => exact ⟨j + 1, by omega, by go_num, hQ⟩
          case measure => simp [intOf]; omega
        · obtain rfl : j = m := by omega
          have hD := HD.out _ hR.out
          have hB := Lib.hid hR.out.bel
          go_wp2_with fail
          go_ret2
          exact ⟨_, by rw [E.out.2]; rfl, by rw [E.out.1, HPL.out]; exact hD, hB.out⟩
    · have E : Hid (Bn.prefL k n = [] ∧ Bn.prefE k n = 1) := by
        have : Bn.hasB k n = false := by unfold Bn.hasB; rw [hm]; simpa using hlt
        exact ⟨by unfold Bn.prefL; rw [this]; rfl, by unfold Bn.prefE; rw [this]; rfl⟩
      have hd : decide (n < 2 ^ k) = false := decide_eq_false hlt
      clear hlt
      go_enter Tryd.func18, Tryd.ntmps18
      go_wp2_with fail
      refine (bmay_any k _).mono ?_
      rintro e _ ⟨rfl, rfl⟩
      rw [hm]
      go_wp2_with fail
      refine (bhas_any k n _ hk1 hk2 hn).mono ?_
      rintro e _ ⟨rfl, rfl⟩
      rw [hd]
      go_wp2_with fail
      go_ret2
      exact ⟨_, by rw [E.out.2]; rfl, by rw [E.out.1]; exact World.ownsRow_nil _ _ _ _, Below.refl _ _⟩

theorem power_at (a : Int) (n : Nat) (w : World) (h : n ≤ 40) (ha : a = (n : Int)) : Calls Tryd.prog 40 #[.int .i64 a] w fun e w' => e = .returned (.int .u64 (2 ^ n : Nat)) ∧ w = w' := by
  subst ha
  exact power_any n w h
theorem strsL_take (bits n j : Nat) (h : j < 2 ^ Bn.spare bits) : strsL ((Bn.prefs bits n).take j) ++ [.string (Bn.prefAt bits n j)] = strsL ((Bn.prefs bits n).take (j + 1)) := by
  unfold strsL
  rw [List.take_add_one, Bn.prefs_at bits n j h, List.map_append]
  rfl
set_option maxRecDepth 20000 in
set_option maxHeartbeats 1000000 in
theorem rPrefixes_any (b : Int) (n : Nat) (w : World) (hn : n < 4294967296) :
    Calls Tryd.prog 19 #[.int .i64 b, .int .u32 n] w fun e w' => ∃ v, e = .returned (.tuple #[v, .int .i64 (Bn.prefE b n)]) ∧ w'.ownsRow w.heap.size 9 1 v (Bn.prefL b n).length (strsL (Bn.prefL b n)) ∧ Below w.heap.size w w' := by
  obtain ⟨i0, hi0, hz0, hz1, hz2⟩ := info_parts info_str
  cases hm : Bn.may b with
  | false =>
    have E : Hid (Bn.prefL b n = [] ∧ Bn.prefE b n = 1) := ⟨by unfold Bn.prefL Bn.hasB; rw [hm]; rfl, by unfold Bn.prefE Bn.hasB; rw [hm]; rfl⟩
    have hnn := Bn.may_not hm
    clear hm
    rcases hnn with h1 | ⟨h1, h2⟩
    all_goals
      go_enter Tryd.func19, Tryd.ntmps19
      go_wp2_with fail
      go_ret2
      exact ⟨_, by rw [E.out.2]; rfl, by rw [E.out.1]; exact World.ownsRow_nil _ _ _ _, Below.refl _ _⟩
  | true =>
    obtain ⟨k, rfl, hk1, hk2⟩ := Bn.may_nat hm
    by_cases hlt : n < 2 ^ k
    · have E : Hid (Bn.prefL k n = Bn.prefs k n ∧ Bn.prefE k n = 0) := by
        have : Bn.hasB k n = true := by unfold Bn.hasB; rw [hm]; simpa using hlt
        exact ⟨by unfold Bn.prefL; rw [this]; rfl, by unfold Bn.prefE; rw [this]; rfl⟩
      obtain ⟨w1, w2, s3, hw⟩ := Bn.wid_le hk1 hk2
      have hsp : Hid ((4 : Int) * (Bn.wid k : Int) - (k : Int) = (Bn.spare k : Int)) := by show _ = _; omega
      have hmp : 2 ^ Bn.spare k ≤ 2 ^ 3 := Nat.pow_le_pow_right (by omega) s3
      have hmz : 0 < 2 ^ Bn.spare k := Nat.two_pow_pos _
      have HN : Hid (∀ i : Nat, i < 2 ^ Bn.spare k → n * 2 ^ Bn.spare k + i < 4294967296) := fun i hi => Bn.num_lt32 hk1 hk2 hlt hi
      have HTX : Hid (∀ (i : Nat) W (a : Int), i < 2 ^ Bn.spare k → a = ((n * 2 ^ Bn.spare k + i : Nat) : Int) → Calls Tryd.prog 47 #[.int .u64 a, .int .i64 (Bn.wid k : Nat)] W fun e w' => e = .returned (.string (Bn.prefAt k n i)) ∧ W = w') := fun i W a hi ha => by subst ha; exact rdigits_any _ _ W (by have := HN.out i hi; omega) (by omega)
      have hmul : Hid ((n : Int) * ((2 ^ Bn.spare k : Nat) : Int) = ((n * 2 ^ Bn.spare k : Nat) : Int)) := (Int.natCast_mul _ _).symm
      have HPL := Lib.hid (Bn.prefs_len k n)
      have HTK := Lib.hid (strsL_take k n)
      have hpk : 2 ^ k ≤ 2 ^ 32 := Nat.pow_le_pow_right (by omega) hk2
      have hpw := Lib.hid (fun W a ha => power_at a (Bn.spare k) W (by omega) ha)
      have hpw2 := Lib.hid (fun W => power_any k W (by omega))
      generalize hPf : Bn.prefs k n = PL at *
      generalize Bn.prefAt k n = PA at *
      generalize Bn.spare k = s at *
      generalize hN : n * 2 ^ s = N at *
      clear hN
      generalize hm2 : 2 ^ s = m at *
      clear hm2
      generalize 2 ^ k = q at *
      have hq : q ≤ 4294967296 := hpk
      have hm8 : m ≤ 8 := hmp
      clear hmp hpk hw hm
      go_enter Tryd.func19, Tryd.ntmps19
      go_wp2_with fail
      refine (hpw2.out _).mono ?_
      rintro e _ ⟨rfl, rfl⟩
      go_wp2_with fail
      refine (rwidth_any k _ (by omega)).mono ?_
      rintro e _ ⟨rfl, rfl⟩
      go_wp2_with fail
      refine (hpw.out _ _ hsp.out).mono ?_
      rintro e _ ⟨rfl, rfl⟩
      go_wp2_with fail
      go_loopw [8, 9] (fun v i wr => ∃ j : Nat, j ≤ m ∧ i = .int .u64 j ∧ Hid (wr.ownsRow w.heap.size 9 1 v j (strsL (PL.take j))) ∧ Hid (Below w.heap.size w wr)) (fun _ i _ => m - (intOf i).toNat)
      case atStart => exact ⟨0, by omega, rfl, Lib.hid (World.ownsRow_nil _ _ _ _), Lib.hid (Below.refl _ _)⟩
      case round =>
        obtain ⟨j, hj, rfl, hR, hB⟩ := hrel
        by_cases hjm : j < m
        · have hnj := HN.out j hjm
          have htk := Lib.hid (HTK.out j hjm)
          have htx := Lib.hid (fun W a ha => HTX.out j W a hjm ha)
          have h0 := hB.out.size
          go_wp2_with fail
          refine (htx.out _ _ (by rw [hmul.out, IntKind.wrap_u64, IntKind.wrap_u64]; omega)).mono ?_
          rintro e _ ⟨rfl, rfl⟩
          generalize PA j = x at *
          go_wp2_with (at_builtin; refine wpList_append_own _ rfl _ _ _ rfl w.heap.size 9 i0 _ 1 16 Tryd.underlying22 hi0 hz0 hz1 hz2 rfl (by omega) u8 j _ rfl (hR.out.alloc _) ⟨wr.heap.size, 0, none⟩ 1 1 [.string x] rfl rfl (World.news_of_block (heap_alloc_new _ _)) (by simp [Value.oneCell']) (by unfold maxLen; omega) (by omega) (by simp; omega) ?_; intro v2 w6 hown2 hgrow2 _)
          have hB6 := Lib.hid ((hB.out.alloc h0 _).grown hgrow2 (by simp; omega) (by intro g hg; exact (hR.out.lt g hg).1))
          clear hgrow2
          have hO := Lib.hid hown2
          clear hown2
          go_wp2_with fail
          go_roundw
          case rel => exact ⟨j + 1, by omega, by go_num, by rw [← htk.out]; exact hO, hB6⟩
          case measure => simp [intOf]; omega
        · obtain rfl : j = m := by omega
          have hfin : Hid (PL.take j = PL) := List.take_of_length_le (by rw [HPL.out]; exact Nat.le_refl _)
          go_wp2_with fail
          go_ret2
          exact ⟨_, by rw [E.out.2]; rfl, by rw [E.out.1, HPL.out]; have := hR.out; rw [hfin.out] at this; exact this, hB.out⟩
    · have E : Hid (Bn.prefL k n = [] ∧ Bn.prefE k n = 1) := by
        have : Bn.hasB k n = false := by unfold Bn.hasB; rw [hm]; simpa using hlt
        exact ⟨by unfold Bn.prefL; rw [this]; rfl, by unfold Bn.prefE; rw [this]; rfl⟩
      have hpk : 2 ^ k ≤ 2 ^ 32 := Nat.pow_le_pow_right (by omega) hk2
      have hpw2 := Lib.hid (fun W => power_any k W (by omega))
      generalize 2 ^ k = q at *
      have hq : q ≤ 4294967296 := hpk
      clear hpk hm
      go_enter Tryd.func19, Tryd.ntmps19
      go_wp2_with fail
      refine (hpw2.out _).mono ?_
      rintro e _ ⟨rfl, rfl⟩
      go_wp2_with fail
      go_ret2
      exact ⟨_, by rw [E.out.2]; rfl, by rw [E.out.1]; exact World.ownsRow_nil _ _ _ _, Below.refl _ _⟩
end Go.Proofs.YtflfmacfodkedaaDoor
