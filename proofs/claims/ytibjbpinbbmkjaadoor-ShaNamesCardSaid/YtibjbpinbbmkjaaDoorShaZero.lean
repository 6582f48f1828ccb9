/-
  A hash that nobody began: what is written to it, and its sum; and nobody's hash.
-/
import Derived.Test.YtibjbpinbbmkjaaDoorShaTop
namespace Go.Proofs.YtibjbpinbbmkjaaDoor
set_option linter.unusedSimpArgs false
set_option linter.unusedVariables false
open Go Go.RowKit

theorem begun_cells : ((((((((((zeroH.setIfInBounds 0 (.bool true)).setIfInBounds 1 (vU 0x6a09e667)).setIfInBounds 2 (vU 0xbb67ae85)).setIfInBounds 3 (vU 0x3c6ef372)).setIfInBounds 4 (vU 0xa54ff53a)).setIfInBounds 5 (vU 0x510e527f)).setIfInBounds 6 (vU 0x9b05688c)).setIfInBounds 7 (vU 0x1f83d9ab)).setIfInBounds 8 (vU 0x5be0cd19))) = newH := by
  simp only [zeroH, newH, List.setIfInBounds_toArray, List.set_cons_zero, List.set_cons_succ]
set_option maxRecDepth 100000 in
set_option maxHeartbeats 400000 in
theorem write_zero (h : Nat) (s : ByteArray) (w : World) (hb : Bk w h 41 zeroH) (hT : Tb w) (ho : Ov h) (hl : ([] : List Nat).length + s.size ≤ 4611686018427387904) :
    Calls Tryd.prog 16 #[.pointer (some ⟨h, 0, none⟩), .string s] w fun e w' => e = .returned (.int .i64 0) ∧ w.grownBy w' (some h) ∧ Held w' h ([] ++ byt s) := by
  obtain ⟨l, hl0⟩ : ∃ l : List Nat, l = [] := ⟨_, rfl⟩
  have hl1 : l.length + s.size ≤ 4611686018427387904 := by rw [hl0]; exact hl
  rw [← hl0]
  have HL0 := Lib.hid hl0
  clear hl hl0
  have hl := hl1
  have c0 : w.cell? ⟨h, 0, none⟩ = some (.bool false) := hb.cell 0
  have c73 : w.cell? ⟨h, 73, none⟩ = some (.int .i64 0) := hb.cell 73
  have fz : ∀ j, w.frozen? ⟨h, j, none⟩ = false := hb.frozen
  have i0 : w.cell? ⟨0, 0, none⟩ = some (vU 0x6a09e667) := hT.ini 0 (by omega)
  have i1 : w.cell? ⟨0, 1, none⟩ = some (vU 0xbb67ae85) := hT.ini 1 (by omega)
  have i2 : w.cell? ⟨0, 2, none⟩ = some (vU 0x3c6ef372) := hT.ini 2 (by omega)
  have i3 : w.cell? ⟨0, 3, none⟩ = some (vU 0xa54ff53a) := hT.ini 3 (by omega)
  have i4 : w.cell? ⟨0, 4, none⟩ = some (vU 0x510e527f) := hT.ini 4 (by omega)
  have i5 : w.cell? ⟨0, 5, none⟩ = some (vU 0x9b05688c) := hT.ini 5 (by omega)
  have i6 : w.cell? ⟨0, 6, none⟩ = some (vU 0x1f83d9ab) := hT.ini 6 (by omega)
  have i7 : w.cell? ⟨0, 7, none⟩ = some (vU 0x5be0cd19) := hT.ini 7 (by omega)
  have z1 : w.cell? ⟨h, 1, none⟩ = some (.int .u32 0) := hb.cell 1
  have z2 : w.cell? ⟨h, 2, none⟩ = some (.int .u32 0) := hb.cell 2
  have z3 : w.cell? ⟨h, 3, none⟩ = some (.int .u32 0) := hb.cell 3
  have z4 : w.cell? ⟨h, 4, none⟩ = some (.int .u32 0) := hb.cell 4
  have z5 : w.cell? ⟨h, 5, none⟩ = some (.int .u32 0) := hb.cell 5
  have z6 : w.cell? ⟨h, 6, none⟩ = some (.int .u32 0) := hb.cell 6
  have z7 : w.cell? ⟨h, 7, none⟩ = some (.int .u32 0) := hb.cell 7
  have z8 : w.cell? ⟨h, 8, none⟩ = some (.int .u32 0) := hb.cell 8
  go_enter Tryd.func16, Tryd.ntmps16
  go_wp2_with fail
  have HBK : Hid (Bk _ h 41 _) := (((((((((hb.put 0 (.bool true)).put 1 (vU 0x6a09e667)).put 2 (vU 0xbb67ae85)).put 3 (vU 0x3c6ef372)).put 4 (vU 0xa54ff53a)).put 5 (vU 0x510e527f)).put 6 (vU 0x9b05688c)).put 7 (vU 0x1f83d9ab)).put 8 (vU 0x5be0cd19))
  clear c0 c73 fz i0 i1 i2 i3 i4 i5 i6 i7 z1 z2 z3 z4 z5 z6 z7 z8
  go_loopw [1, 5] (fun s' u wr => WRel w h l (l.length + s.size) s s' u wr) (fun s' _ _ => szOf s')
  case atStart =>
    have hbk := HBK.out
    rw [begun_cells] at hbk
    refine ⟨s, l, newH.setIfInBounds 73 (.int .i64 (s.size : Int)), List.replicate 64 0, rfl, by rw [HL0.out]; rfl, rfl, one_put (one_put (one_put (one_put (one_put (one_put (one_put (one_put (one_put (one_put (one_refl _ _) _ _) _ _) _ _) _ _) _ _) _ _) _ _) _ _) _ _) _ _, hbk.put 73 _, ?_⟩
    have hm := newH_mid.grow s.size
    rw [HL0.out]
    simpa using hm
  case round =>
    clear HBK hb
    obtain ⟨r, L, cs, p, rfl, rfl, hL, hG, hB, hM⟩ := hrel
    have hlen : L.length + r.size = l.length + s.size := by have := congrArg List.length hL; simpa [byt_len] using this
    have HL := Lib.hid hL
    clear hL
    by_cases h0 : 0 < r.size
    · obtain ⟨u, hu⟩ : ∃ u, u = L.length % 64 := ⟨_, rfl⟩
      have hu64 : u < 64 := by omega
      rw [← hu]
      obtain ⟨n, hn⟩ : ∃ n, n = Nat.min r.size (64 - u) := ⟨_, rfl⟩
      have hn1 : n ≤ r.size := by rw [hn]; exact Nat.min_le_left _ _
      have hn2 : n ≤ 64 - u := by rw [hn]; exact Nat.min_le_right _ _
      have hn0 : 1 ≤ n := by rw [hn]; exact Nat.le_min.2 ⟨by omega, by omega⟩
      have hcp := run_copy_part (P := Tryd.prog) wr 26 9 3 5 h (9 + u) (64 - u) (64 - u) n r cs 41 Tryd.underlying26 (by kernel_rfl) hB hn.symm (by rw [hM.hc.size]; omega)
      have hsl := part_from h 9 u wr hu64
      have HU := Lib.hid (And.intro hu hn)
      clear hu hn
      by_cases hf : u + n = 64
      · obtain ⟨q1, q2, q3, q4⟩ := hM.full' u n r HU.out.1 hn1 hf
        have hB1 := hB.row (spl cs (9 + u) (cellsB ((byt r).take n)))
        have hG1 := one_row hG (spl cs (9 + u) (cellsB ((byt r).take n)))
        have q4 := Lib.hid q4
        go_wp2_with fail
        refine (mix_any h _ _ _ _ _ hB1 q1 (Sh.blocks_ok Sh.s0_ok _ _) q3 q2 (hT.grow hG1 ho)).mono ?_
        rintro e w2 ⟨rfl, hG2, cs', hB2, hC2⟩
        have hQ := Lib.hid (WRel.next (x := 0) HL.out hn1 (by rw [List.length_append, List.length_take, byt_len]; have := HU.out.1; omega) (one_then hG1 hG2 (Or.inl rfl)) hB2 (q4.out _ hC2))
        clear q4 hB1 hG1 hB2 hC2 hG2 q1 q3
        go_wp2_with fail
        go_roundw
        case rel => exact hQ.out
        case measure => simp [szOf]; omega
      · have q1 := hM.more' u n r HU.out.1 hn1 (by omega)
        have hB1 := hB.row (spl cs (9 + u) (cellsB ((byt r).take n)))
        have hG1 := one_row hG (spl cs (9 + u) (cellsB ((byt r).take n)))
        have hQ := Lib.hid (WRel.next (x := (u : Int) + n) HL.out hn1 (by rw [List.length_append, List.length_take, byt_len]; have := HU.out.1; omega) hG1 hB1 q1)
        clear hB1 hG1 q1
        go_wp2_with fail
        go_roundw
        case rel => exact hQ.out
        case measure => simp [szOf]; omega
    · have hr0 : byt r = [] := List.eq_nil_of_length_eq_zero (by rw [byt_len]; omega)
      have hQ := Lib.hid (And.intro HL.out hr0)
      clear hr0
      go_wp2_with fail
      go_ret
      obtain ⟨e1, e2⟩ := hQ.out
      rw [e2, List.append_nil] at e1
      subst e1
      refine ⟨rfl, hG, cs, p, hB, ?_⟩
      rw [show (l ++ byt s).length = l.length + s.size by rw [List.length_append, byt_len]]
      exact hM
set_option maxHeartbeats 4000000 in
theorem sumz_any (h : Nat) (l : List Nat) (w : World) (cs : Array Value) (hb : Bk w h 41 cs) (hcs : cs.size = 74) (hall : cs.all (·.oneCell') = true) (hc73 : cs[73]? = some (.int .i64 (l.length : Int)))
    (hW : Hid (∀ (w1 : World) (h1 : Nat) (s : ByteArray), Bk w1 h1 41 cs → Tb w1 → Ov h1 → l.length + s.size ≤ 4611686018427387904 → Calls Tryd.prog 16 #[.pointer (some ⟨h1, 0, none⟩), .string s] w1 fun e w' => e = .returned (.int .i64 0) ∧ w1.grownBy w' (some h1) ∧ Held w' h1 (l ++ byt s))) (hT : Tb w) (hl : l.length ≤ 1099511627776) :
    Calls Tryd.prog 17 #[.pointer (some ⟨h, 0, none⟩)] w fun e w' => e = .returned (.string (strN (Sh.sha l))) ∧ Below w.heap.size w w' := by
  have hlt := hb.lt
  have hz := hash_zero
  have hst := run_storeCells_new (P := Tryd.prog) w 41 zeroH cs (by rw [hcs]; exact hash_size) (by rw [hcs]; rfl) hall
  have c73 : w.cell? ⟨h, 73, none⟩ = some (.int .i64 (l.length : Int)) := (hb.cell 73).trans hc73
  go_enter Tryd.func17, Tryd.ntmps17
  go_wp2_with (refine wpList_load_row rfl 41 _ rfl h rfl 41 cs (0, 0) _ hb Tryd.underlying41 rfl (by rw [hcs]; exact hash_size) ?_)
  refine (repeat_at (Sh.zeros l.length) _ _ (by unfold Sh.zeros; omega) (by unfold Sh.zeros; omega)).mono ?_
  rintro e w1 ⟨rfl, hb1⟩
  have g1 : w.heap.size < w1.heap.size := Nat.lt_of_lt_of_le (by simp) hb1.size
  have hB1 := Lib.hid ((((Below.refl _ _).alloc (Nat.le_refl _) (.cells cs 41)).trans (hb1.mono (by simp))) : Below w.heap.size w w1)
  have hH1 : Bk w1 w.heap.size 41 cs := (Bk.fresh w _ cs).below hb1 (by simp)
  have hZ : (strN (List.replicate (Sh.zeros l.length) 0)).size ≤ 64 := by
    rw [← byt_len, byt_strN _ (by simp), List.length_replicate]; unfold Sh.zeros; omega
  have hZ2 := Lib.hid (byt_strN (List.replicate (Sh.zeros l.length) 0) (by simp))
  generalize strN (List.replicate (Sh.zeros l.length) 0) = z at *
  have hT1 := hT.below hB1.out hT.lt
  clear hb1 hst hb hcs c73 hall hc73
  go_wp2_with fail
  refine (hW.out w1 w.heap.size _ hH1 hT1 hT.lt (by rw [ByteArray.size_append]; show _ + (1 + z.size) ≤ _; omega)).mono ?_
  rintro e w2 ⟨rfl, hG2, hH2⟩
  rw [cat_byt, hZ2.out] at hH2
  have hB2 := Lib.hid (below_one hB1.out hG2 (by omega) (fun g hg => by cases hg; exact Nat.le_refl _))
  have hH2 := Lib.hid hH2
  have g2 : w.heap.size < w2.heap.size := Nat.lt_of_lt_of_le g1 hG2.size
  obtain ⟨n, hn⟩ : ∃ n, n = l.length := ⟨_, rfl⟩
  rw [← hn]
  have HN := Lib.hid hn
  have hn2 : n ≤ 1099511627776 := by omega
  clear hn hG2 hH1 hB1 hZ2 hT1
  go_wp2_with fail
  go_loopw [31] (fun i wr => ∃ k : Nat, k ≤ 8 ∧ i = .int .i64 k ∧ TR w2 w2.heap.size n k wr) (fun i _ => 8 - (intOf i).toNat)
  case atStart => exact ⟨0, by omega, rfl, (Below.refl _ _).alloc (Nat.le_refl _) _, _, Bk.fresh w2 _ _, rfl, fun j hj => absurd hj (by omega)⟩
  case round =>
    obtain ⟨k, hk, rfl, hR⟩ := hrel
    by_cases hk8 : k < 8
    · have c0 := (hR.blk.elim fun ds h => h.1.frozen k)
      have hcell : ∃ v, wr.cell? ⟨w2.heap.size, k, none⟩ = some v := hR.blk.elim fun ds h => ⟨ds[k]'(by omega), by rw [h.1.cell k]; exact Array.getElem?_eq_getElem (by omega)⟩
      obtain ⟨v, cv⟩ := hcell
      have hR := Lib.hid hR
      have hkk : k = 0 ∨ k = 1 ∨ k = 2 ∨ k = 3 ∨ k = 4 ∨ k = 5 ∨ k = 6 ∨ k = 7 := by omega
      rcases hkk with rfl | rfl | rfl | rfl | rfl | rfl | rfl | rfl
      all_goals
        go_wp2_with fail
        go_roundw
        case rel => refine ⟨_, ?_, ?_, hR.out.put (Nat.le_refl _) ?_ _ ?_⟩ <;> first | omega | rfl | (simp [Sh.tail8] <;> omega)
        case measure => simp [intOf]
    · obtain rfl : k = 8 := by omega
      have hcv := hR.say
      have hts : (strN (Sh.tail8 n)).size = 8 := by simp [strN, Sh.tail8, ByteArray.size]
      have htb := Lib.hid (byt_strN (Sh.tail8 n) (by intro y hy; unfold Sh.tail8 at hy; simp at hy; omega))
      have hH3 := Lib.hid (hH2.out.below hR.bel g2)
      have hB3 := Lib.hid (hB2.out.trans (hR.bel.mono (by omega)))
      generalize strN (Sh.tail8 n) = ts at *
      have hT3 := Lib.hid (hT.below hB3.out hT.lt)
      have g3 : w.heap.size < wr.heap.size := Nat.lt_of_lt_of_le g2 hR.bel.size
      have hR := Lib.hid hR
      clear hH2 hB2
      go_wp2_with fail
      refine (write_any w.heap.size _ _ wr hH3.out hT3.out hT.lt (by rw [hts]; simp only [List.length_append, List.length_replicate]; have : (byt ⟨#[128]⟩).length = 1 := rfl; have : Sh.zeros l.length ≤ 64 := by unfold Sh.zeros; omega
                                                                     omega)).mono ?_
      rintro e w4 ⟨rfl, hG4, hH4⟩
      have hB4 := Lib.hid (below_one hB3.out hG4 (by omega) (fun g hg => by cases hg; exact Nat.le_refl _))
      have g4 : w.heap.size < w4.heap.size := Nat.lt_of_lt_of_le g3 hG4.size
      have hpad : l ++ (byt ⟨#[128]⟩ ++ List.replicate (Sh.zeros l.length) 0) ++ byt ts = Sh.padded l := by
        rw [htb.out, HN.out]; rfl
      rw [hpad] at hH4
      clear hpad hG4 hH3 hB3 hT3 hcv
      obtain ⟨cs4, p4, hb4, hm4⟩ := hH4
      have hS : Hid (Sh.sha l = (Sh.blocks Sh.s0 (Sh.padded l) ((Sh.padded l).length / 64)).bytes) := rfl
      have hok := Sh.blocks_ok Sh.s0_ok (Sh.padded l) ((Sh.padded l).length / 64)
      have hst := hm4.hc.state
      generalize Sh.blocks Sh.s0 (Sh.padded l) ((Sh.padded l).length / 64) = S at *
      have h8 := eight_of (fun j hj => (hb4.cell _).trans (hst j hj))
      clear hst hm4 hb4
      obtain ⟨i0, hi0, hz0, hz1, hz2⟩ := info_parts info_u8
      go_wp2_with (at_make; refine wpList_make_own _ rfl _ _ 26 rfl w.heap.size 5 i0 _ 1 Tryd.underlying26 hi0 hz0 hz1 _ _ _ 32 rfl rfl (by omega) (by rw [hz2]; omega) (by unfold maxLen; omega) (by omega) ?_; intro w5 hown hgrow; obtain ⟨e0, e1, e2, e3, e4, e5, e6, e7⟩ := h8.grow hgrow (by simp) g4)
      have hB5 := Lib.hid (hB4.out.grown hgrow (by omega) (by intro k hk; cases hk))
      clear hgrow h8 hB4 e0 e1 e2 e3 e4 e5 e6 e7
      have hok := Lib.hid hok
      go_loopw [7, 49] (fun v i wr => ∃ k : Nat, k ≤ 8 ∧ i = .int .i64 k ∧ wr.ownsRow w.heap.size 5 1 v (4 * k) (cellsB (S.bytes.take (4 * k))) ∧ Hid (Below w.heap.size w wr)) (fun _ i _ => 8 - (intOf i).toNat)
      case atStart => exact ⟨0, by omega, rfl, hown, hB5⟩
      case round =>
        clear hown hB5
        obtain ⟨k, hk, rfl, hown, hB⟩ := hrel
        have hwr := hB.out.size
        by_cases hk8 : k < 8
        · have hix := index8 S k hk8 wr
          have lx := ok_lt hok.out k
          have hbm := Lib.hid (bytes_more S k hk8)
          generalize S.l.getD k 0 = x at *
          have hown := Lib.hid hown
          go_wp2_with (at_builtin; refine wpList_append_own _ rfl _ _ _ rfl w.heap.size 5 i0 _ 1 1 Tryd.underlying26 hi0 hz0 hz1 hz2 rfl (by omega) u7 (4 * k) _ rfl (hown.out.alloc _) ⟨wr.heap.size, 0, none⟩ 4 4 [.int .u8 ((x : Int) / 16777216), .int .u8 ((x : Int) / 65536 % 256), .int .u8 ((x : Int) / 256 % 256), .int .u8 ((x : Int) % 256)] rfl rfl (World.news_of_block (heap_alloc_new _ _)) (by simp [Value.oneCell']) (by unfold maxLen; omega) (by omega) (by simp; omega) ?_; intro v2 w6 hown2 hgrow2 _)
          have hB6 := Lib.hid ((hB.out.alloc (by omega) _).grown hgrow2 (by simp; omega) (by intro g hg; exact (hown.out.lt g hg).1))
          clear hgrow2
          go_roundw
          case rel => exact ⟨k + 1, by omega, by go_num, by rw [hbm.out, cellsB_app]; exact hown2, hB6⟩
          case measure => simp [intOf]; omega
        · obtain rfl : k = 8 := by omega
          have e : cellsB (S.bytes.take (4 * 8)) = cellsU8 (S.bytes.map UInt8.ofNat) := by
            rw [hS.out.symm, cellsB_u8 _ (Sh.sha_lt l), hS.out]; rfl
          rw [e] at hown
          have hcv := run_convert_own (P := Tryd.prog) 26 5 9 Tryd.underlying26 Tryd.underlying5 Tryd.underlying9 hown
          clear hown e
          go_wp2_with fail
          go_ret
          exact ⟨by rw [hS.out]; rfl, hB.out⟩
theorem sum_zero (h : Nat) (w : World) (hb : Bk w h 41 zeroH) (hT : Tb w) :
    Calls Tryd.prog 17 #[.pointer (some ⟨h, 0, none⟩)] w fun e w' => e = .returned (.string (strN (Sh.sha []))) ∧ Below w.heap.size w w' :=
  sumz_any h [] w zeroH hb rfl (by simp [zeroH, Value.oneCell']) rfl (Lib.hid (fun w1 h1 s hb hT ho hl => write_zero h1 s w1 hb hT ho hl)) hT (by decide)
theorem write_nil (s : ByteArray) (w : World) : Calls Tryd.prog 16 #[.pointer none, .string s] w fun e w' => e = .returned (.int .i64 2) ∧ w = w' := by
  go_enter Tryd.func16, Tryd.ntmps16
  go_wp2_with fail
  go_ret
  exact ⟨rfl, rfl⟩
theorem sum_nil (w : World) : Calls Tryd.prog 17 #[.pointer none] w fun e w' => e = .returned (.string ⟨#[]⟩) ∧ w = w' := by
  go_enter Tryd.func17, Tryd.ntmps17
  go_wp2_with fail
  go_ret
  exact ⟨rfl, rfl⟩
theorem len_nil (w : World) : Calls Tryd.prog 18 #[.pointer none] w fun e w' => e = .returned (.int .i64 0) ∧ w = w' := by
  go_enter Tryd.func18, Tryd.ntmps18
  go_wp2_with fail
  go_ret
  exact ⟨rfl, rfl⟩
theorem copy_nil (w : World) : Calls Tryd.prog 19 #[.pointer none] w fun e w' => e = .returned (.pointer none) ∧ w = w' := by
  go_enter Tryd.func19, Tryd.ntmps19
  go_wp2_with fail
  go_ret
  exact ⟨rfl, rfl⟩
end Go.Proofs.YtibjbpinbbmkjaaDoor
