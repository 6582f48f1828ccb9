/-
  The statement ShaParts, walked: it returns true.
-/
import Derived.Test.YtibjbpinbbmkjaaDoorShaLaws2
import Derived.Test.YtibjbpinbbmkjaaDoorArgs2
import Derived.Test.YtibjbpinbbmkjaaDoorLex
namespace Go.Proofs.YtibjbpinbbmkjaaDoor
set_option linter.unusedSimpArgs false
set_option linter.unusedVariables false
open Go Go.RowKit
attribute [local irreducible] Sh.sha

/-- The first k texts, one behind the other. -/
def allTo (ls : List ByteArray) : Nat → ByteArray
  | 0 => ⟨#[]⟩
  | k + 1 => allTo ls k ++ ls.getD k ByteArray.empty
theorem allTo_size (ls : List ByteArray) : ∀ k, (allTo ls k).size = sizeTo ls k
  | 0 => rfl
  | k + 1 => by rw [allTo, ByteArray.size_append, allTo_size ls k]; rfl
theorem byt_front (s : ByteArray) (n : Nat) (h : n ≤ s.size) : byt (s.extract 0 n) = (byt s).take n := by
  unfold byt
  rw [Lib.extract_data, List.drop_zero, List.map_take, Nat.sub_zero]
theorem byt_cut (s : ByteArray) (n : Nat) (h : n ≤ s.size) : byt (s.extract 0 n) ++ byt (s.extract n s.size) = byt s := by
  rw [byt_front s n h, byt_extract, List.take_append_drop]
theorem extract_size (s : ByteArray) (n : Nat) (h : n ≤ s.size) : (s.extract 0 n).size = n ∧ (s.extract n s.size).size = s.size - n := by
  constructor <;> (rw [ByteArray.size_extract]; omega)
set_option maxRecDepth 100000 in
set_option maxHeartbeats 4000000 in
theorem shaParts_walk (ls : List ByteArray) (A : Option Addr) (cap : Nat) (n2 : Nat) (A2 : Option Addr) (cap2 : Nat) (f : Nat → Nat) (w : World) (hc : Strs w A ls) (hz : ∀ i, i < ls.length → (ls.getD i ByteArray.empty).size ≤ maxLen) (hl : ls.length ≤ maxLen)
    (hc2 : Elems w A2 n2 (fun i => .int .u8 (f i : Nat))) (hf : ∀ i, f i < 256) (hn2 : n2 ≤ maxLen) (hT : Tb w) (hD : Digs w) :
    Calls Tryd.prog 4 #[.slice A ls.length cap, .slice A2 n2 cap2] w fun e w' => e = .returned (.bool true) ∧ Below w.heap.size w w' := by
  have hB : Hid (Below w.heap.size w w) := Below.refl _ _
  have L0 := Lib.hid (fun W h => long_any ls A cap W h hz hl)
  have HC := Lib.hid hc
  have HC2 := Lib.hid hc2
  have HF := Lib.hid hf
  clear hc hc2 hz hf
  unfold maxLen at hn2 hl
  cases hb : longB ls with
  | true =>
    rw [hb] at L0
    clear hb
    go_enter Tryd.func4, Tryd.ntmps4
    go_wp2_with fail
    refine (L0.out _ HC.out).mono ?_
    rintro e _ ⟨rfl, rfl⟩
    go_wp2_with fail
    refine (sawake_any _ (hT.below hB.out hT.lt) (hD.below hB.out hD.lt)).mono ?_
    rintro e w1 ⟨rfl, hb⟩
    replace hB := Lib.hid (hB.out.trans (hb.mono hB.out.size))
    clear hb
    go_wp2_with fail
    go_ret
    exact ⟨rfl, hB.out⟩
  | false =>
    have hsz := Lib.hid (short_sizes hb)
    have hlen := short_len hb
    rw [hb] at L0
    clear hb
    by_cases h3 : 300 < n2
    · go_enter Tryd.func4, Tryd.ntmps4
      go_wp2_with fail
      refine (L0.out _ HC.out).mono ?_
      rintro e _ ⟨rfl, rfl⟩
      go_wp2_with fail
      refine (sawake_any _ (hT.below hB.out hT.lt) (hD.below hB.out hD.lt)).mono ?_
      rintro e w2 ⟨rfl, hb⟩
      replace hB := Lib.hid (hB.out.trans (hb.mono hB.out.size))
      clear hb
      go_wp2_with fail
      go_ret
      exact ⟨rfl, hB.out⟩
    · go_enter Tryd.func4, Tryd.ntmps4
      go_wp2_with fail
      refine (L0.out _ HC.out).mono ?_
      rintro e _ ⟨rfl, rfl⟩
      go_wp2_with fail
      refine (sawake_any _ (hT.below hB.out hT.lt) (hD.below hB.out hD.lt)).mono ?_
      rintro e w3 ⟨rfl, hb⟩
      replace hB := Lib.hid (hB.out.trans (hb.mono hB.out.size))
      clear hb
      go_wp2_with fail
      refine (new_any _ (hT.below hB.out hT.lt)).mono ?_
      rintro e w4 ⟨rfl, hb, hz, hH⟩
      have o0 : w.heap.size ≤ w3.heap.size := hB.out.size
      have H0 := Lib.hid hH
      clear hH hz
      replace hB := Lib.hid (hB.out.trans (hb.mono hB.out.size))
      clear hb
      go_wp2_with fail
      refine (new_any _ (hT.below hB.out hT.lt)).mono ?_
      rintro e w5 ⟨rfl, hb, hz, hH⟩
      have n0_1 : w3.heap.size ≠ w4.heap.size := by have := H0.out.lt; omega
      have o1 : w.heap.size ≤ w4.heap.size := hB.out.size
      have H1 := Lib.hid hH
      clear hH hz
      replace H0 := Lib.hid (H0.out.below hb H0.out.lt)
      replace hB := Lib.hid (hB.out.trans (hb.mono hB.out.size))
      clear hb
      go_wp2_with fail
      go_loopw [7, 8] (fun a i wr => ∃ (k : Nat) (x : ByteArray), k ≤ ls.length ∧ i = .int .i64 k ∧ a = .string x ∧ Hid (x = allTo ls k) ∧ Hid (Below w.heap.size w wr) ∧ Hid (Held wr w3.heap.size (byt x)) ∧ Hid (Held wr w4.heap.size [])) (fun _ i _ => ls.length - (intOf i).toNat)
      case atStart => exact ⟨0, _, by omega, rfl, rfl, rfl, hB, H0, H1⟩
      case round =>
        clear hB H0 H1
        obtain ⟨k, x, hk, rfl, rfl, hx, hB, H0, H1⟩ := hrel
        have xsz : x.size < 3000 := by rw [hx.out, allTo_size]; exact (hsz.out k hk).2
        by_cases hlt : k < ls.length
        · obtain ⟨a, rfl, hab, hc0⟩ := HC.out k hlt
          have hnx : Hid (allTo ls (k + 1) = x ++ ls.getD k ByteArray.empty) := by
            show _ = _
            rw [hx.out]; rfl
          have ysz : x.size + (ls.getD k ByteArray.empty).size < 3000 := by
            have := (hsz.out (k + 1) hlt).2
            unfold sizeTo at this
            rw [← allTo_size, ← hx.out] at this
            exact this
          generalize ls.getD k ByteArray.empty = y at *
          have HC0 := Lib.hid hc0
          clear hc0
          have c1 : wr.cell? (a.add k) = some (.string y) := (hB.out.cell (by rw [add_block]; exact hab)).trans HC0.out
          have E1 := Lib.hid (sum_is (byt x ++ byt y) (x ++ y) (by rw [cat_byt]))
          go_wp2_with fail
          refine (write_any w3.heap.size _ y _ H0.out (hT.below hB.out hT.lt) (hT.lt.mono o0) (by simp only [List.length_append, List.length_nil, byt_len]; omega)).mono ?_
          rintro e w6 ⟨rfl, hG, hH⟩
          replace H1 := Lib.hid (H1.out.grow hG (fun e => n0_1.symm (Option.some.inj e)))
          replace H0 := Lib.hid hH
          replace hB := Lib.hid (below_one hB.out hG hB.out.size (fun g hg => by cases hg; exact o0))
          clear hG hH
          have c2 : w6.cell? (a.add k) = some (.string y) := (hB.out.cell (by rw [add_block]; exact hab)).trans HC0.out
          go_wp2_with fail
          refine (sum_any w3.heap.size _ _ H0.out (hT.below hB.out hT.lt) (by simp only [List.length_append, List.length_nil, byt_len]; omega)).mono ?_
          rintro e w7 ⟨rfl, hb⟩
          rw [E1.out]
          replace H0 := Lib.hid (H0.out.below hb H0.out.lt)
          replace H1 := Lib.hid (H1.out.below hb H1.out.lt)
          replace hB := Lib.hid (hB.out.trans (hb.mono hB.out.size))
          clear hb
          go_wp2_with fail
          refine (shaSum_any (x ++ y) _ (hT.below hB.out hT.lt) (by simp only [ByteArray.size_append]; omega)).mono ?_
          rintro e w8 ⟨rfl, hb⟩
          replace H0 := Lib.hid (H0.out.below hb H0.out.lt)
          replace H1 := Lib.hid (H1.out.below hb H1.out.lt)
          replace hB := Lib.hid (hB.out.trans (hb.mono hB.out.size))
          clear hb
          go_wp2_with fail
          have h0' := H0.out
          rw [← cat_byt] at h0'
          have H0' := Lib.hid h0'
          clear h0'
          go_roundw
          case rel => exact ⟨k + 1, _, by omega, by go_num, rfl, hnx.out.symm, hB, H0', H1⟩
          case measure => simp [intOf]; omega
        · obtain rfl : k = ls.length := by omega
          go_wp2_with fail
          obtain ⟨wy, rfl⟩ : ∃ wy : World, wy = wr := ⟨_, rfl⟩
          go_loopw [9, 10] (fun r i wr => ∃ (k : Nat) (r' : ByteArray) (L : List Nat), k ≤ n2 ∧ i = .int .i64 k ∧ r = .string r' ∧ r'.size < 3000 ∧ L.length < 3000 ∧ Hid (L ++ byt r' = byt x) ∧ Hid (Below w.heap.size w wr) ∧ Hid (Held wr w3.heap.size (byt x)) ∧ Hid (Held wr w4.heap.size L)) (fun _ i _ => n2 - (intOf i).toNat)
          case atStart => exact ⟨0, _, [], by omega, rfl, rfl, xsz, by simp, rfl, hB, H0, H1⟩
          case round =>
            clear hB H0 H1
            obtain ⟨k, r, L, hk, rfl, rfl, hr, hLl, hL, hB, H0, H1⟩ := hrel
            by_cases hlt2 : k < n2
            · obtain ⟨a, rfl, hab, hc0⟩ := HC2.out k hlt2
              have hb := HF.out k
              have hc0 : w.cell? (a.add k) = some (.int .u8 ((f k : Nat) : Int)) := hc0
              generalize f k = b at *
              have c1 : wr.cell? (a.add k) = some (.int .u8 (b : Int)) := (hB.out.cell (by rw [add_block]; exact hab)).trans hc0
              clear hc0
              obtain ⟨n, hn⟩ : ∃ n, n = min r.size b := ⟨_, rfl⟩
              have em : min (r.size : Int) (b : Int) = (n : Int) := by omega
              have hn1 : n ≤ r.size := by omega
              clear hn
              have es := extract_size r n hn1
              have ES := Lib.hid es
              clear es
              go_wp2_with fail
              refine (write_any w4.heap.size _ _ _ H1.out (hT.below hB.out hT.lt) (hT.lt.mono o1) (by rw [ES.out.1]; omega)).mono ?_
              rintro e w9 ⟨rfl, hG, hH⟩
              replace H0 := Lib.hid (H0.out.grow hG (fun e => n0_1 (Option.some.inj e)))
              replace H1 := Lib.hid hH
              replace hB := Lib.hid (below_one hB.out hG hB.out.size (fun g hg => by cases hg; exact o1))
              clear hG hH
              go_wp2_with fail
              go_roundw
              case rel => exact ⟨k + 1, _, _, by omega, by go_num, rfl, by rw [ES.out.2]; omega, by rw [List.length_append, byt_len, ES.out.1]; have := congrArg List.length hL.out; rw [List.length_append, byt_len, byt_len] at this; omega, by show _ = _; rw [List.append_assoc, byt_cut r n hn1]; exact hL.out, hB, H0, H1⟩
              case measure => simp [intOf]; omega
            · obtain rfl : k = n2 := by omega
              go_wp2_with fail
              refine (write_any w4.heap.size _ r _ H1.out (hT.below hB.out hT.lt) (hT.lt.mono o1) (by omega)).mono ?_
              rintro e w10 ⟨rfl, hG, hH⟩
              replace H0 := Lib.hid (H0.out.grow hG (fun e => n0_1 (Option.some.inj e)))
              replace H1 := Lib.hid hH
              replace hB := Lib.hid (below_one hB.out hG hB.out.size (fun g hg => by cases hg; exact o1))
              clear hG hH
              rw [hL.out] at H1
              go_wp2_with fail
              refine (sum_any w4.heap.size _ _ H1.out (hT.below hB.out hT.lt) (by rw [byt_len]; omega)).mono ?_
              rintro e w11 ⟨rfl, hb⟩
              rw [sum_is (byt x) x rfl]
              replace H0 := Lib.hid (H0.out.below hb H0.out.lt)
              replace H1 := Lib.hid (H1.out.below hb H1.out.lt)
              replace hB := Lib.hid (hB.out.trans (hb.mono hB.out.size))
              clear hb
              go_wp2_with fail
              refine (sum_any w3.heap.size _ _ H0.out (hT.below hB.out hT.lt) (by rw [byt_len]; omega)).mono ?_
              rintro e w12 ⟨rfl, hb⟩
              rw [sum_is (byt x) x rfl]
              replace H0 := Lib.hid (H0.out.below hb H0.out.lt)
              replace H1 := Lib.hid (H1.out.below hb H1.out.lt)
              replace hB := Lib.hid (hB.out.trans (hb.mono hB.out.size))
              clear hb
              go_wp2_with fail
              refine (len_any w4.heap.size _ _ H1.out).mono ?_
              rintro e _ ⟨rfl, rfl⟩
              rw [byt_len]
              go_wp2_with fail
              go_ret
              exact ⟨rfl, hB.out⟩
end Go.Proofs.YtibjbpinbbmkjaaDoor
