/-
  The statement ShaWrites, walked: it returns true.
-/
import Derived.Test.YtibjbpinbbmkjaaDoorShaLaws3
import Derived.Test.YtibjbpinbbmkjaaDoorShaRSum
namespace Go.Proofs.YtibjbpinbbmkjaaDoor
set_option linter.unusedSimpArgs false
set_option linter.unusedVariables false
open Go Go.RowKit
attribute [local irreducible] Sh.sha

set_option maxRecDepth 100000 in
set_option maxHeartbeats 4000000 in
theorem shaWrites_walk (ls : List ByteArray) (A : Option Addr) (cap : Nat) (n2 : Nat) (A2 : Option Addr) (cap2 : Nat) (f : Nat → Bool) (w : World) (hc : Strs w A ls) (hz : ∀ i, i < ls.length → (ls.getD i ByteArray.empty).size ≤ maxLen) (hl : ls.length ≤ maxLen)
    (hc2 : Elems w A2 n2 (fun i => .bool (f i))) (hn2 : n2 ≤ maxLen) (hT : Tb w) (hD : Digs w) :
    Calls Tryd.prog 5 #[.slice A ls.length cap, .slice A2 n2 cap2] w fun e w' => e = .returned (.bool true) ∧ Below w.heap.size w w' := by
  have hB : Hid (Below w.heap.size w w) := Below.refl _ _
  have L0 := Lib.hid (fun W h => long_any ls A cap W h hz hl)
  have HC := Lib.hid hc
  have HC2 := Lib.hid hc2
  clear hc hc2 hz
  unfold maxLen at hn2 hl
  cases hb : longB ls with
  | true =>
    rw [hb] at L0
    clear hb
    go_enter Tryd.func5, Tryd.ntmps5
    go_wp2_with fail
    refine (L0.out _ HC.out).mono ?_
    rintro e _ ⟨rfl, rfl⟩
    go_wp2_with fail
    refine (sawake_any _ (hT.below hB.out hT.lt) (hD.below hB.out hD.lt)).mono ?_
    rintro e w1 ⟨rfl, hb⟩
    replace hB := Lib.hid (hB.out.trans (hb.mono hB.out.size))
    clear hb
    go_wp2_with fail
    go_ret
    exact ⟨rfl, hB.out⟩
  | false =>
    have hsz := Lib.hid (short_sizes hb)
    have hlen := short_len hb
    rw [hb] at L0
    clear hb
    go_enter Tryd.func5, Tryd.ntmps5
    go_wp2_with fail
    refine (L0.out _ HC.out).mono ?_
    rintro e _ ⟨rfl, rfl⟩
    go_wp2_with fail
    refine (new_any _ (hT.below hB.out hT.lt)).mono ?_
    rintro e w2 ⟨rfl, hb, hz, hH⟩
    have o0 : w.heap.size ≤ w.heap.size := hB.out.size
    have H0 := Lib.hid hH
    clear hH hz
    replace hB := Lib.hid (hB.out.trans (hb.mono hB.out.size))
    clear hb
    go_wp2_with fail
    go_loopw [5, 6, 7] (fun p a i wr => ∃ (k g : Nat) (x : ByteArray), k ≤ ls.length ∧ i = .int .i64 k ∧ p = .pointer (some ⟨g, 0, none⟩) ∧ w.heap.size ≤ g ∧ a = .string x ∧ Hid (x = allTo ls k) ∧ Hid (Below w.heap.size w wr) ∧ Hid (Held wr g (byt x))) (fun _ _ i _ => ls.length - (intOf i).toNat)
    case atStart => exact ⟨0, _, _, by omega, rfl, rfl, o0, rfl, rfl, hB, H0⟩
    case round =>
      clear hB H0 o0
      obtain ⟨k, g, x, hk, rfl, rfl, o0, rfl, hx, hB, H0⟩ := hrel
      have xsz : x.size < 3000 := by rw [hx.out, allTo_size]; exact (hsz.out k hk).2
      by_cases hlt : k < ls.length
      · obtain ⟨a, rfl, hab, hc0⟩ := HC.out k hlt
        have hnx : Hid (allTo ls (k + 1) = x ++ ls.getD k ByteArray.empty) := by
          show _ = _
          rw [hx.out]; rfl
        have ysz : x.size + (ls.getD k ByteArray.empty).size < 3000 := by
          have := (hsz.out (k + 1) hlt).2
          unfold sizeTo at this
          rw [← allTo_size, ← hx.out] at this
          exact this
        generalize ls.getD k ByteArray.empty = y at *
        have HC0 := Lib.hid hc0
        clear hc0
        have c1 : wr.cell? (a.add k) = some (.string y) := (hB.out.cell (by rw [add_block]; exact hab)).trans HC0.out
        have E1 := Lib.hid (sum_is (byt x ++ byt y) (x ++ y) (by rw [cat_byt]))
        have e2 : (byt x ++ byt y).length = x.size + y.size := by rw [List.length_append, byt_len, byt_len]
        have E2 := Lib.hid e2
        clear e2
        by_cases hn : k < n2
        · obtain ⟨a2, rfl, hab2, hc3⟩ := HC2.out k hn
          have hc3 : w.cell? (a2.add k) = some (.bool (f k)) := hc3
          generalize f k = b at *
          have HC3 := Lib.hid hc3
          clear hc3
          cases b with
          | true =>
            go_wp2_with fail
            refine (write_any g _ y _ H0.out (hT.below hB.out hT.lt) (hT.lt.mono o0) (by simp only [List.length_append, List.length_nil, byt_len]; omega)).mono ?_
            rintro e w3 ⟨rfl, hG, hH⟩
            replace H0 := Lib.hid hH
            replace hB := Lib.hid (below_one hB.out hG hB.out.size (fun g hg => by cases hg; exact o0))
            clear hG hH
            have c2 : w3.cell? (a.add k) = some (.string y) := (hB.out.cell (by rw [add_block]; exact hab)).trans HC0.out
            have c3 : w3.cell? (a2.add k) = some (.bool true) := (hB.out.cell (by rw [add_block]; exact hab2)).trans HC3.out
            go_wp2_with fail
            refine (copy_any g _ _ H0.out).mono ?_
            rintro e w4 ⟨rfl, hb, hz, hH⟩
            have n0_1 : g ≠ w3.heap.size := by have := H0.out.lt; omega
            have o1 : w.heap.size ≤ w3.heap.size := hB.out.size
            have H1 := Lib.hid hH
            clear hH hz
            replace H0 := Lib.hid (H0.out.below hb H0.out.lt)
            replace hB := Lib.hid (hB.out.trans (hb.mono hB.out.size))
            clear hb
            go_wp2_with fail
            refine (write_any g _ ⟨#[115, 112, 111, 105, 108, 116]⟩ _ H0.out (hT.below hB.out hT.lt) (hT.lt.mono o0) (by simp only [List.length_append, byt_len]; show _ + 6 ≤ _; omega)).mono ?_
            rintro e w5 ⟨rfl, hG, hH⟩
            replace H1 := Lib.hid (H1.out.grow hG (fun e => n0_1.symm (Option.some.inj e)))
            replace H0 := Lib.hid hH
            replace hB := Lib.hid (below_one hB.out hG hB.out.size (fun g hg => by cases hg; exact o0))
            clear hG hH
            go_wp2_with fail
            refine (sum_any w3.heap.size _ _ H1.out (hT.below hB.out hT.lt) (by simp only [List.length_append, List.length_nil, byt_len]; omega)).mono ?_
            rintro e w6 ⟨rfl, hb⟩
            rw [E1.out]
            replace H0 := Lib.hid (H0.out.below hb H0.out.lt)
            replace H1 := Lib.hid (H1.out.below hb H1.out.lt)
            replace hB := Lib.hid (hB.out.trans (hb.mono hB.out.size))
            clear hb
            go_wp2_with fail
            refine (rsum_any (x ++ y) _ (by simp only [ByteArray.size_append]; omega)).mono ?_
            rintro e w7 ⟨rfl, hb⟩
            rw [show strN (Sh.sha (byt (x ++ y))) = shaS (x ++ y) from rfl]
            replace H0 := Lib.hid (H0.out.below hb H0.out.lt)
            replace H1 := Lib.hid (H1.out.below hb H1.out.lt)
            replace hB := Lib.hid (hB.out.trans (hb.mono hB.out.size))
            clear hb
            go_wp2_with fail
            refine (len_any w3.heap.size _ _ H1.out).mono ?_
            rintro e _ ⟨rfl, rfl⟩
            rw [E2.out]
            go_wp2_with fail
            have h0' := H1.out
            rw [← cat_byt] at h0'
            have H0' := Lib.hid h0'
            clear h0'
            go_roundw
            case rel => exact ⟨k + 1, _, _, by omega, by go_num, rfl, o1, rfl, hnx.out.symm, hB, H0'⟩
            case measure => simp [intOf]; omega
          | false =>
            go_wp2_with fail
            refine (write_any g _ y _ H0.out (hT.below hB.out hT.lt) (hT.lt.mono o0) (by simp only [List.length_append, List.length_nil, byt_len]; omega)).mono ?_
            rintro e w8 ⟨rfl, hG, hH⟩
            replace H0 := Lib.hid hH
            replace hB := Lib.hid (below_one hB.out hG hB.out.size (fun g hg => by cases hg; exact o0))
            clear hG hH
            have c2 : w8.cell? (a.add k) = some (.string y) := (hB.out.cell (by rw [add_block]; exact hab)).trans HC0.out
            have c3 : w8.cell? (a2.add k) = some (.bool false) := (hB.out.cell (by rw [add_block]; exact hab2)).trans HC3.out
            go_wp2_with fail
            refine (sum_any g _ _ H0.out (hT.below hB.out hT.lt) (by simp only [List.length_append, List.length_nil, byt_len]; omega)).mono ?_
            rintro e w9 ⟨rfl, hb⟩
            rw [E1.out]
            replace H0 := Lib.hid (H0.out.below hb H0.out.lt)
            replace hB := Lib.hid (hB.out.trans (hb.mono hB.out.size))
            clear hb
            go_wp2_with fail
            refine (rsum_any (x ++ y) _ (by simp only [ByteArray.size_append]; omega)).mono ?_
            rintro e w10 ⟨rfl, hb⟩
            rw [show strN (Sh.sha (byt (x ++ y))) = shaS (x ++ y) from rfl]
            replace H0 := Lib.hid (H0.out.below hb H0.out.lt)
            replace hB := Lib.hid (hB.out.trans (hb.mono hB.out.size))
            clear hb
            go_wp2_with fail
            refine (len_any g _ _ H0.out).mono ?_
            rintro e _ ⟨rfl, rfl⟩
            rw [E2.out]
            go_wp2_with fail
            have h0' := H0.out
            rw [← cat_byt] at h0'
            have H0' := Lib.hid h0'
            clear h0'
            go_roundw
            case rel => exact ⟨k + 1, _, _, by omega, by go_num, rfl, o0, rfl, hnx.out.symm, hB, H0'⟩
            case measure => simp [intOf]; omega
        · go_wp2_with fail
          refine (write_any g _ y _ H0.out (hT.below hB.out hT.lt) (hT.lt.mono o0) (by simp only [List.length_append, List.length_nil, byt_len]; omega)).mono ?_
          rintro e w11 ⟨rfl, hG, hH⟩
          replace H0 := Lib.hid hH
          replace hB := Lib.hid (below_one hB.out hG hB.out.size (fun g hg => by cases hg; exact o0))
          clear hG hH
          have c2 : w11.cell? (a.add k) = some (.string y) := (hB.out.cell (by rw [add_block]; exact hab)).trans HC0.out
          go_wp2_with fail
          refine (sum_any g _ _ H0.out (hT.below hB.out hT.lt) (by simp only [List.length_append, List.length_nil, byt_len]; omega)).mono ?_
          rintro e w12 ⟨rfl, hb⟩
          rw [E1.out]
          replace H0 := Lib.hid (H0.out.below hb H0.out.lt)
          replace hB := Lib.hid (hB.out.trans (hb.mono hB.out.size))
          clear hb
          go_wp2_with fail
          refine (rsum_any (x ++ y) _ (by simp only [ByteArray.size_append]; omega)).mono ?_
          rintro e w13 ⟨rfl, hb⟩
          rw [show strN (Sh.sha (byt (x ++ y))) = shaS (x ++ y) from rfl]
          replace H0 := Lib.hid (H0.out.below hb H0.out.lt)
          replace hB := Lib.hid (hB.out.trans (hb.mono hB.out.size))
          clear hb
          go_wp2_with fail
          refine (len_any g _ _ H0.out).mono ?_
          rintro e _ ⟨rfl, rfl⟩
          rw [E2.out]
          go_wp2_with fail
          have h0' := H0.out
          rw [← cat_byt] at h0'
          have H0' := Lib.hid h0'
          clear h0'
          go_roundw
          case rel => exact ⟨k + 1, _, _, by omega, by go_num, rfl, o0, rfl, hnx.out.symm, hB, H0'⟩
          case measure => simp [intOf]; omega
      · obtain rfl : k = ls.length := by omega
        go_wp2_with fail
        refine (sawake_any _ (hT.below hB.out hT.lt) (hD.below hB.out hD.lt)).mono ?_
        rintro e w14 ⟨rfl, hb⟩
        replace hB := Lib.hid (hB.out.trans (hb.mono hB.out.size))
        clear hb
        go_wp2_with fail
        go_ret
        exact ⟨rfl, hB.out⟩
end Go.Proofs.YtibjbpinbbmkjaaDoor
