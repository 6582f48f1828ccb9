/-
  The statement ShaApart, walked: it returns true.
-/
import Derived.Test.YtibjbpinbbmkjaaDoorShaLong
import Derived.Test.YtibjbpinbbmkjaaDoorLex
namespace Go.Proofs.YtibjbpinbbmkjaaDoor
set_option linter.unusedSimpArgs false
set_option linter.unusedVariables false
open Go Go.RowKit
attribute [local irreducible] Sh.sha

theorem sum_is (l : List Nat) (x : ByteArray) (h : l = byt x) : strN (Sh.sha l) = shaS x := by rw [h]; rfl
set_option maxRecDepth 100000 in
set_option maxHeartbeats 4000000 in
theorem shaApart_walk (s t u : ByteArray) (w : World) (hs : s.size ≤ maxLen) (ht : t.size ≤ maxLen) (hu : u.size ≤ maxLen) (hT : Tb w) (hD : Digs w) :
    Calls Tryd.prog 7 #[.string s, .string t, .string u] w fun e w' => e = .returned (.bool true) ∧ Below w.heap.size w w' := by
  have L0 : Hid (∀ W, Strs W (some ⟨w.heap.size, 0, none⟩) [s, t, u] → Calls Tryd.prog 14 #[.slice (some ⟨w.heap.size, 0, none⟩) 3 3] W fun e w' => e = .returned (.bool (longB [s, t, u])) ∧ W = w') := fun W h => long_any [s, t, u] _ 3 W h (by
    intro i hi
    rcases i with _ | _ | _ | i
    · exact hs
    · exact ht
    · exact hu
    · simp at hi; omega) (by unfold maxLen; simp)
  have hF : Strs (w.alloc (.cells #[.string s, .string t, .string u] 9)) (some ⟨w.heap.size, 0, none⟩) [s, t, u] := strs_of_block _ _ (Bk.fresh w 9 _)
  have hF := Lib.hid hF
  have hB : Hid (Below w.heap.size w (w.alloc (.cells #[.string s, .string t, .string u] 9))) := (Below.refl _ _).alloc (Nat.le_refl _) _
  cases hl : longB [s, t, u] with
  | true =>
    rw [hl] at L0
    go_enter Tryd.func7, Tryd.ntmps7
    go_wp2_with fail
    refine (L0.out _ hF.out).mono ?_
    rintro e _ ⟨rfl, rfl⟩

    go_wp2_with fail
    refine (sawake_any _ (hT.below hB.out hT.lt) (hD.below hB.out hD.lt)).mono ?_
    rintro e w1 ⟨rfl, hb⟩
    replace hB := Lib.hid (hB.out.trans (hb.mono hB.out.size))
    clear hb
    go_wp2_with fail
    go_ret
    exact ⟨rfl, hB.out⟩
  | false =>
    have hsz : s.size + t.size + u.size < 3000 := by
      have := (short_sizes hl 3 (by simp)).2
      simp [sizeTo] at this
      omega
    rw [hl] at L0
    have e1 := sum_is ([] ++ byt s ++ byt u) (s ++ u) (by rw [cat_byt]; simp)
    have e2 := sum_is ([] ++ byt s ++ byt t) (s ++ t) (by rw [cat_byt]; simp)
    have e3 := sum_is ([] ++ byt s ++ byt t ++ byt u) (s ++ t ++ u) (by rw [cat_byt, cat_byt]; simp)
    have E1 := Lib.hid e1
    have E2 := Lib.hid e2
    have E3 := Lib.hid e3
    have e4 : ([] ++ byt s ++ byt u).length = s.size + u.size := by simp [byt_len]
    have E4 := Lib.hid e4
    clear e1 e2 e3 e4 hl
    go_enter Tryd.func7, Tryd.ntmps7
    go_wp2_with fail
    refine (L0.out _ hF.out).mono ?_
    rintro e _ ⟨rfl, rfl⟩
    go_wp2_with fail
    refine (sawake_any _ (hT.below hB.out hT.lt) (hD.below hB.out hD.lt)).mono ?_
    rintro e w1 ⟨rfl, hb⟩
    replace hB := Lib.hid (hB.out.trans (hb.mono hB.out.size))
    clear hb
    go_wp2_with fail
    refine (new_any _ (hT.below hB.out hT.lt)).mono ?_
    rintro e w2 ⟨rfl, hb, hz, hH⟩
    have o0 : w.heap.size ≤ w1.heap.size := hB.out.size
    have H0 := Lib.hid hH
    clear hH hz
    replace hB := Lib.hid (hB.out.trans (hb.mono hB.out.size))
    clear hb
    go_wp2_with fail
    refine (write_any w1.heap.size _ s _ H0.out (hT.below hB.out hT.lt) (hT.lt.mono o0) (by simp only [List.length_append, List.length_nil, byt_len]; omega)).mono ?_
    rintro e w3 ⟨rfl, hG, hH⟩
    replace H0 := Lib.hid hH
    replace hB := Lib.hid (below_one hB.out hG hB.out.size (fun g hg => by cases hg; exact o0))
    clear hG hH
    go_wp2_with fail
    refine (copy_any w1.heap.size _ _ H0.out).mono ?_
    rintro e w4 ⟨rfl, hb, hz, hH⟩
    have n0_1 : w1.heap.size ≠ w3.heap.size := by have := H0.out.lt; omega
    have o1 : w.heap.size ≤ w3.heap.size := hB.out.size
    have H1 := Lib.hid hH
    clear hH hz
    replace H0 := Lib.hid (H0.out.below hb H0.out.lt)
    replace hB := Lib.hid (hB.out.trans (hb.mono hB.out.size))
    clear hb
    go_wp2_with fail
    refine (write_any w3.heap.size _ t _ H1.out (hT.below hB.out hT.lt) (hT.lt.mono o1) (by simp only [List.length_append, List.length_nil, byt_len]; omega)).mono ?_
    rintro e w5 ⟨rfl, hG, hH⟩
    replace H0 := Lib.hid (H0.out.grow hG (fun e => n0_1 (Option.some.inj e)))
    replace H1 := Lib.hid hH
    replace hB := Lib.hid (below_one hB.out hG hB.out.size (fun g hg => by cases hg; exact o1))
    clear hG hH
    go_wp2_with fail
    refine (copy_any w3.heap.size _ _ H1.out).mono ?_
    rintro e w6 ⟨rfl, hb, hz, hH⟩
    have n0_2 : w1.heap.size ≠ w5.heap.size := by have := H0.out.lt; omega
    have n1_2 : w3.heap.size ≠ w5.heap.size := by have := H1.out.lt; omega
    have o2 : w.heap.size ≤ w5.heap.size := hB.out.size
    have H2 := Lib.hid hH
    clear hH hz
    replace H0 := Lib.hid (H0.out.below hb H0.out.lt)
    replace H1 := Lib.hid (H1.out.below hb H1.out.lt)
    replace hB := Lib.hid (hB.out.trans (hb.mono hB.out.size))
    clear hb
    go_wp2_with fail
    refine (write_any w1.heap.size _ u _ H0.out (hT.below hB.out hT.lt) (hT.lt.mono o0) (by simp only [List.length_append, List.length_nil, byt_len]; omega)).mono ?_
    rintro e w7 ⟨rfl, hG, hH⟩
    replace H1 := Lib.hid (H1.out.grow hG (fun e => n0_1.symm (Option.some.inj e)))
    replace H2 := Lib.hid (H2.out.grow hG (fun e => n0_2.symm (Option.some.inj e)))
    replace H0 := Lib.hid hH
    replace hB := Lib.hid (below_one hB.out hG hB.out.size (fun g hg => by cases hg; exact o0))
    clear hG hH
    go_wp2_with fail
    refine (write_any w5.heap.size _ u _ H2.out (hT.below hB.out hT.lt) (hT.lt.mono o2) (by simp only [List.length_append, List.length_nil, byt_len]; omega)).mono ?_
    rintro e w8 ⟨rfl, hG, hH⟩
    replace H0 := Lib.hid (H0.out.grow hG (fun e => n0_2 (Option.some.inj e)))
    replace H1 := Lib.hid (H1.out.grow hG (fun e => n1_2 (Option.some.inj e)))
    replace H2 := Lib.hid hH
    replace hB := Lib.hid (below_one hB.out hG hB.out.size (fun g hg => by cases hg; exact o2))
    clear hG hH
    go_wp2_with fail
    refine (sum_any w1.heap.size _ _ H0.out (hT.below hB.out hT.lt) (by simp only [List.length_append, List.length_nil, byt_len]; omega)).mono ?_
    rintro e w9 ⟨rfl, hb⟩
    rw [E1.out]
    replace H0 := Lib.hid (H0.out.below hb H0.out.lt)
    replace H1 := Lib.hid (H1.out.below hb H1.out.lt)
    replace H2 := Lib.hid (H2.out.below hb H2.out.lt)
    replace hB := Lib.hid (hB.out.trans (hb.mono hB.out.size))
    clear hb
    go_wp2_with fail
    refine (shaSum_any (s ++ u) _ (hT.below hB.out hT.lt) (by simp only [ByteArray.size_append]; omega)).mono ?_
    rintro e w10 ⟨rfl, hb⟩
    replace H0 := Lib.hid (H0.out.below hb H0.out.lt)
    replace H1 := Lib.hid (H1.out.below hb H1.out.lt)
    replace H2 := Lib.hid (H2.out.below hb H2.out.lt)
    replace hB := Lib.hid (hB.out.trans (hb.mono hB.out.size))
    clear hb
    go_wp2_with fail
    refine (sum_any w3.heap.size _ _ H1.out (hT.below hB.out hT.lt) (by simp only [List.length_append, List.length_nil, byt_len]; omega)).mono ?_
    rintro e w11 ⟨rfl, hb⟩
    rw [E2.out]
    replace H0 := Lib.hid (H0.out.below hb H0.out.lt)
    replace H1 := Lib.hid (H1.out.below hb H1.out.lt)
    replace H2 := Lib.hid (H2.out.below hb H2.out.lt)
    replace hB := Lib.hid (hB.out.trans (hb.mono hB.out.size))
    clear hb
    go_wp2_with fail
    refine (shaSum_any (s ++ t) _ (hT.below hB.out hT.lt) (by simp only [ByteArray.size_append]; omega)).mono ?_
    rintro e w12 ⟨rfl, hb⟩
    replace H0 := Lib.hid (H0.out.below hb H0.out.lt)
    replace H1 := Lib.hid (H1.out.below hb H1.out.lt)
    replace H2 := Lib.hid (H2.out.below hb H2.out.lt)
    replace hB := Lib.hid (hB.out.trans (hb.mono hB.out.size))
    clear hb
    go_wp2_with fail
    refine (sum_any w5.heap.size _ _ H2.out (hT.below hB.out hT.lt) (by simp only [List.length_append, List.length_nil, byt_len]; omega)).mono ?_
    rintro e w13 ⟨rfl, hb⟩
    rw [E3.out]
    replace H0 := Lib.hid (H0.out.below hb H0.out.lt)
    replace H1 := Lib.hid (H1.out.below hb H1.out.lt)
    replace H2 := Lib.hid (H2.out.below hb H2.out.lt)
    replace hB := Lib.hid (hB.out.trans (hb.mono hB.out.size))
    clear hb
    go_wp2_with fail
    refine (shaSum_any (s ++ t ++ u) _ (hT.below hB.out hT.lt) (by simp only [ByteArray.size_append]; omega)).mono ?_
    rintro e w14 ⟨rfl, hb⟩
    replace H0 := Lib.hid (H0.out.below hb H0.out.lt)
    replace H1 := Lib.hid (H1.out.below hb H1.out.lt)
    replace H2 := Lib.hid (H2.out.below hb H2.out.lt)
    replace hB := Lib.hid (hB.out.trans (hb.mono hB.out.size))
    clear hb
    go_wp2_with fail
    refine (len_any w1.heap.size _ _ H0.out).mono ?_
    rintro e _ ⟨rfl, rfl⟩
    rw [E4.out]
    go_wp2_with fail
    go_ret
    exact ⟨rfl, hB.out⟩
end Go.Proofs.YtibjbpinbbmkjaaDoor
