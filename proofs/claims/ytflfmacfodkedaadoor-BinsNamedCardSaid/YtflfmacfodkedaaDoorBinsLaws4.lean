/-
  The statement BinsNamed, walked: it returns true.
-/
import Derived.Test.YtflfmacfodkedaaDoorBinsLaws2
namespace Go.Proofs.YtflfmacfodkedaaDoor
set_option linter.unusedSimpArgs false
set_option linter.unusedVariables false
open Go Go.RowKit

theorem hexd_part (k : Nat) (h : k < 16) : Nm.part (Hx.hexd k).toNat = true := by
  have : ∀ j : Fin 16, Nm.part (Hx.hexd j).toNat = true := by decide
  exact this ⟨k, h⟩
theorem role_name {k n : Nat} {p : ByteArray} (h : Bn.wrong k p = 0) : Nm.role (p ++ ⟨#[45]⟩ ++ Bn.text n (Bn.wid k)) = true := by
  obtain ⟨_, hr, hz⟩ := Bn.wrong_zero h
  have e : p ++ ⟨#[45]⟩ ++ Bn.text n (Bn.wid k) = p ++ ((⟨#[45]⟩ : ByteArray) ++ Bn.text n (Bn.wid k)) := byt_inj (by rw [cat_byt, cat_byt, cat_byt, cat_byt, List.append_assoc])
  have h1 : (⟨#[45]⟩ : ByteArray).size = 1 := rfl
  have hz2 : Int.toNat k = k := rfl
  rw [e, Nm.role_app _ _ hr, ByteArray.size_append, h1, Bn.text_size, decide_eq_true (by rw [hz2] at hz; omega), Bool.and_true, Nm.partTo_iff]
  intro j hj
  have hs : j < ((⟨#[45]⟩ : ByteArray) ++ Bn.text n (Bn.wid k)).size := by rw [ByteArray.size_append, h1, Bn.text_size]; exact hj
  rw [Uf.b_at _ j hs, ← Hx.byteAt_lt _ j hs, Hx.byteAt_app]
  split
  · rename_i h
    obtain rfl : j = 0 := by omega
    decide
  · rename_i h
    rw [h1, Bn.text_byte n _ (j - 1) (by omega)]
    exact hexd_part _ (Nat.mod_lt _ (by omega))
theorem byt_front (s : ByteArray) (n : Nat) : byt (s.extract 0 n) = (byt s).take n := by
  unfold byt
  rw [Lib.extract_data, List.drop_zero, Nat.sub_zero, List.map_take]
theorem join_front (p t : ByteArray) : (p ++ ⟨#[45]⟩ ++ t).extract 0 p.size = p := byt_inj (by
  rw [byt_front, cat_byt, cat_byt, List.append_assoc, List.take_left' (byt_len p)])
theorem join_back (p t : ByteArray) : (p ++ ⟨#[45]⟩ ++ t).extract (p.size + 1) (p ++ ⟨#[45]⟩ ++ t).size = t := byt_inj (by
  have h1 : byt ⟨#[45]⟩ = [45] := rfl
  rw [byt_extract, cat_byt, cat_byt, List.drop_left' (by rw [List.length_append, byt_len, h1]; rfl)])
theorem join_mid (p t : ByteArray) (h : p.size < (p ++ ⟨#[45]⟩ ++ t).size) : (p ++ ⟨#[45]⟩ ++ t)[p.size].toNat = 45 := by
  have h1 : byt ⟨#[45]⟩ = [45] := rfl
  rw [byt_getElem _ _ h, cat_byt, cat_byt, h1, List.append_assoc, List.getD_eq_getElem?_getD, List.getElem?_append_right (by rw [byt_len]; exact Nat.le_refl _), byt_len, Nat.sub_self]
  rfl
theorem join_size (p t : ByteArray) : (p ++ ⟨#[45]⟩ ++ t).size = p.size + 1 + t.size := by rw [ByteArray.size_append, ByteArray.size_append]; rfl
theorem join_inj {p t u : ByteArray} (h : p ++ ⟨#[45]⟩ ++ t = p ++ ⟨#[45]⟩ ++ u) : t = u := by rw [← join_back p t, ← join_back p u, h]
theorem role_none {b : Int} {p : ByteArray} {n : Nat} (h : Bn.roleE b p n ≠ 0) : Bn.roleS b p n = ⟨#[]⟩ := by unfold Bn.roleS; rw [if_neg h]
theorem role_yes {b : Int} {p : ByteArray} {n : Nat} (h : Bn.roleE b p n = 0) : ∃ k : Nat, b = k ∧ 1 ≤ k ∧ k ≤ 32 ∧ Bn.wrong k p = 0 ∧ n < 2 ^ k ∧ Bn.roleS b p n = p ++ ⟨#[45]⟩ ++ Bn.text n (Bn.wid k) := by
  by_cases hw : Bn.wrong b p = 0
  · obtain ⟨hm, _, _⟩ := Bn.wrong_zero hw
    obtain ⟨k, rfl, h1, h2⟩ := Bn.may_nat hm
    by_cases hn : n < 2 ^ k
    · exact ⟨k, rfl, h1, h2, hw, hn, (role_ok hw hn).1⟩
    · have := (role_arg hw hn).2
      omega
  · have := (role_err (n := n) hw).2
    omega
attribute [local irreducible] Sh.sha shaS Bn.prd Bn.dig Bn.goesS Bn.roleS Bn.roleE Bn.wrong Bn.prefL Bn.binN Bn.isP Bn.bin Bn.be4
set_option maxRecDepth 20000 in
set_option maxHeartbeats 1000000 in
theorem binsNamedN_walk (th b : Int) (A : Option Addr) (ls : List ByteArray) (cap : Nat) (p : ByteArray) (n m : Nat) (w : World) (hp0 : p.size ≤ maxLen) (hn : n < 4294967296) (hm : m < 4294967296) (hT : Tb w) (hD : Digs w) :
    Calls Tryd.prog 10 #[.agg #[.int .i64 th, .slice A ls.length cap, .int .i64 b, .string p], .int .u32 n, .int .u32 m] w fun e w' => e = .returned (.bool true) ∧ Below w.heap.size w w' := by
  have hB : Hid (Below w.heap.size w w) := Below.refl _ _
  have hk := Lib.hid (Bk.fresh w 34 #[.int .i64 th, .slice A ls.length cap, .int .i64 b, .string p])
  replace hB := Lib.hid (hB.out.alloc hB.out.size (.cells #[.int .i64 th, .slice A ls.length cap, .int .i64 b, .string p] 34 (0, 0)))
  by_cases h : 1000 < p.size
  · have hgt : decide ((1000 : Int) < p.size) = true := by simp; omega
    go_enter Tryd.func10, Tryd.ntmps10
    go_wp2_with fail
    refine (bawake_any _ (hT.below hB.out hT.lt) (hD.below hB.out hD.lt)).mono ?_
    rintro e w1 ⟨rfl, hb⟩
    replace hk := Lib.hid (hk.out.below hb hk.out.lt)
    replace hB := Lib.hid (hB.out.trans (hb.mono hB.out.size))
    clear hb
    go_wp2_with fail
    go_ret
    exact ⟨rfl, hB.out⟩
  have hgt : decide ((1000 : Int) < p.size) = false := by simp; omega
  have kz : p.size ≤ 1000 := by omega
  by_cases he : Bn.roleE b p n = 0
  · obtain ⟨k, rfl, hk1, hk2, hw, hlt, hs⟩ := role_yes he
    have hW := Bn.wid_le hk1 hk2
    have hWb : Hid (((k : Int) + 3) / 4 = (Bn.wid k : Int)) := by show _ = _; unfold Bn.wid; omega
    have hts := Bn.text_size n (Bn.wid k)
    have hnum := Bn.text_num n (Bn.wid k) (by rw [Bn.pow16, ← hW.2.2.2]; exact Nat.lt_of_lt_of_le hlt (Nat.pow_le_pow_right (by omega) (by omega))) hW.1 (by omega)
    have hname := role_name (n := n) hw
    have hjf := join_front p (Bn.text n (Bn.wid k))
    have hjb := join_back p (Bn.text n (Bn.wid k))
    have hjm := join_mid p (Bn.text n (Bn.wid k))
    have hjz := join_size p (Bn.text n (Bn.wid k))
    have hp64 : p.size ≤ 64 := by have := (Bn.wrong_zero hw).2.2; omega
    have HEQ : Hid (Bn.roleE k p m = 0 → (((p ++ ⟨#[45]⟩ ++ Bn.text n (Bn.wid k)).toList == (Bn.roleS k p m).toList) = ((n : Int) == (m : Int)))) := fun hm0 => by
      obtain ⟨k2, e2, _, _, hw2, hlt2, hs2⟩ := role_yes hm0
      obtain rfl : k2 = k := by omega
      rw [hs2]
      by_cases e : n = m
      · subst e; rw [beq_self_eq_true, beq_self_eq_true]
      · rw [beq_eq_false_iff_ne.2 (show (n : Int) ≠ m by omega), beq_eq_false_iff_ne]
        intro hh
        rw [ByteArray.toList_eq, ByteArray.toList_eq] at hh
        exact e (Bn.text_inj (by rw [Bn.pow16, ← hW.2.2.2]; exact Nat.lt_of_lt_of_le hlt (Nat.pow_le_pow_right (by omega) (by omega))) (by rw [Bn.pow16, ← hW.2.2.2]; exact Nat.lt_of_lt_of_le hlt2 (Nat.pow_le_pow_right (by omega) (by omega))) (join_inj (Hx.bytes_ext hh)))
    have HS := Lib.hid hs
    have HE := Lib.hid he
    have hq1 : (p ++ ⟨#[45]⟩ ++ Bn.text n (Bn.wid k)).size ≤ maxLen := by rw [hjz, hts]; unfold maxLen; omega
    have hWq := hW.2.1
    clear hs he hW hw
    generalize p ++ ⟨#[45]⟩ ++ Bn.text n (Bn.wid k) = s at *
    generalize Bn.text n (Bn.wid k) = t at *
    generalize Bn.wid k = W at *
    obtain ⟨hnum1, hnum2⟩ := hnum
    rw [hjz, hts] at hjb
    have hps : p.size < s.size := by omega
    have hix := fun V => index_at (P := Tryd.prog) 9 Tryd.underlying9 s (p.size : Int) p.size rfl hps V
    rw [hjm hps] at hix
    clear hjm
    have hjf2 : ((s.extract 0 p.size).toList != p.toList) = false := by rw [hjf]; exact bne_self_eq_false _
    have hjf3 : ((s.extract 0 p.size).toList == p.toList) = true := by rw [hjf]; exact beq_self_eq_true _
    have TR : Hid (∀ V, Calls Tryd.prog 33 #[.string s] V fun e w' => e = .returned (.bool true) ∧ w' = V) := fun V => by
      have := role_any s V hq1
      rw [hname] at this
      exact this.mono fun e w' h => ⟨h.1, h.2.symm⟩
    clear hname hjf
    by_cases hem : Bn.roleE k p m = 0
    · have HE2 := Lib.hid (HEQ.out hem)
      have HM := Lib.hid hem
      clear HEQ hem
      go_enter Tryd.func10, Tryd.ntmps10
      go_wp2_with fail
      refine (bawake_any _ (hT.below hB.out hT.lt) (hD.below hB.out hD.lt)).mono ?_
      rintro e w2 ⟨rfl, hb⟩
      replace hk := Lib.hid (hk.out.below hb hk.out.lt)
      replace hB := Lib.hid (hB.out.trans (hb.mono hB.out.size))
      clear hb
      have c0 : w2.cell? ⟨w.heap.size, 0, none⟩ = some (.int .i64 th) := hk.out.cell 0
      have c1 : w2.cell? ⟨w.heap.size, 1, none⟩ = some (.slice A ls.length cap) := hk.out.cell 1
      have c2 : w2.cell? ⟨w.heap.size, 2, none⟩ = some (.int .i64 k) := hk.out.cell 2
      have c3 : w2.cell? ⟨w.heap.size, 3, none⟩ = some (.string p) := hk.out.cell 3
      go_wp2_with fail
      refine (bRole_any th k A ls.length cap p n _ (by omega) hn).mono ?_
      rintro e w3 ⟨rfl, hb⟩
      rw [HS.out, HE.out]
      replace hk := Lib.hid (hk.out.below hb hk.out.lt)
      replace hB := Lib.hid (hB.out.trans (hb.mono hB.out.size))
      clear hb
      clear c0 c1 c2 c3
      have c0 : w3.cell? ⟨w.heap.size, 0, none⟩ = some (.int .i64 th) := hk.out.cell 0
      have c1 : w3.cell? ⟨w.heap.size, 1, none⟩ = some (.slice A ls.length cap) := hk.out.cell 1
      have c2 : w3.cell? ⟨w.heap.size, 2, none⟩ = some (.int .i64 k) := hk.out.cell 2
      have c3 : w3.cell? ⟨w.heap.size, 3, none⟩ = some (.string p) := hk.out.cell 3
      go_wp2_with fail
      refine (bRole_any th k A ls.length cap p m _ (by omega) hm).mono ?_
      rintro e w4 ⟨rfl, hb⟩
      rw [HM.out]
      replace hk := Lib.hid (hk.out.below hb hk.out.lt)
      replace hB := Lib.hid (hB.out.trans (hb.mono hB.out.size))
      clear hb
      clear c0 c1 c2 c3
      have c0 : w4.cell? ⟨w.heap.size, 0, none⟩ = some (.int .i64 th) := hk.out.cell 0
      have c1 : w4.cell? ⟨w.heap.size, 1, none⟩ = some (.slice A ls.length cap) := hk.out.cell 1
      have c2 : w4.cell? ⟨w.heap.size, 2, none⟩ = some (.int .i64 k) := hk.out.cell 2
      have c3 : w4.cell? ⟨w.heap.size, 3, none⟩ = some (.string p) := hk.out.cell 3
      go_wp2_with fail
      have hWb2 := hWb.out
      go_quiet ((go_at_call 33; exact Calls.quiet_of_same (TR.out _)))
      replace hB := Lib.hid (below_drawn hB.out nq)
      have hbb : ((s.toList == (Bn.roleS k p m).toList) == ((n : Int) == (m : Int))) = true := by rw [HE2.out]; exact beq_self_eq_true _
      go_wp2_with fail
      refine (number_any _ _ (by rw [hts]; unfold maxLen; omega)).mono ?_
      rintro e _ ⟨rfl, rfl⟩
      rw [hnum1, hnum2]
      go_wp2_with fail
      go_ret
      exact ⟨rfl, hB.out⟩
    · have hneM : (Bn.roleE k p m != 0) = true := bne_iff_ne.2 hem
      clear HEQ hem
      go_enter Tryd.func10, Tryd.ntmps10
      go_wp2_with fail
      refine (bawake_any _ (hT.below hB.out hT.lt) (hD.below hB.out hD.lt)).mono ?_
      rintro e w5 ⟨rfl, hb⟩
      replace hk := Lib.hid (hk.out.below hb hk.out.lt)
      replace hB := Lib.hid (hB.out.trans (hb.mono hB.out.size))
      clear hb
      have c0 : w5.cell? ⟨w.heap.size, 0, none⟩ = some (.int .i64 th) := hk.out.cell 0
      have c1 : w5.cell? ⟨w.heap.size, 1, none⟩ = some (.slice A ls.length cap) := hk.out.cell 1
      have c2 : w5.cell? ⟨w.heap.size, 2, none⟩ = some (.int .i64 k) := hk.out.cell 2
      have c3 : w5.cell? ⟨w.heap.size, 3, none⟩ = some (.string p) := hk.out.cell 3
      go_wp2_with fail
      refine (bRole_any th k A ls.length cap p n _ (by omega) hn).mono ?_
      rintro e w6 ⟨rfl, hb⟩
      rw [HS.out, HE.out]
      replace hk := Lib.hid (hk.out.below hb hk.out.lt)
      replace hB := Lib.hid (hB.out.trans (hb.mono hB.out.size))
      clear hb
      clear c0 c1 c2 c3
      have c0 : w6.cell? ⟨w.heap.size, 0, none⟩ = some (.int .i64 th) := hk.out.cell 0
      have c1 : w6.cell? ⟨w.heap.size, 1, none⟩ = some (.slice A ls.length cap) := hk.out.cell 1
      have c2 : w6.cell? ⟨w.heap.size, 2, none⟩ = some (.int .i64 k) := hk.out.cell 2
      have c3 : w6.cell? ⟨w.heap.size, 3, none⟩ = some (.string p) := hk.out.cell 3
      go_wp2_with fail
      refine (bRole_any th k A ls.length cap p m _ (by omega) hm).mono ?_
      rintro e w7 ⟨rfl, hb⟩
      replace hk := Lib.hid (hk.out.below hb hk.out.lt)
      replace hB := Lib.hid (hB.out.trans (hb.mono hB.out.size))
      clear hb
      clear c0 c1 c2 c3
      have c0 : w7.cell? ⟨w.heap.size, 0, none⟩ = some (.int .i64 th) := hk.out.cell 0
      have c1 : w7.cell? ⟨w.heap.size, 1, none⟩ = some (.slice A ls.length cap) := hk.out.cell 1
      have c2 : w7.cell? ⟨w.heap.size, 2, none⟩ = some (.int .i64 k) := hk.out.cell 2
      have c3 : w7.cell? ⟨w.heap.size, 3, none⟩ = some (.string p) := hk.out.cell 3
      go_wp2_with fail
      have hWb2 := hWb.out
      go_quiet ((go_at_call 33; exact Calls.quiet_of_same (TR.out _)))
      replace hB := Lib.hid (below_drawn hB.out nq)
      go_wp2_with fail
      refine (number_any _ _ (by rw [hts]; unfold maxLen; omega)).mono ?_
      rintro e _ ⟨rfl, rfl⟩
      rw [hnum1, hnum2]
      go_wp2_with fail
      go_ret
      exact ⟨rfl, hB.out⟩
  · have hs := role_none he
    have hne : (Bn.roleE b p n != 0) = true := bne_iff_ne.2 he
    clear he
    go_enter Tryd.func10, Tryd.ntmps10
    go_wp2_with fail
    refine (bawake_any _ (hT.below hB.out hT.lt) (hD.below hB.out hD.lt)).mono ?_
    rintro e w8 ⟨rfl, hb⟩
    replace hk := Lib.hid (hk.out.below hb hk.out.lt)
    replace hB := Lib.hid (hB.out.trans (hb.mono hB.out.size))
    clear hb
    have c0 : w8.cell? ⟨w.heap.size, 0, none⟩ = some (.int .i64 th) := hk.out.cell 0
    have c1 : w8.cell? ⟨w.heap.size, 1, none⟩ = some (.slice A ls.length cap) := hk.out.cell 1
    have c2 : w8.cell? ⟨w.heap.size, 2, none⟩ = some (.int .i64 b) := hk.out.cell 2
    have c3 : w8.cell? ⟨w.heap.size, 3, none⟩ = some (.string p) := hk.out.cell 3
    go_wp2_with fail
    refine (bRole_any th b A ls.length cap p n _ (by omega) hn).mono ?_
    rintro e w9 ⟨rfl, hb⟩
    rw [hs]
    replace hk := Lib.hid (hk.out.below hb hk.out.lt)
    replace hB := Lib.hid (hB.out.trans (hb.mono hB.out.size))
    clear hb
    clear c0 c1 c2 c3
    have c0 : w9.cell? ⟨w.heap.size, 0, none⟩ = some (.int .i64 th) := hk.out.cell 0
    have c1 : w9.cell? ⟨w.heap.size, 1, none⟩ = some (.slice A ls.length cap) := hk.out.cell 1
    have c2 : w9.cell? ⟨w.heap.size, 2, none⟩ = some (.int .i64 b) := hk.out.cell 2
    have c3 : w9.cell? ⟨w.heap.size, 3, none⟩ = some (.string p) := hk.out.cell 3
    go_wp2_with fail
    refine (bRole_any th b A ls.length cap p m _ (by omega) hm).mono ?_
    rintro e w10 ⟨rfl, hb⟩
    replace hk := Lib.hid (hk.out.below hb hk.out.lt)
    replace hB := Lib.hid (hB.out.trans (hb.mono hB.out.size))
    clear hb
    go_wp2_with fail
    go_ret
    exact ⟨rfl, hB.out⟩
theorem binsNamed_walk (th b : Int) (A : Option Addr) (ls : List ByteArray) (cap : Nat) (p : ByteArray) (n m : Int) (w : World) (hp0 : p.size ≤ maxLen) (hc : Strs w A ls) (hz : ∀ i, i < ls.length → (ls.getD i ByteArray.empty).size ≤ maxLen) (hl : ls.length ≤ maxLen) (hn : (Lit.int .u32 n).wf = true) (hm : (Lit.int .u32 m).wf = true) (hT : Tb w) (hD : Digs w) :
    Calls Tryd.prog 10 #[.agg #[.int .i64 th, .slice A ls.length cap, .int .i64 b, .string p], .int .u32 n, .int .u32 m] w fun e w' => e = .returned (.bool true) ∧ Below w.heap.size w w' := by
  have hb := bounds_u32 hn
  have hb2 := bounds_u32 hm
  obtain ⟨k, rfl⟩ := Int.eq_ofNat_of_zero_le hb.1
  obtain ⟨j, rfl⟩ := Int.eq_ofNat_of_zero_le hb2.1
  exact binsNamedN_walk th b A ls cap p k j w hp0 (by omega) (by omega) hT hD
end Go.Proofs.YtflfmacfodkedaaDoor
