/-
  The statement BinsOne, walked: it returns true.
-/
import Derived.Test.YtflfmacfodkedaaDoorBinsExp
namespace Go.Proofs.YtflfmacfodkedaaDoor
set_option linter.unusedSimpArgs false
set_option linter.unusedVariables false
open Go Go.RowKit

theorem less_pre (a b : List UInt8) : ∀ x : List UInt8, Go.Op.bytesLess (x ++ a) (x ++ b) = Go.Op.bytesLess a b
  | [] => rfl
  | c :: x => by
    show (decide (c < c) || (c == c && Go.Op.bytesLess (x ++ a) (x ++ b))) = _
    rw [less_pre a b x, beq_self_eq_true, Bool.true_and, decide_eq_false (by simp [UInt8.lt_irrefl]), Bool.false_or]
theorem txl_less : ∀ (c n m : Nat), n / 16 ^ c = m / 16 ^ c → n < m → Go.Op.bytesLess (Bn.txl m c) (Bn.txl n c) = false
  | 0, n, m, h, hl => by simp at h; omega
  | c + 1, n, m, h, hl => by
    rw [Bn.txl_front, Bn.txl_front]
    show (decide (Hx.hexd (m / 16 ^ c % 16) < Hx.hexd (n / 16 ^ c % 16)) || (Hx.hexd (m / 16 ^ c % 16) == Hx.hexd (n / 16 ^ c % 16) && Go.Op.bytesLess (Bn.txl m c) (Bn.txl n c))) = false
    obtain ⟨e1, e2⟩ := Hx.hexd_lt (m / 16 ^ c % 16) (n / 16 ^ c % 16) (Nat.mod_lt _ (by omega)) (Nat.mod_lt _ (by omega))
    rw [e1, e2]
    rw [Nat.pow_succ, ← Nat.div_div_eq_div_mul, ← Nat.div_div_eq_div_mul] at h
    have hle : n / 16 ^ c ≤ m / 16 ^ c := Nat.div_le_div_right (Nat.le_of_lt hl)
    by_cases e : n / 16 ^ c = m / 16 ^ c
    · rw [txl_less c n m e hl, Bool.and_false, decide_eq_false (by omega)]
      rfl
    · rw [decide_eq_false (by omega), beq_eq_false_iff_ne.2 (by omega)]
      rfl
theorem data_app (a b : ByteArray) : (a ++ b).data.toList = a.data.toList ++ b.data.toList := by simp
theorem prd_prefs_any (path : ByteArray) (k i : Nat) (h1 : 1 ≤ k) (h2 : k ≤ 32) (hi : i < 2 ^ k) : Bn.prd (Bn.prefs k i) path = decide (i = Bn.bin path k) := Bn.prd_prefs path k i h1 h2 hi
/-- A role's name is behind the one before it. -/
theorem role_rise (k : Nat) (p : ByteArray) (j : Nat) (hk1 : 1 ≤ k) (hk2 : k ≤ 32) (hj : j + 1 < 2 ^ k) : Go.Op.bytesLess (Bn.roleT k p (j + 1)).toList (Bn.roleT k p j).toList = false ∧ ((Bn.roleT k p (j + 1)).toList == (Bn.roleT k p j).toList) = false := by
  have hW := Bn.wid_le hk1 hk2
  have h16 : 2 ^ k ≤ 16 ^ Bn.wid k := by rw [Bn.pow16, ← hW.2.2.2]; exact Nat.pow_le_pow_right (by omega) (by omega)
  constructor
  · rw [ByteArray.toList_eq, ByteArray.toList_eq]
    unfold Bn.roleT
    simp only [data_app, List.append_assoc]
    rw [less_pre, less_pre, Bn.text_list, Bn.text_list]
    exact txl_less _ _ _ (by rw [Nat.div_eq_of_lt (by omega), Nat.div_eq_of_lt (by omega)]) (Nat.lt_succ_self _)
  · rw [beq_eq_false_iff_ne]
    intro h
    rw [ByteArray.toList_eq, ByteArray.toList_eq] at h
    have h2 := Hx.bytes_ext h
    unfold Bn.roleT at h2
    have h3 : Bn.text (j + 1) (Bn.wid k) = Bn.text j (Bn.wid k) := join_inj h2
    have := Bn.text_inj (by omega) (by omega) h3
    omega
theorem role_same (k : Nat) (p : ByteArray) (i j : Nat) (hk1 : 1 ≤ k) (hk2 : k ≤ 32) (hi : i < 2 ^ k) (hj : j < 2 ^ k) (hne : i ≠ j) : ((Bn.roleT k p i).toList != (Bn.roleT k p j).toList) = true := by
  have hW := Bn.wid_le hk1 hk2
  have h16 : 2 ^ k ≤ 16 ^ Bn.wid k := by rw [Bn.pow16, ← hW.2.2.2]; exact Nat.pow_le_pow_right (by omega) (by omega)
  rw [bne_iff_ne]
  intro h
  rw [ByteArray.toList_eq, ByteArray.toList_eq] at h
  have h2 := Hx.bytes_ext h
  unfold Bn.roleT at h2
  have h3 : Bn.text i (Bn.wid k) = Bn.text j (Bn.wid k) := join_inj h2
  exact hne (Bn.text_inj (by omega) (by omega) h3)
theorem roleT_eq (k : Nat) (p : ByteArray) (n : Nat) : Bn.roleT k p n = p ++ ⟨#[45]⟩ ++ Bn.text n (Bn.wid k) := rfl
theorem own_strs {w : World} {B n : Nat} {v : Value} {ls : List ByteArray} (h : w.ownsRow B 9 1 v n (strsL ls)) (hn : n = ls.length) : ∃ a c, v = .slice a ls.length c ∧ Strs w a ls := by
  cases ls with
  | nil =>
    obtain ⟨A, c, rfl⟩ := row_nil h hn
    exact ⟨A, c, rfl, Strs.nil _ _⟩
  | cons x r =>
    obtain ⟨g, cap, rfl, hg, hR⟩ := row_form h hn (by rw [hn]; simp)
    exact ⟨_, _, rfl, hR.strs⟩
theorem prefs_small (k i : Nat) (hk1 : 1 ≤ k) (hk2 : k ≤ 32) : (Bn.prefs k i).length ≤ maxLen ∧ ∀ j, j < (Bn.prefs k i).length → ((Bn.prefs k i).getD j ByteArray.empty).size ≤ maxLen := by
  obtain ⟨w1, w2, s3, hw⟩ := Bn.wid_le hk1 hk2
  constructor
  · rw [Bn.prefs_len]
    have : 2 ^ Bn.spare k ≤ 2 ^ 3 := Nat.pow_le_pow_right (by omega) s3
    unfold maxLen; omega
  · intro j hj
    rw [Bn.prefs_len] at hj
    rw [prefs_getD k i j hj]
    unfold Bn.prefAt
    rw [Bn.text_size]
    unfold maxLen; omega
attribute [local irreducible] Sh.sha shaS Bn.prd Bn.dig Bn.goesS Bn.roleS Bn.roleE Bn.wrong Bn.prefL Bn.binN Bn.isP Bn.bin Bn.be4 Bn.prefs Bn.prefE Bn.roleT
set_option maxRecDepth 100000 in
set_option maxHeartbeats 1000000 in
theorem binsOne_walk (th b : Int) (A : Option Addr) (ls : List ByteArray) (cap : Nat) (p path : ByteArray) (w : World) (hp0 : p.size ≤ maxLen) (hc : Strs w A ls) (hz : ∀ i, i < ls.length → (ls.getD i ByteArray.empty).size ≤ maxLen) (hl : ls.length ≤ maxLen) (hs0 : path.size ≤ maxLen) (hT : Tb w) (hD : Digs w) :
    Calls Tryd.prog 6 #[.agg #[.int .i64 th, .slice A ls.length cap, .int .i64 b, .string p], .string path] w fun e w' => e = .returned (.bool true) ∧ Below w.heap.size w w' := by
  have hB : Hid (Below w.heap.size w w) := Below.refl _ _
  have hk := Lib.hid (Bk.fresh w 34 #[.int .i64 th, .slice A ls.length cap, .int .i64 b, .string p])
  replace hB := Lib.hid (hB.out.alloc hB.out.size (.cells #[.int .i64 th, .slice A ls.length cap, .int .i64 b, .string p] 34 (0, 0)))
  have HC := Lib.hid hc
  have HZ := Lib.hid hz
  have HL := Lib.hid hl
  clear hc hz hl
  by_cases h : 1000 < p.size
  · have hgt : decide ((1000 : Int) < p.size) = true := by simp; omega
    go_enter Tryd.func6, Tryd.ntmps6
    go_wp2_with fail
    refine (bawake_any _ (hT.below hB.out hT.lt) (hD.below hB.out hD.lt)).mono ?_
    rintro e w1 ⟨rfl, hb⟩
    replace hk := Lib.hid (hk.out.below hb hk.out.lt)
    replace hB := Lib.hid (hB.out.trans (hb.mono hB.out.size))
    clear hb
    go_wp2_with fail
    go_ret
    exact ⟨rfl, hB.out⟩
  have hgt : decide ((1000 : Int) < p.size) = false := by simp; omega
  by_cases h2 : 1000 < path.size
  · have hgt2 : decide ((1000 : Int) < path.size) = true := by simp; omega
    go_enter Tryd.func6, Tryd.ntmps6
    go_wp2_with fail
    refine (bawake_any _ (hT.below hB.out hT.lt) (hD.below hB.out hD.lt)).mono ?_
    rintro e w2 ⟨rfl, hb⟩
    replace hk := Lib.hid (hk.out.below hb hk.out.lt)
    replace hB := Lib.hid (hB.out.trans (hb.mono hB.out.size))
    clear hb
    go_wp2_with fail
    go_ret
    exact ⟨rfl, hB.out⟩
  have hgt2 : decide ((1000 : Int) < path.size) = false := by simp; omega
  have hp : p.size ≤ 1000000 := by omega
  have hs1 : path.size ≤ 1000 := by omega
  clear h h2
  go_enter Tryd.func6, Tryd.ntmps6
  go_wp2_with fail
  have hg := Bk.fresh (w.alloc (.cells #[.int .i64 th, .slice A ls.length cap, .int .i64 b, .string p] 34 (0, 0))) 32 #[.int .i64 th, .slice A ls.length cap]
  rw [show (w.alloc (.cells #[.int .i64 th, .slice A ls.length cap, .int .i64 b, .string p] 34 (0, 0))).heap.size = w.heap.size + 1 by simp] at hg
  replace hB := Lib.hid (hB.out.alloc hB.out.size (.cells #[.int .i64 th, .slice A ls.length cap] 32 (0, 0)))
  replace hk := Lib.hid (hk.out.grow (World.grownBy_alloc _ (.cells #[.int .i64 th, .slice A ls.length cap] 32 (0, 0)) none) (by simp))
  generalize (w.alloc (.cells #[.int .i64 th, .slice A ls.length cap, .int .i64 b, .string p] 34 (0, 0))).alloc (.cells #[.int .i64 th, .slice A ls.length cap] 32 (0, 0)) = wl at *
  refine (long_any th A cap ls _ _ (HC.out.below hB.out) HZ.out HL.out hg).mono ?_
  rintro e _ ⟨r, rfl, hr5, rfl⟩
  clear hg
  cases r with
  | true =>
    go_wp2_with fail
    refine (bawake_any _ (hT.below hB.out hT.lt) (hD.below hB.out hD.lt)).mono ?_
    rintro e w3 ⟨rfl, hb⟩
    replace hk := Lib.hid (hk.out.below hb hk.out.lt)
    replace hB := Lib.hid (hB.out.trans (hb.mono hB.out.size))
    clear hb
    go_wp2_with fail
    go_ret
    exact ⟨rfl, hB.out⟩
  | false =>
    have hl5 : ls.length ≤ 500 := hr5 rfl
    clear hr5
    go_wp2_with fail
    refine (bawake_any _ (hT.below hB.out hT.lt) (hD.below hB.out hD.lt)).mono ?_
    rintro e w4 ⟨rfl, hb⟩
    replace hk := Lib.hid (hk.out.below hb hk.out.lt)
    replace hB := Lib.hid (hB.out.trans (hb.mono hB.out.size))
    clear hb
    have c0 : w4.cell? ⟨w.heap.size, 0, none⟩ = some (.int .i64 th) := hk.out.cell 0
    have c1 : w4.cell? ⟨w.heap.size, 1, none⟩ = some (.slice A ls.length cap) := hk.out.cell 1
    have c2 : w4.cell? ⟨w.heap.size, 2, none⟩ = some (.int .i64 b) := hk.out.cell 2
    have c3 : w4.cell? ⟨w.heap.size, 3, none⟩ = some (.string p) := hk.out.cell 3
    by_cases hw0 : Bn.wrong b p = 0
    · obtain ⟨hm, hr, h64⟩ := Bn.wrong_zero hw0
      obtain ⟨k, rfl, hk1, hk2⟩ := Bn.may_nat hm
      clear hm hr h64
      by_cases h6 : 6 < k
      · have E := goes_ok (path := path) hw0 hk2
        have hgtk : decide ((6 : Int) < (k : Int)) = true := by simp; omega
        go_wp2_with fail
        refine (bExpand_long th k A ls.length cap p _ hp hw0 h6).mono ?_
        rintro e w5 ⟨rfl, hb⟩
        replace hk := Lib.hid (hk.out.below hb hk.out.lt)
        replace hB := Lib.hid (hB.out.trans (hb.mono hB.out.size))
        clear hb
        clear c0 c1 c2 c3
        have c0 : w5.cell? ⟨w.heap.size, 0, none⟩ = some (.int .i64 th) := hk.out.cell 0
        have c1 : w5.cell? ⟨w.heap.size, 1, none⟩ = some (.slice A ls.length cap) := hk.out.cell 1
        have c2 : w5.cell? ⟨w.heap.size, 2, none⟩ = some (.int .i64 k) := hk.out.cell 2
        have c3 : w5.cell? ⟨w.heap.size, 3, none⟩ = some (.string p) := hk.out.cell 3
        go_wp2_with fail
        refine (bGoes_any th k A ls.length cap p path _ (hT.below hB.out hT.lt) hp (by omega)).mono ?_
        rintro e w6 ⟨rfl, hb⟩
        rw [hw0]
        replace hk := Lib.hid (hk.out.below hb hk.out.lt)
        replace hB := Lib.hid (hB.out.trans (hb.mono hB.out.size))
        clear hb
        clear c0 c1 c2
        replace c3 : True := trivial
        have c2 : w6.cell? ⟨w.heap.size, 2, none⟩ = some (.int .i64 k) := hk.out.cell 2
        go_wp2_with fail
        go_ret
        exact ⟨rfl, hB.out⟩
      · have hq2 : 2 ^ k ≤ 2 ^ 6 := Nat.pow_le_pow_right (by omega) (by omega)
        have hBq := Bn.bin_lt path k hk2
        have E := goes_ok (path := path) hw0 hk2
        have E2 := (role_ok hw0 hBq).1
        have HGS : Hid (Bn.goesS k p path = Bn.roleT k p (Bn.bin path k)) := E.1.trans (E2.trans (roleT_eq _ _ _).symm)
        have HPR : Hid (∀ i, i < 2 ^ k → Bn.prd (Bn.prefs k i) path = decide (i = Bn.bin path k)) := fun i hi => prd_prefs_any path k i hk1 hk2 hi
        have HRR := Lib.hid (fun j (hj : j + 1 < 2 ^ k) => role_rise k p j hk1 hk2 hj)
        have HNE := Lib.hid (fun i j hi hj hne => role_same k p i j hk1 hk2 hi hj hne)
        have HSM := Lib.hid (fun i => prefs_small k i hk1 hk2)
        clear E E2
        go_wp2_with fail
        refine (bExpand_any th k A ls cap p _ hp hw0 (by omega) (HC.out.below hB.out) (by omega)).mono ?_
        rintro e w7 ⟨g, V, U, rfl, hgw, hD, hb⟩
        have hgw2 : w.heap.size < g := by have := hk.out.lt; omega
        have HD := Lib.hid hD
        replace hk := Lib.hid (hk.out.below hb hk.out.lt)
        replace hB := Lib.hid (hB.out.trans (hb.mono hB.out.size))
        clear hb hD c0 c1 c2 c3 hgw
        have c0 : w7.cell? ⟨w.heap.size, 0, none⟩ = some (.int .i64 th) := hk.out.cell 0
        have c1 : w7.cell? ⟨w.heap.size, 1, none⟩ = some (.slice A ls.length cap) := hk.out.cell 1
        have c2 : w7.cell? ⟨w.heap.size, 2, none⟩ = some (.int .i64 k) := hk.out.cell 2
        have c3 : w7.cell? ⟨w.heap.size, 3, none⟩ = some (.string p) := hk.out.cell 3
        go_wp2_with fail
        refine (bGoes_any th k A ls.length cap p path _ (hT.below hB.out hT.lt) hp (by omega)).mono ?_
        rintro e w8 ⟨rfl, hb⟩
        rw [hw0, HGS.out]
        replace HD := Lib.hid (HD.out.below hb)
        replace hk := Lib.hid (hk.out.below hb hk.out.lt)
        replace hB := Lib.hid (hB.out.trans (hb.mono hB.out.size))
        clear hb c0 c1 c2 c3
        have hpow : ((2 ^ k : Nat) : Int) = (2 : Int) ^ k := by rw [Int.natCast_pow]; rfl
        generalize Bn.bin path k = B at *
        generalize hq : 2 ^ k = q at *
        have hpw := hpow.symm
        have hq64 : q ≤ 64 := hq2
        clear hpow hq2 hw0
        go_wp2_with fail
        go_loopw [9, 10, 11] (fun n l i wr => ∃ (j c : Nat) (t : ByteArray), j ≤ q ∧ i = .int .i64 j ∧ n = .int .i64 c ∧ c ≤ 1 ∧ l = .string t ∧ Hid (c = if B < j then 1 else 0) ∧ Hid (t = if j = 0 then ⟨#[]⟩ else Bn.roleT k p (j - 1)) ∧ Hid (Below w.heap.size w wr ∧ Bk wr w.heap.size 34 #[.int .i64 th, .slice A ls.length cap, .int .i64 k, .string p] ∧ Dq p th ls k g q V U wr)) (fun _ _ i _ => q - (intOf i).toNat)
        case atStart => exact ⟨0, 0, ⟨#[]⟩, by omega, rfl, rfl, by omega, rfl, Lib.hid (by simp), Lib.hid (by simp), Lib.hid ⟨hB.out, hk.out, HD.out⟩⟩
        case round =>
          clear hB hk HD
          obtain ⟨j, c, t, hj, rfl, rfl, hc1, rfl, hcc, htt, hR⟩ := hrel
          by_cases hlt : j < q
          · obtain ⟨hB, hk, hD⟩ := hR.out
            have hB := Lib.hid hB
            have hk := Lib.hid hk
            have HD := Lib.hid hD
            have hgl : g < wr.heap.size := hD.blk.elim fun cs h => h.1.lt
            obtain ⟨va, vc, ev, hvs⟩ := own_strs (hD.ids j hlt) rfl
            obtain ⟨ua, uc, eu, hus⟩ := own_strs (hD.pre j hlt) rfl
            have hcl := hD.cells j hlt
            rw [ev, eu] at hcl
            have HV := Lib.hid hvs
            have HU := Lib.hid hus
            clear hvs hus hD ev eu
            have d0 : ∀ dd os, (Sort.grow (redrawn wr dd) os).cell? ⟨g, j * 6, none⟩ = some (.string (Bn.roleT k p j)) := fun dd os => ((below_regrown wr dd os).cell (p := ⟨g, j * 6, none⟩) hgl).trans (by rw [Nat.mul_comm]; exact hcl 0 _ rfl)
            have f0 : wr.cell? ⟨g, j * 6, none⟩ = some (.string (Bn.roleT k p j)) := by rw [Nat.mul_comm]; exact hcl 0 _ rfl
            have d1 : ∀ dd os, (Sort.grow (redrawn wr dd) os).cell? ⟨g, j * 6 + 1, none⟩ = some (.int .i64 th) := fun dd os => ((below_regrown wr dd os).cell (p := ⟨g, j * 6 + 1, none⟩) hgl).trans (by rw [Nat.mul_comm]; exact hcl 1 _ rfl)
            have f1 : wr.cell? ⟨g, j * 6 + 1, none⟩ = some (.int .i64 th) := by rw [Nat.mul_comm]; exact hcl 1 _ rfl
            have d2 : ∀ dd os, (Sort.grow (redrawn wr dd) os).cell? ⟨g, j * 6 + 2, none⟩ = some (.slice va ls.length vc) := fun dd os => ((below_regrown wr dd os).cell (p := ⟨g, j * 6 + 2, none⟩) hgl).trans (by rw [Nat.mul_comm]; exact hcl 2 _ rfl)
            have f2 : wr.cell? ⟨g, j * 6 + 2, none⟩ = some (.slice va ls.length vc) := by rw [Nat.mul_comm]; exact hcl 2 _ rfl
            have d3 : ∀ dd os, (Sort.grow (redrawn wr dd) os).cell? ⟨g, j * 6 + 3, none⟩ = some (.bool true) := fun dd os => ((below_regrown wr dd os).cell (p := ⟨g, j * 6 + 3, none⟩) hgl).trans (by rw [Nat.mul_comm]; exact hcl 3 _ rfl)
            have f3 : wr.cell? ⟨g, j * 6 + 3, none⟩ = some (.bool true) := by rw [Nat.mul_comm]; exact hcl 3 _ rfl
            have d4 : ∀ dd os, (Sort.grow (redrawn wr dd) os).cell? ⟨g, j * 6 + 4, none⟩ = some (.slice none 0 0) := fun dd os => ((below_regrown wr dd os).cell (p := ⟨g, j * 6 + 4, none⟩) hgl).trans (by rw [Nat.mul_comm]; exact hcl 4 _ rfl)
            have f4 : wr.cell? ⟨g, j * 6 + 4, none⟩ = some (.slice none 0 0) := by rw [Nat.mul_comm]; exact hcl 4 _ rfl
            have d5 : ∀ dd os, (Sort.grow (redrawn wr dd) os).cell? ⟨g, j * 6 + 5, none⟩ = some (.slice ua (Bn.prefs k j).length uc) := fun dd os => ((below_regrown wr dd os).cell (p := ⟨g, j * 6 + 5, none⟩) hgl).trans (by rw [Nat.mul_comm]; exact hcl 5 _ rfl)
            have f5 : wr.cell? ⟨g, j * 6 + 5, none⟩ = some (.slice ua (Bn.prefs k j).length uc) := by rw [Nat.mul_comm]; exact hcl 5 _ rfl
            have b0 : ∀ dd os, (Sort.grow (redrawn wr dd) os).cell? ⟨w.heap.size, 0, none⟩ = some (.int .i64 th) := fun dd os => ((below_regrown wr dd os).cell (p := ⟨w.heap.size, 0, none⟩) hk.out.lt).trans (hk.out.cell 0)
            have b1 : ∀ dd os, (Sort.grow (redrawn wr dd) os).cell? ⟨w.heap.size, 1, none⟩ = some (.slice A ls.length cap) := fun dd os => ((below_regrown wr dd os).cell (p := ⟨w.heap.size, 1, none⟩) hk.out.lt).trans (hk.out.cell 1)
            have TS : Hid (∀ dd os, Calls Tryd.prog 29 #[.agg #[.int .i64 th, .slice va ls.length vc], .agg #[.int .i64 th, .slice A ls.length cap]] (Sort.grow (redrawn wr dd) os) fun e w' => e = .returned (.bool true) ∧ Below (Sort.grow (redrawn wr dd) os).heap.size (Sort.grow (redrawn wr dd) os) w') := fun dd os => same_any th va A vc cap ls _ (HV.out.below (below_regrown wr dd os)) (HC.out.below (hB.out.trans ((below_regrown wr dd os).mono hB.out.size))) (by omega)
            clear hcl hR
            go_wp2_with fail
            by_cases hj0 : j = 0
            · have hj1 : decide ((0 : Int) < (j : Int)) = false := by simp; omega
              have hj2 : decide (0 < j) = false := by simp; omega
              have HJ0 := Lib.hid hj0
              clear hj0
              refine wp_region_quiet_below (by kernel_rfl) (by kernel_rfl) ?_
              repeat (go_big_quiet_step ((go_at_call 29; with_reducible exact Calls.regrown_of (TS.out _ _))))
              refine wpQuiet_nil ?_
              intro wz hwz
              have hbz : Below wr.heap.size wr wz := by
                obtain ⟨pp, e⟩ := hwz
                rw [e]
                exact below_regrown _ _ _
              have HD2 := Lib.hid (HD.out.below hbz)
              have hk2z := Lib.hid (hk.out.below hbz hk.out.lt)
              have hB2 := Lib.hid (hB.out.trans (hbz.mono hB.out.size))
              have hU2 := Lib.hid (HU.out.below hbz)
              have g0 : wz.cell? ⟨g, j * 6, none⟩ = some (.string (Bn.roleT k p j)) := (hbz.cell (p := ⟨g, j * 6, none⟩) hgl).trans f0
              have g5 : wz.cell? ⟨g, j * 6 + 5, none⟩ = some (.slice ua (Bn.prefs k j).length uc) := (hbz.cell (p := ⟨g, j * 6 + 5, none⟩) hgl).trans f5
              clear hwz hbz d0 d1 d2 d3 d4 d5 f0 f1 f2 f3 f4 f5 b0 b1 TS HD HU
              go_wp2_with fail
              refine (bPrefixed_any (Bn.prefs k j) ua uc path _ (hT.below hB2.out hT.lt) (hD.below hB2.out hD.lt) hU2.out (HSM.out j).2 (HSM.out j).1 (by omega)).mono ?_
              rintro e w9 ⟨rfl, hb⟩
              rw [HPR.out j hlt]
              have hR3 : Hid (Below w.heap.size w w9 ∧ Bk w9 w.heap.size 34 #[.int .i64 th, .slice A ls.length cap, .int .i64 k, .string p] ∧ Dq p th ls k g q V U w9) := Lib.hid ⟨hB2.out.trans (hb.mono hB2.out.size), hk2z.out.below hb hk2z.out.lt, HD2.out.below hb⟩
              have hgl2 : g < wz.heap.size := HD2.out.blk.elim fun cs h => h.1.lt
              have i0 : w9.cell? ⟨g, j * 6, none⟩ = some (.string (Bn.roleT k p j)) := (hb.cell (p := ⟨g, j * 6, none⟩) hgl2).trans g0
              clear hb g0 g5 hB2 hk2z HD2 hU2
              by_cases hjB : j = B
              · have hnn : ((Bn.roleT k p j).toList != (Bn.roleT k p B).toList) = false := by rw [hjB]; exact bne_self_eq_false _
                have hnn2 : ((Bn.roleT k p j).toList == (Bn.roleT k p B).toList) = true := by rw [hjB]; exact beq_self_eq_true _
                obtain rfl : c = 0 := hcc.out.trans (if_neg (by omega))
                rw [decide_eq_true hjB]
                have hJ := Lib.hid hjB
                clear hjB
                go_wp2_with fail
                go_roundw
                case rel => exact ⟨j + 1, 1, _, by omega, by go_num, rfl, by omega, rfl, Lib.hid (by rw [if_pos (by have := hJ.out; omega)]), Lib.hid (by rw [if_neg (by omega)]; first | done | rfl), hR3⟩
                case measure => simp [intOf]; omega
              · have hJ := Lib.hid hjB
                rw [decide_eq_false hjB]
                clear hjB
                go_wp2_with fail
                go_roundw
                case rel => exact ⟨j + 1, c, _, by omega, by go_num, rfl, hc1, rfl, Lib.hid (hcc.out.trans (by have := hJ.out; by_cases hh : B < j <;> simp [hh] <;> omega)), Lib.hid (by rw [if_neg (by omega)]; first | done | rfl), hR3⟩
                case measure => simp [intOf]; omega
            · have hj1 : decide ((0 : Int) < (j : Int)) = true := by simp; omega
              have hj2 : decide (0 < j) = true := by simp; omega
              have hj3 : 0 < j := by omega
              have hj4 : (0 : Int) < (j : Int) := by omega
              have hrr := HRR.out (j - 1) (by omega)
              rw [show j - 1 + 1 = j by omega, ← htt.out.trans (if_neg hj0)] at hrr
              obtain ⟨n1, n2⟩ := hrr
              refine wp_region_quiet_below (by kernel_rfl) (by kernel_rfl) ?_
              repeat (go_big_quiet_step ((go_at_call 29; with_reducible exact Calls.regrown_of (TS.out _ _))))
              refine wpQuiet_nil ?_
              intro wz hwz
              have hbz : Below wr.heap.size wr wz := by
                obtain ⟨pp, e⟩ := hwz
                rw [e]
                exact below_regrown _ _ _
              have HD2 := Lib.hid (HD.out.below hbz)
              have hk2z := Lib.hid (hk.out.below hbz hk.out.lt)
              have hB2 := Lib.hid (hB.out.trans (hbz.mono hB.out.size))
              have hU2 := Lib.hid (HU.out.below hbz)
              have g0 : wz.cell? ⟨g, j * 6, none⟩ = some (.string (Bn.roleT k p j)) := (hbz.cell (p := ⟨g, j * 6, none⟩) hgl).trans f0
              have g5 : wz.cell? ⟨g, j * 6 + 5, none⟩ = some (.slice ua (Bn.prefs k j).length uc) := (hbz.cell (p := ⟨g, j * 6 + 5, none⟩) hgl).trans f5
              clear hwz hbz d0 d1 d2 d3 d4 d5 f0 f1 f2 f3 f4 f5 b0 b1 TS HD HU
              go_wp2_with fail
              refine (bPrefixed_any (Bn.prefs k j) ua uc path _ (hT.below hB2.out hT.lt) (hD.below hB2.out hD.lt) hU2.out (HSM.out j).2 (HSM.out j).1 (by omega)).mono ?_
              rintro e w10 ⟨rfl, hb⟩
              rw [HPR.out j hlt]
              have hR3 : Hid (Below w.heap.size w w10 ∧ Bk w10 w.heap.size 34 #[.int .i64 th, .slice A ls.length cap, .int .i64 k, .string p] ∧ Dq p th ls k g q V U w10) := Lib.hid ⟨hB2.out.trans (hb.mono hB2.out.size), hk2z.out.below hb hk2z.out.lt, HD2.out.below hb⟩
              have hgl2 : g < wz.heap.size := HD2.out.blk.elim fun cs h => h.1.lt
              have i0 : w10.cell? ⟨g, j * 6, none⟩ = some (.string (Bn.roleT k p j)) := (hb.cell (p := ⟨g, j * 6, none⟩) hgl2).trans g0
              clear hb g0 g5 hB2 hk2z HD2 hU2
              by_cases hjB : j = B
              · have hnn : ((Bn.roleT k p j).toList != (Bn.roleT k p B).toList) = false := by rw [hjB]; exact bne_self_eq_false _
                have hnn2 : ((Bn.roleT k p j).toList == (Bn.roleT k p B).toList) = true := by rw [hjB]; exact beq_self_eq_true _
                obtain rfl : c = 0 := hcc.out.trans (if_neg (by omega))
                rw [decide_eq_true hjB]
                have hJ := Lib.hid hjB
                clear hjB
                go_wp2_with fail
                go_roundw
                case rel => exact ⟨j + 1, 1, _, by omega, by go_num, rfl, by omega, rfl, Lib.hid (by rw [if_pos (by have := hJ.out; omega)]), Lib.hid (by rw [if_neg (by omega)]; first | done | rfl), hR3⟩
                case measure => simp [intOf]; omega
              · have hJ := Lib.hid hjB
                rw [decide_eq_false hjB]
                clear hjB
                go_wp2_with fail
                go_roundw
                case rel => exact ⟨j + 1, c, _, by omega, by go_num, rfl, hc1, rfl, Lib.hid (hcc.out.trans (by have := hJ.out; by_cases hh : B < j <;> simp [hh] <;> omega)), Lib.hid (by rw [if_neg (by omega)]; first | done | rfl), hR3⟩
                case measure => simp [intOf]; omega
          · obtain rfl : j = q := by omega
            obtain ⟨hB, hk, hD⟩ := hR.out
            have hB := Lib.hid hB
            have hk := Lib.hid hk
            clear hD hR
            obtain rfl : c = 1 := hcc.out.trans (if_pos hBq)
            have c2 : wr.cell? ⟨w.heap.size, 2, none⟩ = some (.int .i64 k) := hk.out.cell 2
            go_wp2_with fail
            go_ret
            exact ⟨rfl, hB.out⟩
    · have E := goes_err (path := path) hw0
      have hne : (Bn.wrong b p != 0) = true := bne_iff_ne.2 hw0
      go_wp2_with fail
      refine (bExpand_err th b A ls.length cap p _ hp hw0).mono ?_
      rintro e w11 ⟨rfl, hb⟩
      replace hk := Lib.hid (hk.out.below hb hk.out.lt)
      replace hB := Lib.hid (hB.out.trans (hb.mono hB.out.size))
      clear hb
      clear c0 c1 c2 c3
      have c0 : w11.cell? ⟨w.heap.size, 0, none⟩ = some (.int .i64 th) := hk.out.cell 0
      have c1 : w11.cell? ⟨w.heap.size, 1, none⟩ = some (.slice A ls.length cap) := hk.out.cell 1
      have c2 : w11.cell? ⟨w.heap.size, 2, none⟩ = some (.int .i64 b) := hk.out.cell 2
      have c3 : w11.cell? ⟨w.heap.size, 3, none⟩ = some (.string p) := hk.out.cell 3
      go_wp2_with fail
      refine (bGoes_any th b A ls.length cap p path _ (hT.below hB.out hT.lt) hp (by omega)).mono ?_
      rintro e w12 ⟨rfl, hb⟩
      rw [E]
      replace hk := Lib.hid (hk.out.below hb hk.out.lt)
      replace hB := Lib.hid (hB.out.trans (hb.mono hB.out.size))
      clear hb
      go_wp2_with fail
      go_ret
      exact ⟨rfl, hB.out⟩
end Go.Proofs.YtflfmacfodkedaaDoor
