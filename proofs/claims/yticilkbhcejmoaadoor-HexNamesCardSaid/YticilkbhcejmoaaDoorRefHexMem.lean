/-
  The walks of package legateref01: digit, Encode, Decode.
-/
import Derived.Test.YticilkbhcejmoaaDoorRefHex
import Derived.Test.YticilkbhcejmoaaDoorHexDec
import Derived.Test.YticilkbhcejmoaaDoorLex
namespace Go.Proofs.YticilkbhcejmoaaDoor
open Go Go.RowKit Go.Sort

theorem one_byte (n : Int) (w : World) (g : Nat) (h0 : 0 ≤ n) (h1 : n < 256) (hc : w.cell? ⟨g, 0, none⟩ = some (.int .u8 n)) :
    (convert 23 9 (.slice (some ⟨g, 0, none⟩) 1 1)).run Tryd.prog w = .ok (.string ⟨#[UInt8.ofNat n.toNat]⟩) w := by
  have := run_convert_bytes_arg (P := Tryd.prog) w 23 5 Tryd.underlying23 Tryd.underlying5 g 0 1 1 [n] rfl (fun i hi => by
    obtain rfl : i = 0 := by omega
    simpa using hc) 9 Tryd.underlying9
  simpa [strOfNums] using this

set_option maxHeartbeats 400000 in
theorem rdig_any (d : Int) (w : World) (h0 : 0 ≤ d) (h1 : d ≤ 15) :
    Calls Tryd.prog 22 #[.int .i64 d] w fun e w' => e = .returned (.string ⟨#[Hx.hexd d.toNat]⟩) ∧ Below w.heap.size w w' := by
  by_cases h : d < 10
  · have hcv := one_byte (48 + d) (w.alloc (.cells #[.int .u8 (48 + d)] 5)) w.heap.size (by omega) (by omega) (World.cell?_alloc_mark w _ _ (0, 0) 0)
    go_enter Tryd.func22, Tryd.ntmps22
    go_wp2
    go_ret
    refine ⟨ret_str ?_, (Below.refl _ _).alloc (Nat.le_refl _) _⟩
    unfold Hx.hexd
    rw [if_pos (by omega), show (48 + d).toNat = 48 + d.toNat by omega]
  · have hcv := one_byte (97 + d - 10) (w.alloc (.cells #[.int .u8 (97 + d - 10)] 5)) w.heap.size (by omega) (by omega) (World.cell?_alloc_mark w _ _ (0, 0) 0)
    go_enter Tryd.func22, Tryd.ntmps22
    go_wp2
    go_ret
    refine ⟨ret_str ?_, (Below.refl _ _).alloc (Nat.le_refl _) _⟩
    unfold Hx.hexd
    rw [if_neg (by omega), show (97 + d - 10).toNat = 87 + d.toNat by omega]

set_option maxHeartbeats 400000 in
theorem rencode_any (s : ByteArray) (w : World) (hs : s.size ≤ 1000000) :
    Calls Tryd.prog 17 #[.string s] w fun e w' => e = .returned (.string (Hx.enc s)) ∧ Below w.heap.size w w' := by
  go_enter Tryd.func17, Tryd.ntmps17
  go_wp2
  go_loopw [3, 4] (fun v i wr => ∃ k : Nat, k ≤ s.size ∧ i = .int .i64 k ∧ v = .string ⟨(Hx.encTo s k).toArray⟩ ∧ Below w.heap.size w wr) (fun _ i _ => s.size - (intOf i).toNat)
  case atStart => exact ⟨0, Nat.zero_le _, rfl, rfl, Below.refl _ _⟩
  case round =>
    obtain ⟨k, hk, rfl, rfl, hb⟩ := hrel
    by_cases hlt : k < s.size
    · have hbyte := s[k].toNat_lt
      have i1 : (0 : Int) ≤ (s[k].toNat : Int) / 16 := by omega
      have i2 : (s[k].toNat : Int) / 16 ≤ 15 := by omega
      have i3 : (0 : Int) ≤ (s[k].toNat : Int) % 16 := by omega
      have i4 : (s[k].toNat : Int) % 16 ≤ 15 := by omega
      have hz : (⟨(Hx.encTo s k).toArray⟩ : ByteArray).size = 2 * k := by show (Hx.encTo s k).toArray.size = _; rw [List.size_toArray, Hx.encTo_length]
      have hb := Lib.hid hb
      go_wp2_with fail
      refine wp_region_quiet_below (by kernel_rfl) (by kernel_rfl) ?_
      repeat (go_big_quiet_step ((go_at_call 22; exact Calls.regrown_of (rdig_any _ _ (by omega) (by omega)))))
      refine wpQuiet_nil ?_
      intro _ hw'
      obtain ⟨⟨dq, osq⟩, hw''⟩ := hw'
      subst hw''
      have hb2 := Lib.hid (hb.out.trans ((below_regrown wr dq osq).mono hb.out.size))
      go_wp2
      go_roundw
      case rel =>
        refine ⟨k + 1, by omega, by go_num, ?_, hb2.out⟩
        rw [mk_app, mk_app, Hx.encTo, Hx.byteAt_lt s k hlt]
        simp
      case measure => simp [intOf]; omega
    · go_wp2
      go_ret
      have : k = s.size := by omega
      subst this
      exact ⟨rfl, hb⟩

set_option maxHeartbeats 800000 in
theorem rdecode_yes (s : ByteArray) (w : World) (m : Nat) (hm : s.size = 2 * m) (hs : m ≤ 500000) (hh : Hx.isHex s = true) :
    Calls Tryd.prog 19 #[.string s] w fun e w' => e = .returned (.tuple #[.string (Hx.dec s), .int .i64 (Hx.decE s)]) ∧ Below w.heap.size w w' := by
  have hs' : s.size ≤ maxLen := by unfold maxLen; omega
  have hn : Hid (Hx.dec s = ⟨(Hx.decTo s m).toArray⟩ ∧ Hx.decE s = 0) := ⟨by simp [Hx.dec, hh, hm], by simp [Hx.decE, hh, hm]⟩
  have ho' : ((s.size : Int) % 2 == 1) = false := by rw [beq_eq_false_iff_ne]; omega
  have hsz : (s.size : Int) = 2 * m := by omega
  have hd : ∀ j, j < s.size → 0 ≤ Hx.val (Hx.byteAt s j) ∧ Hx.dgV s j = Hx.val (Hx.byteAt s j) := fun j hj => by
    have e := Hx.isTo_at s s.size j hj hh
    have : 0 ≤ Hx.val s[j] := by rw [Hx.dg_in s j hj] at e; exact of_decide_eq_true e
    rw [Hx.byteAt_lt s j hj]
    exact ⟨this, (Hx.dg_yes s j hj this).2⟩
  have hd := Lib.hid hd
  obtain ⟨i0, hi0, hz0, hz1, hz2⟩ := info_parts info_u8
  have Hm := Lib.hid hm
  clear hm
  go_enter Tryd.func19, Tryd.ntmps19
  go_wp2_with (go_at_call 18; refine (ris_any _ _ hs').mono ?_; rintro e w' ⟨rfl, rfl⟩)
  go_loopw [4, 5] (fun v i wr => ∃ k : Nat, k ≤ m ∧ i = .int .i64 (2 * k : Nat) ∧ wr.ownsRow w.heap.size 5 1 v k (cellsU8 (Hx.decTo s k)) ∧ Below w.heap.size w wr) (fun _ i _ => s.size - (intOf i).toNat)
  case atStart => exact ⟨0, Nat.zero_le _, rfl, World.ownsRow_nil _ _ _ _, Below.refl _ _⟩
  case round =>
    obtain ⟨k, hk, rfl, hown, hb⟩ := hrel
    have h0 := hb.size
    by_cases hlt : k < m
    · have hk1 : 2 * k < s.size := by have := Hm.out; omega
      have hk2 : 2 * k + 1 < s.size := by have := Hm.out; omega
      obtain ⟨v0, v1⟩ := hd.out (2 * k) hk1
      obtain ⟨v2, v3⟩ := hd.out (2 * k + 1) hk2
      rw [Hx.byteAt_lt s _ hk1] at v0 v1
      rw [Hx.byteAt_lt s _ hk2] at v2 v3
      have v4 := (Hx.val_range s[2 * k]).2
      have v5 := (Hx.val_range s[2 * k + 1]).2
      have hnews : cellsU8 [UInt8.ofNat (16 * Hx.dgV s (2 * (k : Int)) + Hx.dgV s (2 * (k : Int) + 1)).toNat] = [.int .u8 (16 * Hx.val s[2 * k] + Hx.val s[2 * k + 1])] := by
        rw [show (2 * (k : Int)) = ((2 * k : Nat) : Int) by omega, show (((2 * k : Nat) : Int) + 1) = ((2 * k + 1 : Nat) : Int) by omega, v1, v3]
        simp only [cellsU8, List.map_cons, List.map_nil, UInt8.toNat_ofNat']
        rw [Nat.mod_eq_of_lt (by omega), Int.toNat_of_nonneg (by omega)]
      have hnews := Lib.hid hnews
      have hown := Lib.hid hown
      have hb := Lib.hid hb
      have hix : ∀ x, (Instr.index 9 (.string s) (.int .i64 (2 * (k : Int) + 1))).run Tryd.prog x = .ok (.int .u8 (s[2 * k + 1].toNat : Int)) x := fun x => index_at (P := Tryd.prog) _ Tryd.underlying9 s _ (2 * k + 1) (by omega) hk2 x
      have i1 : (0 : Int) ≤ 2 * (k : Int) := by omega
      have i2 : 2 * (k : Int) + 1 < 2 * (m : Int) := by omega
      clear v1 v3
      go_wp2_with fail
      refine Lex.wp_region_drawn 1 13 (by kernel_rfl) (by kernel_rfl) ?_
      simp only [List.take_succ_cons, List.take_zero, List.drop_succ_cons, List.drop_zero, Lex.moved, Lex.movOf, Act.put, Act.eval, List.setIfInBounds_toArray, List.set_cons_zero, List.set_cons_succ, Lex.getD_zero, Lex.getD_succ]
      repeat (go_big_quiet_step ((go_at_call 21; refine Calls.quiet_of_same ((rvalue_any _ _).mono fun e w' h => ⟨h.1, h.2.symm⟩))))
      refine wpQuiet_nil ?_
      intro _ hw'
      obtain ⟨nq, hw''⟩ := hw'
      subst hw''
      go_wp2_with (at_builtin; refine wpList_append_own _ rfl _ _ _ rfl w.heap.size 5 i0 _ 1 1 Tryd.underlying23 hi0 hz0 hz1 hz2 rfl (by omega) u4 k _ rfl (hown.out.alloc _) ⟨wr.heap.size, 0, none⟩ 1 1 [.int .u8 (16 * Hx.val s[2 * k] + Hx.val s[2 * k + 1])] rfl rfl (World.news_of_block (heap_alloc_new _ _)) (by simp [Value.oneCell']) (by unfold maxLen; omega) (by omega) (by simp; omega) ?_; intro v2 w2 hown2 hgrow2 _)
      refine NoPanic.normal ?_
      have hb2 := Lib.hid (((below_drewN hb.out nq).alloc (by simp; omega) _).grown hgrow2 (by simp; omega) (by intro g hg; exact (hown.out.lt g hg).1))
      rw [← hnews.out, ← cellsU8_append] at hown2
      have hown2 := Lib.hid hown2
      go_wp2
      go_roundw
      case rel => exact ⟨k + 1, by omega, by go_num, hown2.out, hb2.out⟩
      case measure => simp [intOf]; omega
    · have hcv := run_convert_own (P := Tryd.prog) 23 5 9 Tryd.underlying23 Tryd.underlying5 Tryd.underlying9 hown
      have hb := Lib.hid hb
      clear hown
      go_wp2
      go_ret2
      have : k = m := by omega
      subst this
      exact ⟨ret_si hn.out.1.symm hn.out.2.symm, hb.out⟩

set_option maxHeartbeats 400000 in
theorem rdecode_no (s : ByteArray) (w : World) (hs : s.size ≤ 1000000) (hh : Hx.isHex s = false) :
    Calls Tryd.prog 19 #[.string s] w fun e w' => e = .returned (.tuple #[.string (Hx.dec s), .int .i64 (Hx.decE s)]) ∧ Below w.heap.size w w' := by
  have hs' : s.size ≤ maxLen := by unfold maxLen; omega
  have hn : Hid (Hx.dec s = ByteArray.empty ∧ Hx.decE s = 3) := ⟨by simp [Hx.dec, hh], by simp [Hx.decE, hh]⟩
  go_enter Tryd.func19, Tryd.ntmps19
  go_wp2_with (go_at_call 18; refine (ris_any _ _ hs').mono ?_; rintro e w' ⟨rfl, rfl⟩)
  go_ret2
  exact ⟨ret_si hn.out.1.symm hn.out.2.symm, Below.refl _ _⟩

set_option maxHeartbeats 400000 in
theorem rdecode_odd (s : ByteArray) (w : World) (hs : s.size ≤ 1000000) (hh : Hx.isHex s = true) (ho : s.size % 2 = 1) :
    Calls Tryd.prog 19 #[.string s] w fun e w' => e = .returned (.tuple #[.string (Hx.dec s), .int .i64 (Hx.decE s)]) ∧ Below w.heap.size w w' := by
  have hs' : s.size ≤ maxLen := by unfold maxLen; omega
  have hn : Hid (Hx.dec s = ByteArray.empty ∧ Hx.decE s = 4) := ⟨by simp [Hx.dec, ho], by simp [Hx.decE, hh, ho]⟩
  have ho' : ((s.size : Int) % 2 == 1) = true := by rw [beq_iff_eq]; omega
  have H := Lib.hid ho
  clear ho
  go_enter Tryd.func19, Tryd.ntmps19
  go_wp2_with (go_at_call 18; refine (ris_any _ _ hs').mono ?_; rintro e w' ⟨rfl, rfl⟩)
  go_ret2
  exact ⟨ret_si hn.out.1.symm hn.out.2.symm, Below.refl _ _⟩

theorem rdecode_any (s : ByteArray) (w : World) (hs : s.size ≤ 1000000) :
    Calls Tryd.prog 19 #[.string s] w fun e w' => e = .returned (.tuple #[.string (Hx.dec s), .int .i64 (Hx.decE s)]) ∧ Below w.heap.size w w' := by
  cases hh : Hx.isHex s with
  | false => exact rdecode_no s w hs hh
  | true =>
    rcases Nat.mod_two_eq_zero_or_one s.size with h | h
    · exact rdecode_yes s w (s.size / 2) (by omega) (by omega) hh
    · exact rdecode_odd s w hs hh h
end Go.Proofs.YticilkbhcejmoaaDoor
