/-
  The statement StoreRows, walked: it returns true.
-/
import Derived.Test.YtcianlgkfkccoaaStTwo
namespace Go.Proofs.Ytcianlgkfkccoaa
set_option linter.unusedSimpArgs false
set_option linter.unusedVariables false
open Go Go.RowKit

set_option maxRecDepth 100000 in
set_option maxHeartbeats 1000000 in
theorem storeRows_out0 (f0 : List (ByteArray × ByteArray)) (A0 : Option Addr) (cap0 : Nat) (q1 : List (ByteArray × Int)) (A1 : Option Addr) (cap1 : Nat) (s2 : ByteArray) (i3 : Int) (w : World) (hF0 : Files w A0 f0) (hm0 : f0.length ≤ maxLen) (hF1 : Asks w A1 q1) (hm1 : q1.length ≤ maxLen) (hs2 : s2.size ≤ maxLen) (g0 : St.fewB f0 = false) :
    Calls Try.prog 7 #[.slice A0 f0.length cap0, .slice A1 q1.length cap1, .string s2, .int .i64 i3] w fun e w' => e = .returned (.bool true) ∧ Below w.heap.size w w' := by
  have HF0 := Lib.hid hF0
  clear hF0
  have HF1 := Lib.hid hF1
  clear hF1
  have HG0 := Lib.hid g0
  clear g0
  go_enter Try.func7, Try.ntmps7
  go_wp2_with fail
  refine (few_any A0 f0 cap0 _ HF0.out hm0).mono ?_
  rintro e w' ⟨rfl, rfl⟩
  rw [HG0.out]
  go_wp2_with fail
  refine (awake_any _).mono ?_
  rintro e w' ⟨rfl, hb⟩
  have HB := Lib.hid hb
  clear hb
  go_wp2_with fail
  go_ret
  exact ⟨rfl, HB.out⟩
set_option maxRecDepth 100000 in
set_option maxHeartbeats 1000000 in
theorem storeRows_out1 (f0 : List (ByteArray × ByteArray)) (A0 : Option Addr) (cap0 : Nat) (q1 : List (ByteArray × Int)) (A1 : Option Addr) (cap1 : Nat) (s2 : ByteArray) (i3 : Int) (w : World) (hF0 : Files w A0 f0) (hm0 : f0.length ≤ maxLen) (hF1 : Asks w A1 q1) (hm1 : q1.length ≤ maxLen) (hs2 : s2.size ≤ maxLen) (g0 : St.fewB f0 = true) (g1 : St.askB q1 = false) :
    Calls Try.prog 7 #[.slice A0 f0.length cap0, .slice A1 q1.length cap1, .string s2, .int .i64 i3] w fun e w' => e = .returned (.bool true) ∧ Below w.heap.size w w' := by
  have HF0 := Lib.hid hF0
  clear hF0
  have HF1 := Lib.hid hF1
  clear hF1
  have HG0 := Lib.hid g0
  clear g0
  have HG1 := Lib.hid g1
  clear g1
  go_enter Try.func7, Try.ntmps7
  go_wp2_with fail
  refine (few_any A0 f0 cap0 _ HF0.out hm0).mono ?_
  rintro e w' ⟨rfl, rfl⟩
  rw [HG0.out]
  go_wp2_with fail
  refine (asked_any A1 q1 cap1 _ HF1.out hm1).mono ?_
  rintro e w' ⟨rfl, rfl⟩
  rw [HG1.out]
  go_wp2_with fail
  refine (awake_any _).mono ?_
  rintro e w' ⟨rfl, hb⟩
  have HB := Lib.hid hb
  clear hb
  go_wp2_with fail
  go_ret
  exact ⟨rfl, HB.out⟩
set_option maxRecDepth 100000 in
set_option maxHeartbeats 1000000 in
theorem storeRows_out2 (f0 : List (ByteArray × ByteArray)) (A0 : Option Addr) (cap0 : Nat) (q1 : List (ByteArray × Int)) (A1 : Option Addr) (cap1 : Nat) (s2 : ByteArray) (i3 : Int) (w : World) (hF0 : Files w A0 f0) (hm0 : f0.length ≤ maxLen) (hF1 : Asks w A1 q1) (hm1 : q1.length ≤ maxLen) (hs2 : s2.size ≤ maxLen) (g0 : St.fewB f0 = true) (g1 : St.askB q1 = true) (g2 : 300 < s2.size) :
    Calls Try.prog 7 #[.slice A0 f0.length cap0, .slice A1 q1.length cap1, .string s2, .int .i64 i3] w fun e w' => e = .returned (.bool true) ∧ Below w.heap.size w w' := by
  have HF0 := Lib.hid hF0
  clear hF0
  have HF1 := Lib.hid hF1
  clear hF1
  have HG0 := Lib.hid g0
  clear g0
  have HG1 := Lib.hid g1
  clear g1
  have d2 : decide (300 < (s2.size : Int)) = true := decide_eq_true (by omega)
  go_enter Try.func7, Try.ntmps7
  go_wp2_with fail
  refine (few_any A0 f0 cap0 _ HF0.out hm0).mono ?_
  rintro e w' ⟨rfl, rfl⟩
  rw [HG0.out]
  go_wp2_with fail
  refine (asked_any A1 q1 cap1 _ HF1.out hm1).mono ?_
  rintro e w' ⟨rfl, rfl⟩
  rw [HG1.out]
  go_wp2_with fail
  refine (awake_any _).mono ?_
  rintro e w' ⟨rfl, hb⟩
  have HB := Lib.hid hb
  clear hb
  go_wp2_with fail
  go_ret
  exact ⟨rfl, HB.out⟩
set_option maxRecDepth 100000 in
set_option maxHeartbeats 1000000 in
theorem storeRows_inTrue (f0 : List (ByteArray × ByteArray)) (A0 : Option Addr) (cap0 : Nat) (q1 : List (ByteArray × Int)) (A1 : Option Addr) (cap1 : Nat) (s2 : ByteArray) (i3 : Int) (w : World) (hF0 : Files w A0 f0) (hm0 : f0.length ≤ maxLen) (hF1 : Asks w A1 q1) (hm1 : q1.length ≤ maxLen) (hs2 : s2.size ≤ maxLen) (g0 : St.fewB f0 = true) (g1 : St.askB q1 = true) (g2 : ¬ (300 < s2.size)) (hbad : St.bad i3 = false) :
    Calls Try.prog 7 #[.slice A0 f0.length cap0, .slice A1 q1.length cap1, .string s2, .int .i64 i3] w fun e w' => e = .returned (.bool true) ∧ Below w.heap.size w w' := by
  have V : Hid (∀ l, St.look l s2 = none → getV f0 l s2 i3 = .tuple #[.string (St.fetch f0 s2 i3).data, .int .i64 (St.fetch f0 s2 i3).size, .int .i64 0] ∧ toldV ⟨#[114]⟩ (St.look (St.get f0 l s2 i3) s2) = .tuple #[.agg #[.string ⟨#[114]⟩, .string (St.fetch f0 s2 i3).name, .int .i64 (St.fetch f0 s2 i3).cap, .int .i64 (St.fetch f0 s2 i3).size], .bool true]) := fun l hl => by
    have ha : St.ans f0 l s2 i3 = St.fetch f0 s2 i3 := by unfold St.ans; rw [hl]
    refine ⟨?_, ?_⟩
    · rw [getV_ok hbad, ha]
    · rw [St.look_get hbad, ha]; rfl
  obtain ⟨x, hx⟩ : ∃ x, x = St.fetch f0 s2 i3 := ⟨_, rfl⟩
  rw [← hx] at V
  have e1 : (x.data.toList == x.data.toList) = true := beq_self_eq_true _
  have e2 : (x.size == x.size) = true := beq_self_eq_true _
  have e3 := fun W => eql_same ⟨#[114]⟩ x.name x.cap x.size W
  have gd := guard_fet
  clear hx hbad
  have HF0 := Lib.hid hF0
  clear hF0
  have HF1 := Lib.hid hF1
  clear hF1
  have hl0 := St.few_len g0
  have HD0 := Lib.hid (St.few_data g0)
  have HN0 := Lib.hid (St.few_name g0)
  have hl1 := St.ask_len g1
  have HN1 := Lib.hid (St.ask_name g1)
  have HG0 := Lib.hid g0
  clear g0
  have HG1 := Lib.hid g1
  clear g1
  have d2 : decide (300 < (s2.size : Int)) = false := decide_eq_false (by omega)
  go_enter Try.func7, Try.ntmps7
  go_wp2_with fail
  refine (few_any A0 f0 cap0 _ HF0.out hm0).mono ?_
  rintro e w' ⟨rfl, rfl⟩
  rw [HG0.out]
  go_wp2_with fail
  refine (asked_any A1 q1 cap1 _ HF1.out hm1).mono ?_
  rintro e w' ⟨rfl, rfl⟩
  rw [HG1.out]
  go_wp2_with fail
  refine (awake_any _).mono ?_
  rintro e w1 ⟨rfl, hb⟩
  have HB := Lib.hid hb
  clear hb
  go_wp2_with fail
  refine (new_ok ⟨#[114]⟩ A0 f0 cap0 _ (by decide) role_r (HF0.out.later HB.out) (by omega) (fun i hi => Nat.le_trans (HD0.out i hi) (by omega))).mono ?_
  rintro e wng ⟨g, rfl, hf, hb⟩
  have H := Lib.hid (One.made HB.out hf hb)
  clear hf hb HB
  go_wp2_with fail
  refine (new_ok ⟨#[114]⟩ A0 f0 cap0 _ (by decide) role_r (HF0.out.later H.out.1) (by omega) (fun i hi => Nat.le_trans (HD0.out i hi) (by omega))).mono ?_
  rintro e wnh ⟨h, rfl, hf, hb⟩
  have H := Lib.hid (Two.made H.out hf hb)
  clear hf hb
  go_wp2_with fail
  go_loopw [13] (fun c wr => ∃ k : Nat, k ≤ q1.length ∧ c = .int .i64 k ∧ ∃ l, Hid (St.look l s2 = none) ∧ l.length ≤ k ∧ Hid (Two w g f0 l h f0 [] ⟨#[114]⟩ wr)) (fun c _ => q1.length - (intOf c).toNat)
  case atStart => exact ⟨0, Nat.zero_le _, rfl, [], rfl, Nat.le_refl _, H⟩
  case round =>
    clear H
    obtain ⟨k, hk, rfl, l, hno, hll, H⟩ := hrel
    by_cases hlt : k < q1.length
    · obtain ⟨b, o, rfl, hbl, a0, a1⟩ := HF1.out.later H.out.1 k hlt
      have hsz := HN1.out k hlt
      have b0 : (0 : Int) ≤ (k : Int) := by omega
      have b1 : (k : Int) < (q1.length : Int) := by omega
      generalize q1.getD k (⟨#[]⟩, 0) = f at *
      obtain ⟨n, c⟩ := f
      by_cases he : n = s2
      · have n0 := eq_true he
        clear he a1
        go_wp2_with fail
        go_roundw
        case rel => exact ⟨k + 1, by omega, by go_num, l, hno, by omega, H⟩
        case measure => simp [intOf]; omega
      · have n0 := eq_false he
        have hno2 : Hid (St.look (St.get f0 l n c) s2 = none) := (St.look_get_other (Ne.symm he)).trans hno.out
        have hll2 := St.get_len f0 l n c
        clear he
        go_wp2_with fail
        refine Lex.wp_region_drawn 0 11 (by kernel_rfl) (by kernel_rfl) ?_
        simp only [List.take_succ_cons, List.take_zero, List.drop_succ_cons, List.drop_zero, Lex.moved, Lex.movOf, Act.put, Act.eval, List.setIfInBounds_toArray, List.set_cons_zero, List.set_cons_succ, Lex.getD_zero, Lex.getD_succ]
        repeat (go_big_quiet_step (fail))
        refine wpQuiet_nil ?_
        intro _ hw'
        obtain ⟨nq, hw''⟩ := hw'
        subst hw''
        go_wp2_with fail
        refine (two_get (H.out.later (below_drawn (Below.refl _ _) nq)) n c (by omega) (by omega) (by omega)).mono ?_
        rintro e wg ⟨rfl, h2⟩
        have H2 := Lib.hid h2
        clear h2
        unfold getV
        go_wp2_with fail
        refine NoPanic.normal ?_
        go_wp2_with fail
        go_roundw
        case rel => exact ⟨k + 1, by omega, by go_num, _, hno2, by omega, H2⟩
        case measure => simp [intOf]; omega
    · have hv1 := Lib.hid (V.out l hno.out)
      have hv2 := Lib.hid (V.out [] rfl)
      have hkk : k = q1.length := by omega
      subst hkk
      go_wp2_with fail
      refine (two_get H.out s2 i3 (by omega) (by omega) (by omega)).mono ?_
      rintro e w2 ⟨rfl, h2⟩
      have H2 := Lib.hid h2
      clear h2
      rw [hv1.out.1]
      go_wp2_with fail
      refine (two_get2 H2.out s2 i3 (by omega) (by simp) (by omega)).mono ?_
      rintro e w3 ⟨rfl, h2⟩
      have H3 := Lib.hid h2
      clear h2
      rw [hv2.out.1]
      go_wp2_with fail
      refine (one_told H3.out.fst s2 (by omega)).mono ?_
      rintro e w4 ⟨rfl, hb⟩
      have H4 := Lib.hid (H3.out.later hb)
      clear hb
      rw [hv1.out.2]
      go_wp2_with fail
      refine (one_told (H4.out.swap.later ((Below.refl _ _).alloc (Nat.le_refl _) _)).fst s2 (by omega)).mono ?_
      rintro e w5 ⟨rfl, hb⟩
      have H5 := Lib.hid ((H4.out.later ((Below.refl _ _).alloc (Nat.le_refl _) _)).later hb).1
      have hbk := (Bk.fresh w4 41 #[.string ⟨#[114]⟩, .string x.name, .int .i64 x.cap, .int .i64 x.size]).below hb (by simp)
      have c0 := hbk.cell 0
      have c1 := hbk.cell 1
      have c2 := hbk.cell 2
      have c3 := hbk.cell 3
      have hbs := hbk.lt
      clear hb hbk
      rw [hv2.out.2]
      go_wp2_with fail
      go_ret
      exact ⟨rfl, H5.out.alloc H5.out.size _⟩
set_option maxRecDepth 100000 in
set_option maxHeartbeats 1000000 in
theorem storeRows_inFalse (f0 : List (ByteArray × ByteArray)) (A0 : Option Addr) (cap0 : Nat) (q1 : List (ByteArray × Int)) (A1 : Option Addr) (cap1 : Nat) (s2 : ByteArray) (i3 : Int) (w : World) (hF0 : Files w A0 f0) (hm0 : f0.length ≤ maxLen) (hF1 : Asks w A1 q1) (hm1 : q1.length ≤ maxLen) (hs2 : s2.size ≤ maxLen) (g0 : St.fewB f0 = true) (g1 : St.askB q1 = true) (g2 : ¬ (300 < s2.size)) (hbad : St.bad i3 = true) :
    Calls Try.prog 7 #[.slice A0 f0.length cap0, .slice A1 q1.length cap1, .string s2, .int .i64 i3] w fun e w' => e = .returned (.bool true) ∧ Below w.heap.size w w' := by
  have V : Hid (∀ l, St.look l s2 = none → getV f0 l s2 i3 = .tuple #[.string ⟨#[]⟩, .int .i64 0, .int .i64 1] ∧ toldV ⟨#[114]⟩ (St.look (St.get f0 l s2 i3) s2) = .tuple #[.agg #[.string ⟨#[]⟩, .string ⟨#[]⟩, .int .i64 0, .int .i64 0], .bool false]) := fun l hl => by
    have ha : St.get f0 l s2 i3 = l := by unfold St.get; rw [hbad]; rfl
    refine ⟨getV_bad hbad, ?_⟩
    rw [ha, hl]; rfl
  have e3 := fun W => eql_same ⟨#[]⟩ ⟨#[]⟩ 0 0 W
  have gd := guard_fet
  clear hbad
  have HF0 := Lib.hid hF0
  clear hF0
  have HF1 := Lib.hid hF1
  clear hF1
  have hl0 := St.few_len g0
  have HD0 := Lib.hid (St.few_data g0)
  have HN0 := Lib.hid (St.few_name g0)
  have hl1 := St.ask_len g1
  have HN1 := Lib.hid (St.ask_name g1)
  have HG0 := Lib.hid g0
  clear g0
  have HG1 := Lib.hid g1
  clear g1
  have d2 : decide (300 < (s2.size : Int)) = false := decide_eq_false (by omega)
  go_enter Try.func7, Try.ntmps7
  go_wp2_with fail
  refine (few_any A0 f0 cap0 _ HF0.out hm0).mono ?_
  rintro e w' ⟨rfl, rfl⟩
  rw [HG0.out]
  go_wp2_with fail
  refine (asked_any A1 q1 cap1 _ HF1.out hm1).mono ?_
  rintro e w' ⟨rfl, rfl⟩
  rw [HG1.out]
  go_wp2_with fail
  refine (awake_any _).mono ?_
  rintro e w1 ⟨rfl, hb⟩
  have HB := Lib.hid hb
  clear hb
  go_wp2_with fail
  refine (new_ok ⟨#[114]⟩ A0 f0 cap0 _ (by decide) role_r (HF0.out.later HB.out) (by omega) (fun i hi => Nat.le_trans (HD0.out i hi) (by omega))).mono ?_
  rintro e wng ⟨g, rfl, hf, hb⟩
  have H := Lib.hid (One.made HB.out hf hb)
  clear hf hb HB
  go_wp2_with fail
  refine (new_ok ⟨#[114]⟩ A0 f0 cap0 _ (by decide) role_r (HF0.out.later H.out.1) (by omega) (fun i hi => Nat.le_trans (HD0.out i hi) (by omega))).mono ?_
  rintro e wnh ⟨h, rfl, hf, hb⟩
  have H := Lib.hid (Two.made H.out hf hb)
  clear hf hb
  go_wp2_with fail
  go_loopw [13] (fun c wr => ∃ k : Nat, k ≤ q1.length ∧ c = .int .i64 k ∧ ∃ l, Hid (St.look l s2 = none) ∧ l.length ≤ k ∧ Hid (Two w g f0 l h f0 [] ⟨#[114]⟩ wr)) (fun c _ => q1.length - (intOf c).toNat)
  case atStart => exact ⟨0, Nat.zero_le _, rfl, [], rfl, Nat.le_refl _, H⟩
  case round =>
    clear H
    obtain ⟨k, hk, rfl, l, hno, hll, H⟩ := hrel
    by_cases hlt : k < q1.length
    · obtain ⟨b, o, rfl, hbl, a0, a1⟩ := HF1.out.later H.out.1 k hlt
      have hsz := HN1.out k hlt
      have b0 : (0 : Int) ≤ (k : Int) := by omega
      have b1 : (k : Int) < (q1.length : Int) := by omega
      generalize q1.getD k (⟨#[]⟩, 0) = f at *
      obtain ⟨n, c⟩ := f
      by_cases he : n = s2
      · have n0 := eq_true he
        clear he a1
        go_wp2_with fail
        go_roundw
        case rel => exact ⟨k + 1, by omega, by go_num, l, hno, by omega, H⟩
        case measure => simp [intOf]; omega
      · have n0 := eq_false he
        have hno2 : Hid (St.look (St.get f0 l n c) s2 = none) := (St.look_get_other (Ne.symm he)).trans hno.out
        have hll2 := St.get_len f0 l n c
        clear he
        go_wp2_with fail
        refine Lex.wp_region_drawn 0 11 (by kernel_rfl) (by kernel_rfl) ?_
        simp only [List.take_succ_cons, List.take_zero, List.drop_succ_cons, List.drop_zero, Lex.moved, Lex.movOf, Act.put, Act.eval, List.setIfInBounds_toArray, List.set_cons_zero, List.set_cons_succ, Lex.getD_zero, Lex.getD_succ]
        repeat (go_big_quiet_step (fail))
        refine wpQuiet_nil ?_
        intro _ hw'
        obtain ⟨nq, hw''⟩ := hw'
        subst hw''
        go_wp2_with fail
        refine (two_get (H.out.later (below_drawn (Below.refl _ _) nq)) n c (by omega) (by omega) (by omega)).mono ?_
        rintro e wg ⟨rfl, h2⟩
        have H2 := Lib.hid h2
        clear h2
        unfold getV
        go_wp2_with fail
        refine NoPanic.normal ?_
        go_wp2_with fail
        go_roundw
        case rel => exact ⟨k + 1, by omega, by go_num, _, hno2, by omega, H2⟩
        case measure => simp [intOf]; omega
    · have hv1 := Lib.hid (V.out l hno.out)
      have hv2 := Lib.hid (V.out [] rfl)
      have hkk : k = q1.length := by omega
      subst hkk
      go_wp2_with fail
      refine (two_get H.out s2 i3 (by omega) (by omega) (by omega)).mono ?_
      rintro e w2 ⟨rfl, h2⟩
      have H2 := Lib.hid h2
      clear h2
      rw [hv1.out.1]
      go_wp2_with fail
      refine (two_get2 H2.out s2 i3 (by omega) (by simp) (by omega)).mono ?_
      rintro e w3 ⟨rfl, h2⟩
      have H3 := Lib.hid h2
      clear h2
      rw [hv2.out.1]
      go_wp2_with fail
      refine (one_told H3.out.fst s2 (by omega)).mono ?_
      rintro e w4 ⟨rfl, hb⟩
      have H4 := Lib.hid (H3.out.later hb)
      clear hb
      rw [hv1.out.2]
      go_wp2_with fail
      refine (one_told (H4.out.swap.later ((Below.refl _ _).alloc (Nat.le_refl _) _)).fst s2 (by omega)).mono ?_
      rintro e w5 ⟨rfl, hb⟩
      have H5 := Lib.hid ((H4.out.later ((Below.refl _ _).alloc (Nat.le_refl _) _)).later hb).1
      have hbk := (Bk.fresh w4 41 #[.string ⟨#[]⟩, .string ⟨#[]⟩, .int .i64 0, .int .i64 0]).below hb (by simp)
      have c0 := hbk.cell 0
      have c1 := hbk.cell 1
      have c2 := hbk.cell 2
      have c3 := hbk.cell 3
      have hbs := hbk.lt
      clear hb hbk
      rw [hv2.out.2]
      go_wp2_with fail
      go_ret
      exact ⟨rfl, H5.out.alloc H5.out.size _⟩
set_option maxRecDepth 100000 in
set_option maxHeartbeats 1000000 in
theorem storeRows_in (f0 : List (ByteArray × ByteArray)) (A0 : Option Addr) (cap0 : Nat) (q1 : List (ByteArray × Int)) (A1 : Option Addr) (cap1 : Nat) (s2 : ByteArray) (i3 : Int) (w : World) (hF0 : Files w A0 f0) (hm0 : f0.length ≤ maxLen) (hF1 : Asks w A1 q1) (hm1 : q1.length ≤ maxLen) (hs2 : s2.size ≤ maxLen) (g0 : St.fewB f0 = true) (g1 : St.askB q1 = true) (g2 : ¬ (300 < s2.size)) :
    Calls Try.prog 7 #[.slice A0 f0.length cap0, .slice A1 q1.length cap1, .string s2, .int .i64 i3] w fun e w' => e = .returned (.bool true) ∧ Below w.heap.size w w' := by
  cases hbad : St.bad i3 with
  | true => exact storeRows_inFalse f0 A0 cap0 q1 A1 cap1 s2 i3 w hF0 hm0 hF1 hm1 hs2 g0 g1 g2 hbad
  | false => exact storeRows_inTrue f0 A0 cap0 q1 A1 cap1 s2 i3 w hF0 hm0 hF1 hm1 hs2 g0 g1 g2 hbad
theorem storeRows_walk (f0 : List (ByteArray × ByteArray)) (A0 : Option Addr) (cap0 : Nat) (q1 : List (ByteArray × Int)) (A1 : Option Addr) (cap1 : Nat) (s2 : ByteArray) (i3 : Int) (w : World) (hF0 : Files w A0 f0) (hm0 : f0.length ≤ maxLen) (hF1 : Asks w A1 q1) (hm1 : q1.length ≤ maxLen) (hs2 : s2.size ≤ maxLen) :
    Calls Try.prog 7 #[.slice A0 f0.length cap0, .slice A1 q1.length cap1, .string s2, .int .i64 i3] w fun e w' => e = .returned (.bool true) ∧ Below w.heap.size w w' := by
  cases g0 : St.fewB f0 with
  | false => exact storeRows_out0 f0 A0 cap0 q1 A1 cap1 s2 i3 w hF0 hm0 hF1 hm1 hs2 g0
  | true =>
    cases g1 : St.askB q1 with
    | false => exact storeRows_out1 f0 A0 cap0 q1 A1 cap1 s2 i3 w hF0 hm0 hF1 hm1 hs2 g0 g1
    | true =>
      by_cases g2 : 300 < s2.size
      · exact storeRows_out2 f0 A0 cap0 q1 A1 cap1 s2 i3 w hF0 hm0 hF1 hm1 hs2 g0 g1 g2
      exact storeRows_in f0 A0 cap0 q1 A1 cap1 s2 i3 w hF0 hm0 hF1 hm1 hs2 g0 g1 g2
end Go.Proofs.Ytcianlgkfkccoaa
