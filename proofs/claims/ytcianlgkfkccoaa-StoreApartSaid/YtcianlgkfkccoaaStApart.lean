/-
  The statement StoreApart, walked: it returns true.
-/
import Derived.Test.YtcianlgkfkccoaaStApartI
namespace Go.Proofs.Ytcianlgkfkccoaa
set_option linter.unusedSimpArgs false
set_option linter.unusedVariables false
open Go Go.RowKit

set_option maxRecDepth 100000 in
set_option maxHeartbeats 4000000 in
theorem storeApart_out0 (f0 : List (ByteArray × ByteArray)) (A0 : Option Addr) (cap0 : Nat) (q1 : List (ByteArray × Int)) (A1 : Option Addr) (cap1 : Nat) (q2 : List (ByteArray × Int)) (A2 : Option Addr) (cap2 : Nat) (w : World) (hF0 : Files w A0 f0) (hm0 : f0.length ≤ maxLen) (hF1 : Asks w A1 q1) (hm1 : q1.length ≤ maxLen) (hF2 : Asks w A2 q2) (hm2 : q2.length ≤ maxLen) (g0 : St.fewB f0 = false) :
    Calls Try.prog 10 #[.slice A0 f0.length cap0, .slice A1 q1.length cap1, .slice A2 q2.length cap2] w fun e w' => e = .returned (.bool true) ∧ Below w.heap.size w w' := by
  have HF0 := Lib.hid hF0
  clear hF0
  have HF1 := Lib.hid hF1
  clear hF1
  have HF2 := Lib.hid hF2
  clear hF2
  have HG0 := Lib.hid g0
  clear g0
  go_enter Try.func10, Try.ntmps10
  go_wp2_with fail
  refine (few_any A0 f0 cap0 _ HF0.out hm0).mono ?_
  rintro e w' ⟨rfl, rfl⟩
  rw [HG0.out]
  go_wp2_with fail
  refine (awake_any _).mono ?_
  rintro e w' ⟨rfl, hb⟩
  have HB := Lib.hid hb
  clear hb
  go_wp2_with fail
  go_ret
  exact ⟨rfl, HB.out⟩
set_option maxRecDepth 100000 in
set_option maxHeartbeats 4000000 in
theorem storeApart_out1 (f0 : List (ByteArray × ByteArray)) (A0 : Option Addr) (cap0 : Nat) (q1 : List (ByteArray × Int)) (A1 : Option Addr) (cap1 : Nat) (q2 : List (ByteArray × Int)) (A2 : Option Addr) (cap2 : Nat) (w : World) (hF0 : Files w A0 f0) (hm0 : f0.length ≤ maxLen) (hF1 : Asks w A1 q1) (hm1 : q1.length ≤ maxLen) (hF2 : Asks w A2 q2) (hm2 : q2.length ≤ maxLen) (g0 : St.fewB f0 = true) (g1 : St.askB q1 = false) :
    Calls Try.prog 10 #[.slice A0 f0.length cap0, .slice A1 q1.length cap1, .slice A2 q2.length cap2] w fun e w' => e = .returned (.bool true) ∧ Below w.heap.size w w' := by
  have HF0 := Lib.hid hF0
  clear hF0
  have HF1 := Lib.hid hF1
  clear hF1
  have HF2 := Lib.hid hF2
  clear hF2
  have HG0 := Lib.hid g0
  clear g0
  have HG1 := Lib.hid g1
  clear g1
  go_enter Try.func10, Try.ntmps10
  go_wp2_with fail
  refine (few_any A0 f0 cap0 _ HF0.out hm0).mono ?_
  rintro e w' ⟨rfl, rfl⟩
  rw [HG0.out]
  go_wp2_with fail
  refine (asked_any A1 q1 cap1 _ HF1.out hm1).mono ?_
  rintro e w' ⟨rfl, rfl⟩
  rw [HG1.out]
  go_wp2_with fail
  refine (awake_any _).mono ?_
  rintro e w' ⟨rfl, hb⟩
  have HB := Lib.hid hb
  clear hb
  go_wp2_with fail
  go_ret
  exact ⟨rfl, HB.out⟩
set_option maxRecDepth 100000 in
set_option maxHeartbeats 4000000 in
theorem storeApart_out2 (f0 : List (ByteArray × ByteArray)) (A0 : Option Addr) (cap0 : Nat) (q1 : List (ByteArray × Int)) (A1 : Option Addr) (cap1 : Nat) (q2 : List (ByteArray × Int)) (A2 : Option Addr) (cap2 : Nat) (w : World) (hF0 : Files w A0 f0) (hm0 : f0.length ≤ maxLen) (hF1 : Asks w A1 q1) (hm1 : q1.length ≤ maxLen) (hF2 : Asks w A2 q2) (hm2 : q2.length ≤ maxLen) (g0 : St.fewB f0 = true) (g1 : St.askB q1 = true) (g2 : St.askB q2 = false) :
    Calls Try.prog 10 #[.slice A0 f0.length cap0, .slice A1 q1.length cap1, .slice A2 q2.length cap2] w fun e w' => e = .returned (.bool true) ∧ Below w.heap.size w w' := by
  have HF0 := Lib.hid hF0
  clear hF0
  have HF1 := Lib.hid hF1
  clear hF1
  have HF2 := Lib.hid hF2
  clear hF2
  have HG0 := Lib.hid g0
  clear g0
  have HG1 := Lib.hid g1
  clear g1
  have HG2 := Lib.hid g2
  clear g2
  go_enter Try.func10, Try.ntmps10
  go_wp2_with fail
  refine (few_any A0 f0 cap0 _ HF0.out hm0).mono ?_
  rintro e w' ⟨rfl, rfl⟩
  rw [HG0.out]
  go_wp2_with fail
  refine (asked_any A1 q1 cap1 _ HF1.out hm1).mono ?_
  rintro e w' ⟨rfl, rfl⟩
  rw [HG1.out]
  go_wp2_with fail
  refine (asked_any A2 q2 cap2 _ HF2.out hm2).mono ?_
  rintro e w' ⟨rfl, rfl⟩
  rw [HG2.out]
  go_wp2_with fail
  refine (awake_any _).mono ?_
  rintro e w' ⟨rfl, hb⟩
  have HB := Lib.hid hb
  clear hb
  go_wp2_with fail
  go_ret
  exact ⟨rfl, HB.out⟩
set_option maxRecDepth 100000 in
set_option maxHeartbeats 4000000 in
theorem storeApart_in (f0 : List (ByteArray × ByteArray)) (A0 : Option Addr) (cap0 : Nat) (q1 : List (ByteArray × Int)) (A1 : Option Addr) (cap1 : Nat) (q2 : List (ByteArray × Int)) (A2 : Option Addr) (cap2 : Nat) (w : World) (hF0 : Files w A0 f0) (hm0 : f0.length ≤ maxLen) (hF1 : Asks w A1 q1) (hm1 : q1.length ≤ maxLen) (hF2 : Asks w A2 q2) (hm2 : q2.length ≤ maxLen) (g0 : St.fewB f0 = true) (g1 : St.askB q1 = true) (g2 : St.askB q2 = true) :
    Calls Try.prog 10 #[.slice A0 f0.length cap0, .slice A1 q1.length cap1, .slice A2 q2.length cap2] w fun e w' => e = .returned (.bool true) ∧ Below w.heap.size w w' := by
  have HF0 := Lib.hid hF0
  clear hF0
  have HF1 := Lib.hid hF1
  clear hF1
  have HF2 := Lib.hid hF2
  clear hF2
  have hl0 := St.few_len g0
  have HD0 := Lib.hid (St.few_data g0)
  have HN0 := Lib.hid (St.few_name g0)
  have hl1 := St.ask_len g1
  have HN1 := Lib.hid (St.ask_name g1)
  have hl2 := St.ask_len g2
  have HN2 := Lib.hid (St.ask_name g2)
  have HG0 := Lib.hid g0
  clear g0
  have HG1 := Lib.hid g1
  clear g1
  have HG2 := Lib.hid g2
  clear g2
  go_enter Try.func10, Try.ntmps10
  go_wp2_with fail
  refine (few_any A0 f0 cap0 _ HF0.out hm0).mono ?_
  rintro e w' ⟨rfl, rfl⟩
  rw [HG0.out]
  go_wp2_with fail
  refine (asked_any A1 q1 cap1 _ HF1.out hm1).mono ?_
  rintro e w' ⟨rfl, rfl⟩
  rw [HG1.out]
  go_wp2_with fail
  refine (asked_any A2 q2 cap2 _ HF2.out hm2).mono ?_
  rintro e w' ⟨rfl, rfl⟩
  rw [HG2.out]
  go_wp2_with fail
  refine (awake_any _).mono ?_
  rintro e w1 ⟨rfl, hb⟩
  have HB := Lib.hid hb
  clear hb
  go_wp2_with fail
  refine (new_ok ⟨#[114]⟩ A0 f0 cap0 _ (by decide) role_r (HF0.out.later HB.out) (by omega) (fun i hi => Nat.le_trans (HD0.out i hi) (by omega))).mono ?_
  rintro e wng ⟨g, rfl, hf, hb⟩
  have H := Lib.hid (One.made HB.out hf hb)
  clear hf hb HB
  go_wp2_with fail
  go_loopw [9] (fun c wr => ∃ k : Nat, k ≤ q1.length ∧ c = .int .i64 k ∧ ∃ l, l.length ≤ k ∧ Hid (One w g ⟨#[114]⟩ f0 l wr)) (fun c _ => q1.length - (intOf c).toNat)
  case atStart => exact ⟨0, Nat.zero_le _, rfl, [], Nat.le_refl _, H⟩
  case round =>
    clear H
    obtain ⟨k, hk, rfl, l, hll, H⟩ := hrel
    by_cases hlt : k < q1.length
    · obtain ⟨b, o, rfl, hbl, a0, a1⟩ := HF1.out.later H.out.1 k hlt
      have hsz := HN1.out k hlt
      have b0 : (0 : Int) ≤ (k : Int) := by omega
      have b1 : (k : Int) < (q1.length : Int) := by omega
      generalize q1.getD k (⟨#[]⟩, 0) = f at *
      obtain ⟨n, c⟩ := f
      have hll2 := St.get_len f0 l n c
      go_wp2_with fail
      refine Lex.wp_region_drawn 0 11 (by kernel_rfl) (by kernel_rfl) ?_
      simp only [List.take_succ_cons, List.take_zero, List.drop_succ_cons, List.drop_zero, Lex.moved, Lex.movOf, Act.put, Act.eval, List.setIfInBounds_toArray, List.set_cons_zero, List.set_cons_succ, Lex.getD_zero, Lex.getD_succ]
      repeat (go_big_quiet_step (fail))
      refine wpQuiet_nil ?_
      intro _ hw'
      obtain ⟨nq, hw''⟩ := hw'
      subst hw''
      go_wp2_with fail
      refine (one_get (H.out.later (below_drawn (Below.refl _ _) nq)) n c (by omega) (by omega) (by omega)).mono ?_
      rintro e wg ⟨rfl, h2⟩
      have H2 := Lib.hid h2
      clear h2
      unfold getV
      go_wp2_with fail
      refine NoPanic.normal ?_
      go_wp2_with fail
      go_roundw
      case rel => exact ⟨k + 1, by omega, by go_num, _, by omega, H2⟩
      case measure => simp [intOf]; omega
    · have hkk : k = q1.length := by omega
      subst hkk
      go_wp2_with fail
      refine (one_fetched H.out (by omega)).mono ?_
      rintro e wa ⟨va, rfl, hva, hb⟩
      have HVA := Lib.hid hva
      have HBA := Lib.hid hb
      have HA := Lib.hid (H.out.later hb)
      clear hva hb
      go_wp2_with fail
      obtain ⟨Fa, ha1, ha2⟩ := HA.out.2
      refine (copy_has ha1 (by omega) (by omega)).mono ?_
      rintro e wb ⟨gc, rfl, hc, hb⟩
      have HC := Lib.hid hc
      have HBC := Lib.hid hb
      have HA2 := Lib.hid (HA.out.later hb)
      clear hc hb ha1 ha2
      go_wp2_with fail
      obtain ⟨Fb, hb1, hb2⟩ := HA2.out.2
      refine (copy_has hb1 (by omega) (by omega)).mono ?_
      rintro e wd ⟨gd, rfl, hd, hb⟩
      have T := Lib.hid (Tri.made H.out HVA.out HBA.out HC.out HBC.out hd hb)
      clear hd hb hb1 hb2 HA HA2 HC HBC HVA HBA H
      have hrl := St.run_len f0 q2 l
      go_wp2_with fail
      go_loopw [13] (fun c wr => ∃ k : Nat, k ≤ q2.length ∧ c = .int .i64 k ∧ Hid (Tri w g gc gd f0 l (St.run f0 q2 l k) l l va wr)) (fun c _ => q2.length - (intOf c).toNat)
      case atStart => exact ⟨0, Nat.zero_le _, rfl, T⟩
      case round =>
        clear T
        obtain ⟨k, hk2, rfl, T⟩ := hrel
        by_cases hlt : k < q2.length
        · obtain ⟨b, o, rfl, hbl, a0, a1⟩ := HF2.out.later T.out.bel k hlt
          have hsz := HN2.out k hlt
          have b0 : (0 : Int) ≤ (k : Int) := by omega
          have b1 : (k : Int) < (q2.length : Int) := by omega
          have hr1 := hrl k
          have hG : Hid (St.run f0 q2 l (k + 1) = St.get f0 (St.run f0 q2 l k) (q2.getD k (⟨#[]⟩, 0)).1 (q2.getD k (⟨#[]⟩, 0)).2) := rfl
          generalize q2.getD k (⟨#[]⟩, 0) = f at *
          obtain ⟨n, c⟩ := f
          go_wp2_with fail
          refine Lex.wp_region_drawn 0 11 (by kernel_rfl) (by kernel_rfl) ?_
          simp only [List.take_succ_cons, List.take_zero, List.drop_succ_cons, List.drop_zero, Lex.moved, Lex.movOf, Act.put, Act.eval, List.setIfInBounds_toArray, List.set_cons_zero, List.set_cons_succ, Lex.getD_zero, Lex.getD_succ]
          repeat (go_big_quiet_step (fail))
          refine wpQuiet_nil ?_
          intro _ hw'
          obtain ⟨nq, hw''⟩ := hw'
          subst hw''
          go_wp2_with fail
          refine (tri_get (T.out.later (below_drawn (Below.refl _ _) nq)).swap n c (by omega) (by omega) (by omega)).mono ?_
          rintro e wg ⟨rfl, h2⟩
          rw [← hG.out] at h2
          have T2 := Lib.hid h2.swap
          clear h2
          unfold getV
          go_wp2_with fail
          refine NoPanic.normal ?_
          go_wp2_with fail
          go_roundw
          case rel => exact ⟨k + 1, by omega, by go_num, T2⟩
          case measure => simp [intOf]; omega
        · have hkk : k = q2.length := by omega
          subst hkk
          obtain ⟨L2, hL2⟩ : ∃ L2, L2 = St.run f0 q2 l q2.length := ⟨_, rfl⟩
          have hr2 := hrl q2.length
          rw [← hL2] at T hr2
          have HL2 := Lib.hid hL2
          clear hL2
          go_wp2_with fail
          refine (one_fetched T.out.s (by omega)).mono ?_
          rintro e w5 ⟨vb, rfl, hvb, hb⟩
          have T := Lib.hid (T.out.later hb)
          have HVB := Lib.hid hvb
          clear hb hvb
          go_wp2_with fail
          refine (same_own vb va _ _ ⟨#[114]⟩ l _ HVB.out T.out.row (by omega)).mono ?_
          rintro e w6 ⟨rfl, hb⟩
          have T := Lib.hid (T.out.later hb)
          clear hb HVB
          go_wp2_with fail
          refine (one_fetched T.out.d (by omega)).mono ?_
          rintro e w7 ⟨vd, rfl, hvd, hb⟩
          have T := Lib.hid (T.out.later hb)
          have HVD := Lib.hid hvd
          clear hb hvd
          go_wp2_with fail
          refine (same_own vd va _ _ ⟨#[114]⟩ l _ HVD.out T.out.row (by omega)).mono ?_
          rintro e w8 ⟨rfl, hb⟩
          have T := Lib.hid (T.out.later hb)
          clear hb HVD
          go_wp2_with fail
          go_loopw [14] (fun c wr => ∃ k : Nat, k ≤ q2.length ∧ c = .int .i64 k ∧ Hid (Tri w g gc gd f0 (St.run f0 q2 l k) L2 l l va wr)) (fun c _ => q2.length - (intOf c).toNat)
          case atStart => exact ⟨0, Nat.zero_le _, rfl, T⟩
          case round =>
            clear T
            obtain ⟨k, hk2, rfl, T⟩ := hrel
            by_cases hlt : k < q2.length
            · obtain ⟨b, o, rfl, hbl, a0, a1⟩ := HF2.out.later T.out.bel k hlt
              have hsz := HN2.out k hlt
              have b0 : (0 : Int) ≤ (k : Int) := by omega
              have b1 : (k : Int) < (q2.length : Int) := by omega
              have hr1 := hrl k
              have hG : Hid (St.run f0 q2 l (k + 1) = St.get f0 (St.run f0 q2 l k) (q2.getD k (⟨#[]⟩, 0)).1 (q2.getD k (⟨#[]⟩, 0)).2) := rfl
              generalize q2.getD k (⟨#[]⟩, 0) = f at *
              obtain ⟨n, c⟩ := f
              go_wp2_with fail
              refine Lex.wp_region_drawn 0 11 (by kernel_rfl) (by kernel_rfl) ?_
              simp only [List.take_succ_cons, List.take_zero, List.drop_succ_cons, List.drop_zero, Lex.moved, Lex.movOf, Act.put, Act.eval, List.setIfInBounds_toArray, List.set_cons_zero, List.set_cons_succ, Lex.getD_zero, Lex.getD_succ]
              repeat (go_big_quiet_step (fail))
              refine wpQuiet_nil ?_
              intro _ hw'
              obtain ⟨nq, hw''⟩ := hw'
              subst hw''
              go_wp2_with fail
              refine (tri_get (T.out.later (below_drawn (Below.refl _ _) nq)) n c (by omega) (by omega) (by omega)).mono ?_
              rintro e wg ⟨rfl, h2⟩
              rw [← hG.out] at h2
              have T2 := Lib.hid h2
              clear h2
              unfold getV
              go_wp2_with fail
              refine NoPanic.normal ?_
              go_wp2_with fail
              go_roundw
              case rel => exact ⟨k + 1, by omega, by go_num, T2⟩
              case measure => simp [intOf]; omega
            · have hkk : k = q2.length := by omega
              subst hkk
              rw [← HL2.out] at T
              go_wp2_with fail
              refine (one_fetched T.out.s (by omega)).mono ?_
              rintro e w5 ⟨vb, rfl, hvb, hb⟩
              have T := Lib.hid (T.out.later hb)
              have HVB := Lib.hid hvb
              clear hb hvb
              go_wp2_with fail
              refine (one_fetched T.out.c (by omega)).mono ?_
              rintro e w6 ⟨vc, rfl, hvc, hb⟩
              have T := Lib.hid (T.out.later hb)
              have HVB := Lib.hid (own_keep HVB.out hb)
              have HVC := Lib.hid hvc
              clear hb hvc
              go_wp2_with fail
              refine (same_own vb vc _ _ ⟨#[114]⟩ L2 _ HVB.out HVC.out (by omega)).mono ?_
              rintro e w7 ⟨rfl, hb⟩
              have T := Lib.hid (T.out.later hb)
              clear hb HVB HVC
              go_wp2_with fail
              refine (one_fetched T.out.d (by omega)).mono ?_
              rintro e w8 ⟨vd, rfl, hvd, hb⟩
              have T := Lib.hid (T.out.later hb)
              have HVD := Lib.hid hvd
              clear hb hvd
              go_wp2_with fail
              refine (same_own vd va _ _ ⟨#[114]⟩ l _ HVD.out T.out.row (by omega)).mono ?_
              rintro e w9 ⟨rfl, hb⟩
              have T := Lib.hid (T.out.later hb)
              clear hb HVD
              go_wp2_with fail
              refine (one_repo T.out.c).mono ?_
              rintro e w10 ⟨rfl, rfl⟩
              go_wp2_with fail
              go_ret
              exact ⟨rfl, T.out.bel⟩
theorem storeApart_walk (f0 : List (ByteArray × ByteArray)) (A0 : Option Addr) (cap0 : Nat) (q1 : List (ByteArray × Int)) (A1 : Option Addr) (cap1 : Nat) (q2 : List (ByteArray × Int)) (A2 : Option Addr) (cap2 : Nat) (w : World) (hF0 : Files w A0 f0) (hm0 : f0.length ≤ maxLen) (hF1 : Asks w A1 q1) (hm1 : q1.length ≤ maxLen) (hF2 : Asks w A2 q2) (hm2 : q2.length ≤ maxLen) :
    Calls Try.prog 10 #[.slice A0 f0.length cap0, .slice A1 q1.length cap1, .slice A2 q2.length cap2] w fun e w' => e = .returned (.bool true) ∧ Below w.heap.size w w' := by
  cases g0 : St.fewB f0 with
  | false => exact storeApart_out0 f0 A0 cap0 q1 A1 cap1 q2 A2 cap2 w hF0 hm0 hF1 hm1 hF2 hm2 g0
  | true =>
    cases g1 : St.askB q1 with
    | false => exact storeApart_out1 f0 A0 cap0 q1 A1 cap1 q2 A2 cap2 w hF0 hm0 hF1 hm1 hF2 hm2 g0 g1
    | true =>
      cases g2 : St.askB q2 with
      | false => exact storeApart_out2 f0 A0 cap0 q1 A1 cap1 q2 A2 cap2 w hF0 hm0 hF1 hm1 hF2 hm2 g0 g1 g2
      | true =>
        exact storeApart_in f0 A0 cap0 q1 A1 cap1 q2 A2 cap2 w hF0 hm0 hF1 hm1 hF2 hm2 g0 g1 g2
end Go.Proofs.Ytcianlgkfkccoaa
