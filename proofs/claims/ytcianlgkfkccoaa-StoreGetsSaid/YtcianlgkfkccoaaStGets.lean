/-
  The statement StoreGets, walked: it returns true.
-/
import Derived.Test.YtcianlgkfkccoaaStGetsI
namespace Go.Proofs.Ytcianlgkfkccoaa
set_option linter.unusedSimpArgs false
set_option linter.unusedVariables false
open Go Go.RowKit

set_option maxRecDepth 100000 in
set_option maxHeartbeats 4000000 in
theorem storeGets_out0 (s0 : ByteArray) (f1 : List (ByteArray × ByteArray)) (A1 : Option Addr) (cap1 : Nat) (q2 : List (ByteArray × Int)) (A2 : Option Addr) (cap2 : Nat) (w : World) (hs0 : s0.size ≤ maxLen) (hF1 : Files w A1 f1) (hm1 : f1.length ≤ maxLen) (hF2 : Asks w A2 q2) (hm2 : q2.length ≤ maxLen) (g0 : 300 < s0.size) :
    Calls Try.prog 3 #[.string s0, .slice A1 f1.length cap1, .slice A2 q2.length cap2] w fun e w' => e = .returned (.bool true) ∧ Below w.heap.size w w' := by
  have HF1 := Lib.hid hF1
  clear hF1
  have HF2 := Lib.hid hF2
  clear hF2
  have d0 : decide (300 < (s0.size : Int)) = true := decide_eq_true (by omega)
  go_enter Try.func3, Try.ntmps3
  go_wp2_with fail
  refine (awake_any _).mono ?_
  rintro e w' ⟨rfl, hb⟩
  have HB := Lib.hid hb
  clear hb
  go_wp2_with fail
  go_ret
  exact ⟨rfl, HB.out⟩
set_option maxRecDepth 100000 in
set_option maxHeartbeats 4000000 in
theorem storeGets_out1 (s0 : ByteArray) (f1 : List (ByteArray × ByteArray)) (A1 : Option Addr) (cap1 : Nat) (q2 : List (ByteArray × Int)) (A2 : Option Addr) (cap2 : Nat) (w : World) (hs0 : s0.size ≤ maxLen) (hF1 : Files w A1 f1) (hm1 : f1.length ≤ maxLen) (hF2 : Asks w A2 q2) (hm2 : q2.length ≤ maxLen) (g0 : ¬ (300 < s0.size)) (g1 : St.fewB f1 = false) :
    Calls Try.prog 3 #[.string s0, .slice A1 f1.length cap1, .slice A2 q2.length cap2] w fun e w' => e = .returned (.bool true) ∧ Below w.heap.size w w' := by
  have HF1 := Lib.hid hF1
  clear hF1
  have HF2 := Lib.hid hF2
  clear hF2
  have d0 : decide (300 < (s0.size : Int)) = false := decide_eq_false (by omega)
  have HG1 := Lib.hid g1
  clear g1
  go_enter Try.func3, Try.ntmps3
  go_wp2_with fail
  refine (few_any A1 f1 cap1 _ HF1.out hm1).mono ?_
  rintro e w' ⟨rfl, rfl⟩
  rw [HG1.out]
  go_wp2_with fail
  refine (awake_any _).mono ?_
  rintro e w' ⟨rfl, hb⟩
  have HB := Lib.hid hb
  clear hb
  go_wp2_with fail
  go_ret
  exact ⟨rfl, HB.out⟩
set_option maxRecDepth 100000 in
set_option maxHeartbeats 4000000 in
theorem storeGets_out2 (s0 : ByteArray) (f1 : List (ByteArray × ByteArray)) (A1 : Option Addr) (cap1 : Nat) (q2 : List (ByteArray × Int)) (A2 : Option Addr) (cap2 : Nat) (w : World) (hs0 : s0.size ≤ maxLen) (hF1 : Files w A1 f1) (hm1 : f1.length ≤ maxLen) (hF2 : Asks w A2 q2) (hm2 : q2.length ≤ maxLen) (g0 : ¬ (300 < s0.size)) (g1 : St.fewB f1 = true) (g2 : St.askB q2 = false) :
    Calls Try.prog 3 #[.string s0, .slice A1 f1.length cap1, .slice A2 q2.length cap2] w fun e w' => e = .returned (.bool true) ∧ Below w.heap.size w w' := by
  have HF1 := Lib.hid hF1
  clear hF1
  have HF2 := Lib.hid hF2
  clear hF2
  have d0 : decide (300 < (s0.size : Int)) = false := decide_eq_false (by omega)
  have HG1 := Lib.hid g1
  clear g1
  have HG2 := Lib.hid g2
  clear g2
  go_enter Try.func3, Try.ntmps3
  go_wp2_with fail
  refine (few_any A1 f1 cap1 _ HF1.out hm1).mono ?_
  rintro e w' ⟨rfl, rfl⟩
  rw [HG1.out]
  go_wp2_with fail
  refine (asked_any A2 q2 cap2 _ HF2.out hm2).mono ?_
  rintro e w' ⟨rfl, rfl⟩
  rw [HG2.out]
  go_wp2_with fail
  refine (awake_any _).mono ?_
  rintro e w' ⟨rfl, hb⟩
  have HB := Lib.hid hb
  clear hb
  go_wp2_with fail
  go_ret
  exact ⟨rfl, HB.out⟩
/-- Strikes where the next operation is a store; it turns nothing. -/
theorem at_store {P : Program} {ops : Array Oper} {Q : Exit → Act → World → Prop} {d : Option Tmp} {t : TypeId} {x y : Operand} {ty : TypeId} {pos : String} {af : Array Edge} {g : Option (Nat × Bool)} {rest : List Oper} {a : Act} {w : World} (h : wpList P ops Q (⟨d, .store t x y, ty, pos, af, g⟩ :: rest) a w) : wpList P ops Q (⟨d, .store t x y, ty, pos, af, g⟩ :: rest) a w := h
theorem file_size : (Try.prog.info? 35).map (·.size) = some 2 := by kernel_rfl
theorem fetch_size : (Try.prog.info? 41).map (·.size) = some 4 := by kernel_rfl

set_option maxRecDepth 100000 in
set_option maxHeartbeats 4000000 in
theorem storeGets_inF (s0 : ByteArray) (f1 : List (ByteArray × ByteArray)) (A1 : Option Addr) (cap1 : Nat) (q2 : List (ByteArray × Int)) (A2 : Option Addr) (cap2 : Nat) (w : World) (hs0 : s0.size ≤ maxLen) (hF1 : Files w A1 f1) (hm1 : f1.length ≤ maxLen) (hF2 : Asks w A2 q2) (hm2 : q2.length ≤ maxLen) (g0 : ¬ (300 < s0.size)) (g1 : St.fewB f1 = true) (g2 : St.askB q2 = true) (hr : Nm.role s0 = false) :
    Calls Try.prog 3 #[.string s0, .slice A1 f1.length cap1, .slice A2 q2.length cap2] w fun e w' => e = .returned (.bool true) ∧ Below w.heap.size w w' := by
  have HRL := Lib.hid hr
  clear hr
  have HF1 := Lib.hid hF1
  clear hF1
  have HF2 := Lib.hid hF2
  clear hF2
  have hl1 := St.few_len g1
  have HD1 := Lib.hid (St.few_data g1)
  have HN1 := Lib.hid (St.few_name g1)
  have hl2 := St.ask_len g2
  have HN2 := Lib.hid (St.ask_name g2)
  have d0 : decide (300 < (s0.size : Int)) = false := decide_eq_false (by omega)
  have HG1 := Lib.hid g1
  clear g1
  have HG2 := Lib.hid g2
  clear g2
  go_enter Try.func3, Try.ntmps3
  go_wp2_with fail
  refine (few_any A1 f1 cap1 _ HF1.out hm1).mono ?_
  rintro e w' ⟨rfl, rfl⟩
  rw [HG1.out]
  go_wp2_with fail
  refine (asked_any A2 q2 cap2 _ HF2.out hm2).mono ?_
  rintro e w' ⟨rfl, rfl⟩
  rw [HG2.out]
  go_wp2_with (at_builtin; go_must (refine wpList_append_files _ rfl _ _ rfl w.heap.size _ _ _ rfl (World.ownsRow_made w #[] 0 (Nat.le_refl _) (Nat.zero_le _) rfl) A1 f1 cap1 rfl (HF1.out.later ((Below.refl _ w).alloc (Nat.le_refl _) _)) (by omega) (by simp) ?_))
  intro v7 w2 hown hgrow
  have hO : w2.ownsRow w.heap.size 35 2 v7 f1.length (fcells f1) := by simpa using hown
  have HB2 : Hid (Below w.heap.size w w2) := ((Below.refl _ w).alloc (Nat.le_refl _) _).grown hgrow (by simp) (by intro k hk; simp [Value.ownBlock] at hk; omega)
  obtain ⟨A7, c7, rfl, hF7⟩ := Files.of_own hO
  have HF7 := Lib.hid hF7
  have HRo := Lib.hid (Room.of_own hO)
  have HLT : Hid (∀ b, A7 = some ⟨b, 0, none⟩ → b < w2.heap.size) := fun b h => by subst h; exact (hO.lt b rfl).2
  clear hown hgrow hF7 hO
  go_wp2_with fail
  refine (new_form s0 A7 f1.length c7 _ hs0 HRL.out).mono ?_
  rintro e w3 ⟨rfl, rfl⟩
  go_wp2_with fail
  refine (rnew_form s0 A1 f1.length cap1 _ hs0 HRL.out).mono ?_
  rintro e w3 ⟨rfl, rfl⟩
  go_wp2_with fail
  refine (awake_any _).mono ?_
  rintro e w' ⟨rfl, hb⟩
  have HB := Lib.hid (HB2.out.trans (hb.mono HB2.out.size))
  clear hb
  go_wp2_with fail
  go_ret
  exact ⟨rfl, HB.out⟩
set_option maxRecDepth 100000 in
set_option maxHeartbeats 4000000 in
theorem storeGets_inT (s0 : ByteArray) (f1 : List (ByteArray × ByteArray)) (A1 : Option Addr) (cap1 : Nat) (q2 : List (ByteArray × Int)) (A2 : Option Addr) (cap2 : Nat) (w : World) (hs0 : s0.size ≤ maxLen) (hF1 : Files w A1 f1) (hm1 : f1.length ≤ maxLen) (hF2 : Asks w A2 q2) (hm2 : q2.length ≤ maxLen) (g0 : ¬ (300 < s0.size)) (g1 : St.fewB f1 = true) (g2 : St.askB q2 = true) (hr : Nm.role s0 = true) :
    Calls Try.prog 3 #[.string s0, .slice A1 f1.length cap1, .slice A2 q2.length cap2] w fun e w' => e = .returned (.bool true) ∧ Below w.heap.size w w' := by
  have HRL := Lib.hid hr
  clear hr
  have HF1 := Lib.hid hF1
  clear hF1
  have HF2 := Lib.hid hF2
  clear hF2
  have hl1 := St.few_len g1
  have HD1 := Lib.hid (St.few_data g1)
  have HN1 := Lib.hid (St.few_name g1)
  have hl2 := St.ask_len g2
  have HN2 := Lib.hid (St.ask_name g2)
  have d0 : decide (300 < (s0.size : Int)) = false := decide_eq_false (by omega)
  have HG1 := Lib.hid g1
  clear g1
  have HG2 := Lib.hid g2
  clear g2
  go_enter Try.func3, Try.ntmps3
  go_wp2_with fail
  refine (few_any A1 f1 cap1 _ HF1.out hm1).mono ?_
  rintro e w' ⟨rfl, rfl⟩
  rw [HG1.out]
  go_wp2_with fail
  refine (asked_any A2 q2 cap2 _ HF2.out hm2).mono ?_
  rintro e w' ⟨rfl, rfl⟩
  rw [HG2.out]
  go_wp2_with (at_builtin; go_must (refine wpList_append_files _ rfl _ _ rfl w.heap.size _ _ _ rfl (World.ownsRow_made w #[] 0 (Nat.le_refl _) (Nat.zero_le _) rfl) A1 f1 cap1 rfl (HF1.out.later ((Below.refl _ w).alloc (Nat.le_refl _) _)) (by omega) (by simp) ?_))
  intro v7 w2 hown hgrow
  have hO : w2.ownsRow w.heap.size 35 2 v7 f1.length (fcells f1) := by simpa using hown
  have HB2 : Hid (Below w.heap.size w w2) := ((Below.refl _ w).alloc (Nat.le_refl _) _).grown hgrow (by simp) (by intro k hk; simp [Value.ownBlock] at hk; omega)
  obtain ⟨A7, c7, rfl, hF7⟩ := Files.of_own hO
  have HF7 := Lib.hid hF7
  have HRo := Lib.hid (Room.of_own hO)
  have HLT : Hid (∀ b, A7 = some ⟨b, 0, none⟩ → b < w2.heap.size) := fun b h => by subst h; exact (hO.lt b rfl).2
  clear hown hgrow hF7 hO
  go_wp2_with fail
  refine (new_ok s0 A7 f1 c7 _ hs0 HRL.out HF7.out (by omega) (fun i hi => Nat.le_trans (HD1.out i hi) (by omega))).mono ?_
  rintro e w3 ⟨g, rfl, hf, hb⟩
  have HF3 := Lib.hid hf
  have HB3 := Lib.hid hb
  clear hf hb
  go_wp2_with fail
  refine (rnew_ok s0 A1 f1 cap1 _ hs0 HRL.out ((HF1.out.later HB2.out).later HB3.out) (by omega) (fun i hi => Nat.le_trans (HD1.out i hi) (by omega))).mono ?_
  rintro e w4 ⟨g', rfl, hr, hb⟩
  have H := Lib.hid (Duo.made (A := A1) (cap := cap1) HB2.out HF3.out HB3.out hr hb)
  have HRo := Lib.hid ((HRo.out.keep HB3.out).keep hb)
  have hBw : w2.heap.size ≤ w4.heap.size := Nat.le_trans HB3.out.size hb.size
  clear hr hb HF3 HB3 HF7
  obtain ⟨B, hB⟩ : ∃ B, B = w2.heap.size := ⟨_, rfl⟩
  rw [← hB] at H HLT hBw
  clear hB
  go_wp2_with fail
  go_loopw [12] (fun c wr => ∃ k : Nat, k ≤ f1.length ∧ c = .int .i64 k ∧ Hid (Room wr w.heap.size 35 2 A7 f1.length) ∧ Hid (Duo w B g g' s0 f1 A1 cap1 [] [] wr) ∧ B ≤ wr.heap.size) (fun c _ => f1.length - (intOf c).toNat)
  case atStart => exact ⟨0, Nat.zero_le _, rfl, HRo, H, hBw⟩
  case round =>
    clear H HRo hBw
    obtain ⟨k, hk, rfl, hRo, H, hBw⟩ := hrel
    by_cases hlt : k < f1.length
    · rcases hRo.out with h0 | ⟨b0, cs, rfl, hb0, hbk, hcs⟩
      · omega
      have hbl := HLT.out b0 rfl
      have HTH : Hid (wr.there b0 (k * 2) 2) := there_of hbk (by omega)
      have HBK := Lib.hid hbk
      have i0 : (0 : Int) ≤ (k : Int) := by omega
      have i1 : (k : Int) < (f1.length : Int) := by omega
      clear hbk hRo
      go_wp2_with ((with_reducible refine at_store ?_); go_must (refine wpList_store_mid rfl 35 _ _ rfl b0 (k * 2) #[.string ⟨#[]⟩, .string ⟨#[]⟩] (by simp [Act.put, Act.eval]) rfl HTH.out file_size (by simp [Value.oneCell']) ?_))
      obtain ⟨cs', hp1, hp2⟩ := Bk.puts [.string ⟨#[]⟩, .string ⟨#[]⟩] (k * 2) _ _ HBK.out
      have HRo2 : Hid (Room (wr.setCells b0 (k * 2) [.string ⟨#[]⟩, .string ⟨#[]⟩]) w.heap.size 35 2 (some ⟨b0, 0, none⟩) f1.length) := .inr ⟨b0, cs', rfl, hb0, hp1, by omega⟩
      have hg := grown_puts [.string ⟨#[]⟩, .string ⟨#[]⟩] (k * 2) _ (one_refl wr (some b0))
      have H2 := Lib.hid (H.out.put hg hb0 hbl)
      have hBw2 := Nat.le_trans hBw hg.size
      clear hp1 hp2 hg HBK HTH
      go_wp2_with fail
      go_roundw
      case rel => exact ⟨k + 1, by omega, by go_num, HRo2, H2, hBw2⟩
      case measure => simp [intOf]; omega
    · have hkk : k = f1.length := by omega
      subst hkk
      clear hRo HLT
      go_wp2_with fail
      go_loopw [13] (fun c wr => ∃ k : Nat, k ≤ q2.length ∧ c = .int .i64 k ∧ ∃ l, l.length ≤ k ∧ Hid (Duo w B g g' s0 f1 A1 cap1 l l wr) ∧ B ≤ wr.heap.size) (fun c _ => q2.length - (intOf c).toNat)
      case atStart => exact ⟨0, Nat.zero_le _, rfl, [], Nat.le_refl _, H, hBw⟩
      case round =>
        clear H hBw
        obtain ⟨k, hk2, rfl, l, hll, H, hBw⟩ := hrel
        by_cases hlt : k < q2.length
        · obtain ⟨b, o, rfl, hbl0, -, -⟩ := HF2.out k hlt
          have hbl : b < wr.heap.size := Nat.lt_of_lt_of_le hbl0 H.out.bel.size
          have hsz := HN2.out k hlt
          have b0 : (0 : Int) ≤ (k : Int) := by omega
          have b1 : (k : Int) < (q2.length : Int) := by omega
          have Hcell : Hid (∀ W : World, Below w.heap.size w W → W.cell? ⟨b, o + k * 2, none⟩ = some (.string (q2.getD k (⟨#[]⟩, 0)).1) ∧ W.cell? ⟨b, o + k * 2 + 1, none⟩ = some (.int .i64 (q2.getD k (⟨#[]⟩, 0)).2)) := fun W hW => by
            obtain ⟨b', o', e, _, h1, h2⟩ := HF2.out.later hW k hlt
            cases e
            exact ⟨h1, h2⟩
          generalize q2.getD k (⟨#[]⟩, 0) = f at *
          obtain ⟨n, c⟩ := f
          obtain ⟨a0, a1⟩ := Hcell.out _ H.out.bel
          have hl1 := Lib.hid H.out.one
          obtain ⟨l', hl'⟩ : ∃ l', l' = St.get f1 l n c := ⟨_, rfl⟩
          have hll' : l'.length ≤ k + 1 := by rw [hl']; have := St.get_len f1 l n c; omega
          have HL := Lib.hid hl'
          clear hl'
          go_wp2_with fail
          refine LexW.wp_region_call 11 (by kernel_rfl) (by kernel_rfl) ?_
          simp only [List.take_succ_cons, List.take_zero, List.drop_succ_cons, List.drop_zero, List.getD_cons_zero, List.getD_cons_succ]
          repeat (go_big_quiet_step (fail))
          refine wpQuiet_nil ?_
          intro _ hw'
          obtain ⟨nq, hw''⟩ := hw'
          subst hw''
          go_wp2_with fail
          refine (duo_get (H.out.later (below_drawn (Below.refl _ _) nq)) hBw n c (by omega) (by omega) (by omega)).mono ?_
          rintro e wg ⟨rfl, h2, hBw⟩
          rw [← HL.out] at h2
          have H2 := Lib.hid h2
          clear h2
          obtain ⟨d, s, z, hv⟩ := getV_form f1 l n c
          rw [hv]
          have hv2 := Lib.hid hv
          have e1 : (d.toList == d.toList) = true := beq_self_eq_true _
          have e2 : (s == s) = true := beq_self_eq_true _
          have e3 : (z == z) = true := beq_self_eq_true _
          clear hv a0 a1
          go_wp2_with fail
          refine NoPanic.normal ?_
          show wpQuiet _ _ _ _ _ _
          repeat (go_big_quiet_step (fail))
          refine wpQuiet_nil ?_
          intro _ hw'
          obtain ⟨np, hw''⟩ := hw'
          subst hw''
          obtain ⟨wk, hwk⟩ : ∃ wk : World, wk = wg.drewN np := ⟨_, rfl⟩
          rw [← hwk]
          have H2 : Hid (Duo w B g g' s0 f1 A1 cap1 l' l wk) := by rw [hwk]; exact H2.out.later (below_drawn (Below.refl _ _) np)
          have hBw : B ≤ wk.heap.size := by rw [hwk]; exact hBw
          clear hwk
          obtain ⟨a0, a1⟩ := Hcell.out _ H2.out.bel
          go_wp2_with fail
          refine LexW.wp_region_call 11 (by kernel_rfl) (by kernel_rfl) ?_
          simp only [List.take_succ_cons, List.take_zero, List.drop_succ_cons, List.drop_zero, List.getD_cons_zero, List.getD_cons_succ]
          repeat (go_big_quiet_step (fail))
          refine wpQuiet_nil ?_
          intro _ hw'
          obtain ⟨nq, hw''⟩ := hw'
          subst hw''
          go_wp2_with fail
          refine (duo_rget (H2.out.later (below_drawn (Below.refl _ _) nq)) hBw (HF1.out.later (H2.out.later (below_drawn (Below.refl _ _) nq)).bel) n c hl1.out (by omega) (by omega) (fun i hi => Nat.le_trans (HD1.out i hi) (by omega)) (by omega)).mono ?_
          rintro e wh ⟨rfl, h3, hBw⟩
          rw [← HL.out] at h3
          have H3 := Lib.hid h3
          rw [hv2.out]
          clear h3 a0 a1
          go_wp2_with fail
          refine NoPanic.normal ?_
          show wpQuiet _ _ _ _ _ _
          repeat (go_big_quiet_step (fail))
          refine wpQuiet_nil ?_
          intro _ hw'
          obtain ⟨np, hw''⟩ := hw'
          subst hw''
          obtain ⟨wj, hwj⟩ : ∃ wj : World, wj = wh.drewN np := ⟨_, rfl⟩
          rw [← hwj]
          have H3 : Hid (Duo w B g g' s0 f1 A1 cap1 l' l' wj) := by rw [hwj]; exact H3.out.later (below_drawn (Below.refl _ _) np)
          have hBw : B ≤ wj.heap.size := by rw [hwj]; exact hBw
          clear hwj H H2
          obtain ⟨a0, a1⟩ := Hcell.out _ H3.out.bel
          have hbl3 : b < wj.heap.size := Nat.lt_of_lt_of_le hbl0 H3.out.bel.size
          obtain ⟨ta, tb, tc, td, is, htold⟩ := toldV_form s0 (St.look l' n)
          have HTO := Lib.hid htold
          have gd := guard_fet
          have e4 := fun W => neq_same ta tb tc td W
          clear htold
          go_wp2_with fail
          refine (duo_told H3.out n (by omega)).mono ?_
          rintro e w5 ⟨rfl, hb⟩
          have H5 := Lib.hid (H3.out.later hb)
          have hBw5 : B ≤ w5.heap.size := Nat.le_trans hBw hb.size
          clear hb a0 a1
          obtain ⟨a0, a1⟩ := Hcell.out _ H5.out.bel
          have hbl5 : b < w5.heap.size := Nat.lt_of_lt_of_le hbl0 H5.out.bel.size
          rw [HTO.out]
          go_wp2_with fail
          have H5b := Lib.hid (H5.out.later ((Below.refl _ w5).alloc (Nat.le_refl _) (.cells #[.string ta, .string tb, .int .i64 tc, .int .i64 td] 41 (0, 0))))
          refine (duo_rtold H5b.out H5b.out.one n (by omega)).mono ?_
          rintro e w6 ⟨rfl, hb⟩
          have H6 := Lib.hid (H5b.out.later hb)
          have hbk := (Bk.fresh w5 41 #[.string ta, .string tb, .int .i64 tc, .int .i64 td]).below hb (by simp)
          have hBw6 : B ≤ w6.heap.size := by have := hb.size; simp at this; omega
          have c0 := hbk.cell 0
          have c1 := hbk.cell 1
          have c2 := hbk.cell 2
          have c3 := hbk.cell 3
          have hbs := hbk.lt
          clear hb hbk a0 a1
          rw [HTO.out]
          go_wp2_with fail
          obtain ⟨w7, hw7⟩ : ∃ W : World, W = w6.alloc (.cells #[.string ta, .string tb, .int .i64 tc, .int .i64 td] 41 (0, 0)) := ⟨_, rfl⟩
          rw [← hw7]
          have H7 : Hid (Duo w B g g' s0 f1 A1 cap1 l' l' w7) := by rw [hw7]; exact H6.out.later ((Below.refl _ w6).alloc (Nat.le_refl _) _)
          have hBw7 : B ≤ w7.heap.size := by rw [hw7]; simp; omega
          clear hw7 c0 c1 c2 c3 H3 H5 H5b H6
          refine (duo_fetched H7.out (by omega)).mono ?_
          rintro e w8 ⟨va, rfl, hva, hb⟩
          have H8 := Lib.hid (H7.out.later hb)
          have HB8 := Lib.hid hb
          obtain ⟨V, vc, rfl, hVF⟩ := Fets.of_own hva
          have HRo := Lib.hid (Room.of_own hva)
          have HVF := Lib.hid hVF
          obtain ⟨La, Lc, hgl, z2, hLF⟩ := duo_list H8.out
          have HLF := Lib.hid hLF
          clear hb hva hVF hLF
          go_wp2_with fail
          refine (same_fets V La vc Lc s0 l' _ HVF.out HLF.out (by omega)).mono ?_
          rintro e w9 ⟨rfl, hb⟩
          have HRo := Lib.hid (HRo.out.keep hb)
          have HB9 := Lib.hid (HB8.out.trans (hb.mono HB8.out.size))
          clear hb z2 HVF HLF H8
          go_wp2_with fail
          go_loopw [25] (fun c wr => ∃ m : Nat, m ≤ l'.length ∧ c = .int .i64 m ∧ Hid (Room wr w7.heap.size 41 4 V l'.length) ∧ Hid (Below w7.heap.size w7 wr)) (fun c _ => l'.length - (intOf c).toNat)
          case atStart => exact ⟨0, Nat.zero_le _, rfl, HRo, HB9⟩
          case round =>
            clear HRo HB9
            obtain ⟨m, hm, rfl, hRo, HB9⟩ := hrel
            by_cases hlt2 : m < l'.length
            · rcases hRo.out with h0 | ⟨d0, cs, rfl, hd0, hbk, hcs⟩
              · omega
              have HTH : Hid (wr.there d0 (m * 4) 4) := there_of hbk (by omega)
              have HBK := Lib.hid hbk
              have i0 : (0 : Int) ≤ (m : Int) := by omega
              have i1 : (m : Int) < (l'.length : Int) := by omega
              clear hbk hRo
              go_wp2_with ((with_reducible refine at_store ?_); go_must (refine wpList_store_mid rfl 41 _ _ rfl d0 (m * 4) #[.string ⟨#[]⟩, .string ⟨#[]⟩, .int .i64 0, .int .i64 0] (by simp [Act.put, Act.eval]) rfl HTH.out fetch_size (by simp [Value.oneCell']) ?_))
              obtain ⟨cs', hp1, hp2⟩ := Bk.puts [.string ⟨#[]⟩, .string ⟨#[]⟩, .int .i64 0, .int .i64 0] (m * 4) _ _ HBK.out
              have HRo2 : Hid (Room (wr.setCells d0 (m * 4) [.string ⟨#[]⟩, .string ⟨#[]⟩, .int .i64 0, .int .i64 0]) w7.heap.size 41 4 (some ⟨d0, 0, none⟩) l'.length) := .inr ⟨d0, cs', rfl, hd0, hp1, by omega⟩
              have hg := grown_puts [.string ⟨#[]⟩, .string ⟨#[]⟩, .int .i64 0, .int .i64 0] (m * 4) _ (one_refl wr (some d0))
              have HB10 := Lib.hid (HB9.out.grown hg HB9.out.size (fun x hx => by cases hx; exact hd0))
              clear hp1 hp2 hg HBK HTH
              go_wp2_with fail
              go_roundw
              case rel => exact ⟨m + 1, by omega, by go_num, HRo2, HB10⟩
              case measure => simp [intOf]; omega
            · have hmm : m = l'.length := by omega
              subst hmm
              have H10 := Lib.hid (H7.out.later HB9.out)
              have hBw10 := Nat.le_trans hBw7 HB9.out.size
              clear H7 HB9
              go_wp2_with fail
              go_roundw
              case rel => exact ⟨k + 1, by omega, by go_num, l', by omega, H10, hBw10⟩
              case measure => simp [intOf]; omega
        · have hkk : k = q2.length := by omega
          subst hkk
          obtain ⟨La, Lc, hgl, z2, hLF⟩ := duo_list H.out
          have HLF := Lib.hid hLF
          obtain ⟨wz, rfl⟩ : ∃ wz : World, wz = wr := ⟨_, rfl⟩
          have HZ := Lib.hid z2
          clear hLF z2
          go_wp2_with fail
          refine Fst.wp_region_heldf (fun W => W.cell? ⟨g', 2, none⟩ = some (.slice La l.length Lc)) [0, 2, 3, 4, 5] 6 (by kernel_rfl) (by kernel_rfl) HZ.out ?_
          refine ⟨_, .inl ⟨rfl, fun W _ => BigFrame.run_move _ rfl W⟩, ?_⟩
          try simp only [Fst.wpFstS, Act.put, Act.eval, List.getD_cons_zero, List.getD_cons_succ, List.setIfInBounds_toArray, List.set_cons_zero, List.set_cons_succ, Lex.getD_zero, Lex.getD_succ]
          refine ⟨_, .inl ⟨rfl, fun W _ => BigFrame.run_move _ rfl W⟩, ?_⟩
          try simp only [Fst.wpFstS, Act.put, Act.eval, List.getD_cons_zero, List.getD_cons_succ, List.setIfInBounds_toArray, List.set_cons_zero, List.set_cons_succ, Lex.getD_zero, Lex.getD_succ]
          refine ⟨.pointer (some ⟨g', 0, none⟩), .inl ⟨rfl, fun W hW => ?_⟩, ?_⟩
          · simp only [Act.put, Act.eval, List.getD_cons_zero, List.getD_cons_succ, Lex.getD_zero, Lex.getD_succ, execOp]
            simp [go_sem, Result.andThen]
          try simp only [Fst.wpFstS, Act.put, Act.eval, List.getD_cons_zero, List.getD_cons_succ, List.setIfInBounds_toArray, List.set_cons_zero, List.set_cons_succ, Lex.getD_zero, Lex.getD_succ]
          refine ⟨.pointer (some ⟨g', 2, none⟩), .inl ⟨rfl, fun W hW => ?_⟩, ?_⟩
          · simp only [Act.put, Act.eval, List.getD_cons_zero, List.getD_cons_succ, Lex.getD_zero, Lex.getD_succ, execOp]
            simp [fa_rst2, Result.andThen]
          try simp only [Fst.wpFstS, Act.put, Act.eval, List.getD_cons_zero, List.getD_cons_succ, List.setIfInBounds_toArray, List.set_cons_zero, List.set_cons_succ, Lex.getD_zero, Lex.getD_succ]
          refine ⟨.slice La l.length Lc, .inl ⟨rfl, fun W hW => ?_⟩, ?_⟩
          · simp only [Act.put, Act.eval, List.getD_cons_zero, List.getD_cons_succ, Lex.getD_zero, Lex.getD_succ, execOp]
            simp [ld_fets _ _ _ _ hW, Result.andThen]
          try simp only [Fst.wpFstS, Act.put, Act.eval, List.getD_cons_zero, List.getD_cons_succ, List.setIfInBounds_toArray, List.set_cons_zero, List.set_cons_succ, Lex.getD_zero, Lex.getD_succ]
          obtain ⟨wc, hwc⟩ : ∃ wc : World, wc = { wz with drawn := wz.drawn + 1 } := ⟨_, rfl⟩
          rw [← hwc]
          have HD : Hid (Below wz.heap.size wz wc) := by rw [hwc]; exact ⟨rfl, rfl, rfl, Nat.le_refl _, fun _ _ => rfl⟩
          have HW : Hid (∀ W, Below wz.heap.size wz W → W.cell? ⟨g', 2, none⟩ = some (.slice La l.length Lc)) := fun W hW => (hW.cell (p := ⟨g', 2, none⟩) hgl).trans HZ.out
          clear hwc
          refine Fst.held_one (i := 1) (by kernel_rfl) (by kernel_rfl) ?_
          simp only [List.getD_cons_zero, List.getD_cons_succ]
          go_wp2_with fail
          refine (duo_fetched (H.out.later HD.out) (by omega)).mono ?_
          rintro e wd ⟨va, rfl, hva, hb⟩
          have HD2 := Lib.hid (HD.out.trans (hb.mono HD.out.size))
          obtain ⟨V, vc, rfl, hVF⟩ := Fets.of_own hva
          have HVF := Lib.hid hVF
          clear hb hva hVF
          go_wp2_with fail
          refine NoPanic.normal ?_
          show _ ∧ wpAnyH _ _ _ _ _ _ _ _ _
          refine ⟨HW.out _ HD2.out, ?_⟩
          refine Fst.held_one (i := 6) (by kernel_rfl) (by kernel_rfl) ?_
          simp only [List.getD_cons_zero, List.getD_cons_succ]
          go_wp2_with fail
          refine (same_fets V La vc Lc s0 l _ HVF.out (HLF.out.later HD2.out) (by omega)).mono ?_
          rintro e we ⟨rfl, hb⟩
          have HD3 := Lib.hid (HD2.out.trans (hb.mono HD2.out.size))
          clear hb
          go_wp2_with fail
          refine NoPanic.normal ?_
          show _ ∧ wpAnyH _ _ _ _ _ _ _ _ _
          refine ⟨HW.out _ HD3.out, ?_⟩
          refine Fst.held_one (i := 7) (by kernel_rfl) (by kernel_rfl) ?_
          simp only [List.getD_cons_zero, List.getD_cons_succ]
          go_wp2_with fail
          refine NoPanic.normal ?_
          show _ ∧ wpAnyH _ _ _ _ _ _ _ _ _
          refine ⟨HW.out _ HD3.out, ?_⟩
          refine Fst.held_one (i := 8) (by kernel_rfl) (by kernel_rfl) ?_
          simp only [List.getD_cons_zero, List.getD_cons_succ]
          go_wp2_with fail
          refine (awake_any _).mono ?_
          rintro e wf ⟨rfl, hb⟩
          have HD4 := Lib.hid (HD3.out.trans (hb.mono HD3.out.size))
          clear hb
          go_wp2_with fail
          refine NoPanic.normal ?_
          show _ ∧ wpAnyH _ _ _ _ _ _ _ _ _
          refine ⟨HW.out _ HD4.out, ?_⟩
          refine Fst.held_one (i := 9) (by kernel_rfl) (by kernel_rfl) ?_
          simp only [List.getD_cons_zero, List.getD_cons_succ]
          go_wp2_with fail
          refine NoPanic.normal ?_
          show _ ∧ wpAnyH _ _ _ _ _ _ _ _ _
          refine ⟨HW.out _ HD4.out, ?_⟩
          refine Fst.held_one (i := 10) (by kernel_rfl) (by kernel_rfl) ?_
          simp only [List.getD_cons_zero, List.getD_cons_succ]
          go_wp2_with fail
          refine NoPanic.normal ?_
          show _ ∧ wpAnyH _ _ _ _ _ _ _ _ _
          refine ⟨HW.out _ HD4.out, ?_⟩
          refine Fst.held_end (by kernel_rfl) ?_
          go_wp2_with fail
          go_ret
          exact ⟨rfl, (H.out.later HD4.out).bel⟩
set_option maxRecDepth 100000 in
set_option maxHeartbeats 4000000 in
theorem storeGets_in (s0 : ByteArray) (f1 : List (ByteArray × ByteArray)) (A1 : Option Addr) (cap1 : Nat) (q2 : List (ByteArray × Int)) (A2 : Option Addr) (cap2 : Nat) (w : World) (hs0 : s0.size ≤ maxLen) (hF1 : Files w A1 f1) (hm1 : f1.length ≤ maxLen) (hF2 : Asks w A2 q2) (hm2 : q2.length ≤ maxLen) (g0 : ¬ (300 < s0.size)) (g1 : St.fewB f1 = true) (g2 : St.askB q2 = true) :
    Calls Try.prog 3 #[.string s0, .slice A1 f1.length cap1, .slice A2 q2.length cap2] w fun e w' => e = .returned (.bool true) ∧ Below w.heap.size w w' := by
  cases hr : Nm.role s0 with
  | true => exact storeGets_inT s0 f1 A1 cap1 q2 A2 cap2 w hs0 hF1 hm1 hF2 hm2 g0 g1 g2 hr
  | false => exact storeGets_inF s0 f1 A1 cap1 q2 A2 cap2 w hs0 hF1 hm1 hF2 hm2 g0 g1 g2 hr
theorem storeGets_walk (s0 : ByteArray) (f1 : List (ByteArray × ByteArray)) (A1 : Option Addr) (cap1 : Nat) (q2 : List (ByteArray × Int)) (A2 : Option Addr) (cap2 : Nat) (w : World) (hs0 : s0.size ≤ maxLen) (hF1 : Files w A1 f1) (hm1 : f1.length ≤ maxLen) (hF2 : Asks w A2 q2) (hm2 : q2.length ≤ maxLen) :
    Calls Try.prog 3 #[.string s0, .slice A1 f1.length cap1, .slice A2 q2.length cap2] w fun e w' => e = .returned (.bool true) ∧ Below w.heap.size w w' := by
  by_cases g0 : 300 < s0.size
  · exact storeGets_out0 s0 f1 A1 cap1 q2 A2 cap2 w hs0 hF1 hm1 hF2 hm2 g0
  cases g1 : St.fewB f1 with
  | false => exact storeGets_out1 s0 f1 A1 cap1 q2 A2 cap2 w hs0 hF1 hm1 hF2 hm2 g0 g1
  | true =>
    cases g2 : St.askB q2 with
    | false => exact storeGets_out2 s0 f1 A1 cap1 q2 A2 cap2 w hs0 hF1 hm1 hF2 hm2 g0 g1 g2
    | true =>
      exact storeGets_in s0 f1 A1 cap1 q2 A2 cap2 w hs0 hF1 hm1 hF2 hm2 g0 g1 g2
end Go.Proofs.Ytcianlgkfkccoaa
