/-
  The statement StoreOnce, walked: it returns true.
-/
import Derived.Test.YtcianlgkfkccoaaStOnceI
namespace Go.Proofs.Ytcianlgkfkccoaa
set_option linter.unusedSimpArgs false
set_option linter.unusedVariables false
open Go Go.RowKit

set_option maxRecDepth 100000 in
set_option maxHeartbeats 4000000 in
theorem storeOnce_out0 (f0 : List (ByteArray × ByteArray)) (A0 : Option Addr) (cap0 : Nat) (q1 : List (ByteArray × Int)) (A1 : Option Addr) (cap1 : Nat) (w : World) (hF0 : Files w A0 f0) (hm0 : f0.length ≤ maxLen) (hF1 : Asks w A1 q1) (hm1 : q1.length ≤ maxLen) (g0 : St.fewB f0 = false) :
    Calls Try.prog 4 #[.slice A0 f0.length cap0, .slice A1 q1.length cap1] w fun e w' => e = .returned (.bool true) ∧ Below w.heap.size w w' := by
  have HF0 := Lib.hid hF0
  clear hF0
  have HF1 := Lib.hid hF1
  clear hF1
  have HG0 := Lib.hid g0
  clear g0
  go_enter Try.func4, Try.ntmps4
  go_wp2_with fail
  refine (few_any A0 f0 cap0 _ HF0.out hm0).mono ?_
  rintro e w' ⟨rfl, rfl⟩
  rw [HG0.out]
  go_wp2_with fail
  refine (awake_any _).mono ?_
  rintro e w' ⟨rfl, hb⟩
  have HB := Lib.hid hb
  clear hb
  go_wp2_with fail
  go_ret
  exact ⟨rfl, HB.out⟩
set_option maxRecDepth 100000 in
set_option maxHeartbeats 4000000 in
theorem storeOnce_out1 (f0 : List (ByteArray × ByteArray)) (A0 : Option Addr) (cap0 : Nat) (q1 : List (ByteArray × Int)) (A1 : Option Addr) (cap1 : Nat) (w : World) (hF0 : Files w A0 f0) (hm0 : f0.length ≤ maxLen) (hF1 : Asks w A1 q1) (hm1 : q1.length ≤ maxLen) (g0 : St.fewB f0 = true) (g1 : St.askB q1 = false) :
    Calls Try.prog 4 #[.slice A0 f0.length cap0, .slice A1 q1.length cap1] w fun e w' => e = .returned (.bool true) ∧ Below w.heap.size w w' := by
  have HF0 := Lib.hid hF0
  clear hF0
  have HF1 := Lib.hid hF1
  clear hF1
  have HG0 := Lib.hid g0
  clear g0
  have HG1 := Lib.hid g1
  clear g1
  go_enter Try.func4, Try.ntmps4
  go_wp2_with fail
  refine (few_any A0 f0 cap0 _ HF0.out hm0).mono ?_
  rintro e w' ⟨rfl, rfl⟩
  rw [HG0.out]
  go_wp2_with fail
  refine (asked_any A1 q1 cap1 _ HF1.out hm1).mono ?_
  rintro e w' ⟨rfl, rfl⟩
  rw [HG1.out]
  go_wp2_with fail
  refine (awake_any _).mono ?_
  rintro e w' ⟨rfl, hb⟩
  have HB := Lib.hid hb
  clear hb
  go_wp2_with fail
  go_ret
  exact ⟨rfl, HB.out⟩
theorem getV_any (fs : List (ByteArray × ByteArray)) (l : List St.En) (n : ByteArray) (c : Int) (h : St.bad c = false) : ∃ x, x = St.ans fs l n c ∧ getV fs l n c = .tuple #[.string x.data, .int .i64 x.size, .int .i64 0] := ⟨_, rfl, getV_ok h⟩
theorem fetch_parts (fs : List (ByteArray × ByteArray)) (n : ByteArray) (c : Int) : (St.fetch fs n c).name = n ∧ (St.fetch fs n c).cap = c := by
  unfold St.fetch St.came
  split
  · exact ⟨rfl, rfl⟩
  · split <;> exact ⟨rfl, rfl⟩

set_option maxRecDepth 100000 in
set_option maxHeartbeats 4000000 in
theorem storeOnce_in (f0 : List (ByteArray × ByteArray)) (A0 : Option Addr) (cap0 : Nat) (q1 : List (ByteArray × Int)) (A1 : Option Addr) (cap1 : Nat) (w : World) (hF0 : Files w A0 f0) (hm0 : f0.length ≤ maxLen) (hF1 : Asks w A1 q1) (hm1 : q1.length ≤ maxLen) (g0 : St.fewB f0 = true) (g1 : St.askB q1 = true) :
    Calls Try.prog 4 #[.slice A0 f0.length cap0, .slice A1 q1.length cap1] w fun e w' => e = .returned (.bool true) ∧ Below w.heap.size w w' := by
  have HF0 := Lib.hid hF0
  clear hF0
  have HF1 := Lib.hid hF1
  clear hF1
  have hl0 := St.few_len g0
  have HD0 := Lib.hid (St.few_data g0)
  have HN0 := Lib.hid (St.few_name g0)
  have hl1 := St.ask_len g1
  have HN1 := Lib.hid (St.ask_name g1)
  have HG0 := Lib.hid g0
  clear g0
  have HG1 := Lib.hid g1
  clear g1
  go_enter Try.func4, Try.ntmps4
  go_wp2_with fail
  refine (few_any A0 f0 cap0 _ HF0.out hm0).mono ?_
  rintro e w' ⟨rfl, rfl⟩
  rw [HG0.out]
  go_wp2_with fail
  refine (asked_any A1 q1 cap1 _ HF1.out hm1).mono ?_
  rintro e w' ⟨rfl, rfl⟩
  rw [HG1.out]
  go_wp2_with fail
  refine (awake_any _).mono ?_
  rintro e w1 ⟨rfl, hb⟩
  have HB := Lib.hid hb
  clear hb
  go_wp2_with fail
  refine (new_ok ⟨#[114]⟩ A0 f0 cap0 _ (by decide) role_r (HF0.out.later HB.out) (by omega) (fun i hi => Nat.le_trans (HD0.out i hi) (by omega))).mono ?_
  rintro e wng ⟨g, rfl, hf, hb⟩
  have H := Lib.hid (One.made HB.out hf hb)
  clear hf hb HB
  go_wp2_with fail
  go_loopw [7, 8, 9] (fun v7 v8 c wr => ∃ k : Nat, k ≤ q1.length ∧ c = .int .i64 k ∧ ∃ l, l.length ≤ k ∧ Hid (OnceI w g f0 l l l v7 v8 wr)) (fun _ _ c _ => q1.length - (intOf c).toNat)
  case atStart => exact ⟨0, Nat.zero_le _, rfl, [], Nat.le_refl _, OnceI.made H.out⟩
  case round =>
    clear H
    obtain ⟨k, hk, rfl, l, hll, H⟩ := hrel
    by_cases hlt : k < q1.length
    · obtain ⟨b, o, rfl, hbl, a0, a1⟩ := HF1.out.later H.out.bel k hlt
      have hsz := HN1.out k hlt
      have b0 : (0 : Int) ≤ (k : Int) := by omega
      have b1 : (k : Int) < (q1.length : Int) := by omega
      have Hcell : Hid (∀ W : World, Below w.heap.size w W → W.cell? ⟨b, o + k * 2, none⟩ = some (.string (q1.getD k (⟨#[]⟩, 0)).1) ∧ W.cell? ⟨b, o + k * 2 + 1, none⟩ = some (.int .i64 (q1.getD k (⟨#[]⟩, 0)).2)) := fun W hW => by
        obtain ⟨b', o', e, _, h1, h2⟩ := HF1.out.later hW k hlt
        cases e
        exact ⟨h1, h2⟩
      generalize q1.getD k (⟨#[]⟩, 0) = f at *
      obtain ⟨n, c⟩ := f
      have hone : Hid (St.One l) := by obtain ⟨F, h, _⟩ := H.out.has; exact h.one
      cases hbc : St.bad c with
      | true =>
        have V := Lib.hid (getV_bad (fs := f0) (l := l) (n := n) hbc)
        have G : Hid (St.get f0 l n c = l) := by show _ = _; unfold St.get; rw [hbc]; rfl
        have hcc : c < 0 ∨ 65536 < c := of_decide_eq_true hbc
        clear hbc
        go_wp2_with fail
        refine LexW.wp_region_call 11 (by kernel_rfl) (by kernel_rfl) ?_
        simp only [List.take_succ_cons, List.take_zero, List.drop_succ_cons, List.drop_zero, List.getD_cons_zero, List.getD_cons_succ]
        repeat (go_big_quiet_step (fail))
        refine wpQuiet_nil ?_
        intro _ hw'
        obtain ⟨nq, hw''⟩ := hw'
        subst hw''
        go_wp2_with fail
        refine (once_get (H.out.later (below_drawn (Below.refl _ _) nq)) n c (by omega) (by omega) (by omega)).mono ?_
        rintro e wg ⟨rfl, h2⟩
        rw [G.out] at h2
        have H2 := Lib.hid h2
        rw [V.out]
        clear h2 a0 a1
        go_wp2_with fail
        refine NoPanic.normal ?_
        show wpQuiet _ _ _ _ _ _
        repeat (go_big_quiet_step (fail))
        refine wpQuiet_nil ?_
        intro _ hw'
        obtain ⟨np, hw''⟩ := hw'
        subst hw''
        obtain ⟨wk, hwk⟩ : ∃ wk : World, wk = wg.drewN np := ⟨_, rfl⟩
        rw [← hwk]
        have H2 : Hid (OnceI w g f0 l l l u7 u8 wk) := by rw [hwk]; exact H2.out.later (below_drawn (Below.refl _ _) np)
        clear hwk
        obtain ⟨a0, a1⟩ := Hcell.out _ H2.out.bel
        rcases hcc with hc | hc
        · have c0 : decide (0 ≤ c) = false := decide_eq_false (by omega)
          go_wp2_with fail
          go_roundw
          case rel => exact ⟨k + 1, by omega, by go_num, l, by omega, H2⟩
          case measure => simp [intOf]; omega
        · have c0 : decide (0 ≤ c) = true := decide_eq_true (by omega)
          have c1 : decide (c ≤ 65536) = false := decide_eq_false (by omega)
          go_wp2_with fail
          go_roundw
          case rel => exact ⟨k + 1, by omega, by go_num, l, by omega, H2⟩
          case measure => simp [intOf]; omega
      | false =>
        obtain ⟨x, hx, V⟩ := getV_any f0 l n c hbc
        have HX := Lib.hid hx
        have V := Lib.hid V
        have HBC := Lib.hid hbc
        obtain ⟨l', hl'⟩ : ∃ l', l' = St.get f0 l n c := ⟨_, rfl⟩
        have HL := Lib.hid hl'
        obtain ⟨s, hs⟩ : ∃ s, s = x.size := ⟨_, rfl⟩
        obtain ⟨d, hd⟩ : ∃ d, d = x.data := ⟨_, rfl⟩
        rw [← hs, ← hd] at V
        have HS := Lib.hid hs
        have HDD := Lib.hid hd
        clear hx hl' hbc hs hd
        go_wp2_with fail
        refine LexW.wp_region_call 11 (by kernel_rfl) (by kernel_rfl) ?_
        simp only [List.take_succ_cons, List.take_zero, List.drop_succ_cons, List.drop_zero, List.getD_cons_zero, List.getD_cons_succ]
        repeat (go_big_quiet_step (fail))
        refine wpQuiet_nil ?_
        intro _ hw'
        obtain ⟨nq, hw''⟩ := hw'
        subst hw''
        go_wp2_with fail
        refine (once_get (H.out.later (below_drawn (Below.refl _ _) nq)) n c (by omega) (by omega) (by omega)).mono ?_
        rintro e wg ⟨rfl, h2⟩
        rw [← HL.out] at h2
        have H2 := Lib.hid h2
        rw [V.out]
        clear h2 a0 a1
        go_wp2_with fail
        refine NoPanic.normal ?_
        show wpQuiet _ _ _ _ _ _
        repeat (go_big_quiet_step (fail))
        refine wpQuiet_nil ?_
        intro _ hw'
        obtain ⟨np, hw''⟩ := hw'
        subst hw''
        obtain ⟨wk, hwk⟩ : ∃ wk : World, wk = wg.drewN np := ⟨_, rfl⟩
        rw [← hwk]
        have H2 : Hid (OnceI w g f0 l' l l u7 u8 wk) := by rw [hwk]; exact H2.out.later (below_drawn (Below.refl _ _) np)
        clear hwk H
        obtain ⟨A7, c7, rfl, hF7⟩ := Fets.of_own H2.out.row
        have HF7 := Lib.hid hF7
        clear hF7
        go_wp2_with fail
        go_loopw [13, 14] (fun v c wr => ∃ m : Nat, m ≤ l.length ∧ c = .int .i64 m ∧ Hid (LastK l n m v) ∧ Hid (Below wk.heap.size wk wr)) (fun _ c _ => l.length - (intOf c).toNat)
        case atStart => exact ⟨0, Nat.zero_le _, rfl, .inl ⟨rfl, fun j hj => by omega⟩, Below.refl _ _⟩
        case round =>
          obtain ⟨m, hm, rfl, hK, hbk⟩ := hrel
          have HI := Lib.hid (H2.out.later hbk.out)
          obtain ⟨a0, a1⟩ := Hcell.out _ HI.out.bel
          by_cases hlt2 : m < l.length
          · obtain ⟨b', o', rfl, hbl', d0, d1, d2, d3⟩ := HF7.out.later hbk.out m hlt2
            have c0 : (0 : Int) ≤ (m : Int) := by omega
            have c1 : (m : Int) < (l.length : Int) := by omega
            by_cases he : (l.getD m en0).name = n
            · have n0 := eq_true he
              have hK2 : Hid (LastK l n (m + 1) (.int .i64 m)) := LastK.hit he
              clear he hK
              generalize l.getD m en0 = y at *
              go_wp2_with fail
              go_quiet (fail)
              go_wp2_with fail
              go_roundw
              case rel => exact ⟨m + 1, by omega, by go_num, hK2, below_drawn hbk.out _⟩
              case measure => simp [intOf]; omega
            · have n0 := eq_false he
              have hK2 : Hid (LastK l n (m + 1) u13) := hK.out.miss he
              clear he hK
              generalize l.getD m en0 = y at *
              go_wp2_with fail
              go_quiet (fail)
              go_wp2_with fail
              go_roundw
              case rel => exact ⟨m + 1, by omega, by go_num, hK2, below_drawn hbk.out _⟩
              case measure => simp [intOf]; omega
          · have hmm : m = l.length := by omega
            subst hmm
            rcases hK.out with ⟨rfl, hno⟩ | ⟨j, hj, rfl, hjn⟩
            · have hlk := look_miss hno
              obtain rfl : x = ⟨n, c, s, d⟩ := by
                have h1 := HX.out
                unfold St.ans at h1
                rw [hlk] at h1
                have h2 := fetch_parts f0 n c
                have h3 := HS.out
                have h4 := HDD.out
                rw [h3, h4, h1]
                obtain ⟨p1, p2⟩ := h2
                cases hq : St.fetch f0 n c
                rw [hq] at p1 p2
                cases p1; cases p2; rfl
              obtain rfl : l' = l ++ [⟨n, c, s, d⟩] := by
                have h1 := HX.out
                unfold St.ans at h1
                rw [hlk] at h1
                rw [HL.out]
                unfold St.get
                rw [HBC.out, hlk, h1]; rfl
              obtain ⟨i0, hi0, hz0, hz1, hz2⟩ := info_parts info_fetch
              obtain ⟨j0, hj0, hy0, hy1, hy2⟩ := info_parts info_string
              obtain ⟨wz, rfl⟩ : ∃ wz : World, wz = wr := ⟨_, rfl⟩
              clear hno hlk hK a0 a1
              go_wp2_with fail
              refine Fst.wp_region_heldf (fun W => W.cell? ⟨b, o + k * 2, none⟩ = some (.string n) ∧ W.cell? ⟨b, o + k * 2 + 1, none⟩ = some (.int .i64 c)) [0, 1, 2, 3, 4, 5, 6, 7, 8, 9, 10, 11, 12, 15, 16] 6 (by kernel_rfl) (by kernel_rfl) (by have h := Hcell.out wz HI.out.bel; exact h) ?_
              refine ⟨_, .inl ⟨rfl, fun W _ => BigFrame.run_move _ rfl W⟩, ?_⟩
              try simp only [Fst.wpFstS, Act.put, Act.eval, List.getD_cons_zero, List.getD_cons_succ, List.setIfInBounds_toArray, List.set_cons_zero, List.set_cons_succ, Lex.getD_zero, Lex.getD_succ]
              refine ⟨_, .inl ⟨rfl, fun W _ => BigFrame.run_move _ rfl W⟩, ?_⟩
              try simp only [Fst.wpFstS, Act.put, Act.eval, List.getD_cons_zero, List.getD_cons_succ, List.setIfInBounds_toArray, List.set_cons_zero, List.set_cons_succ, Lex.getD_zero, Lex.getD_succ]
              refine ⟨_, .inl ⟨rfl, fun W _ => BigFrame.run_move _ rfl W⟩, ?_⟩
              try simp only [Fst.wpFstS, Act.put, Act.eval, List.getD_cons_zero, List.getD_cons_succ, List.setIfInBounds_toArray, List.set_cons_zero, List.set_cons_succ, Lex.getD_zero, Lex.getD_succ]
              refine ⟨.pointer (some ⟨b, o + k * 2, none⟩), .inl ⟨rfl, fun W hW => ?_⟩, ?_⟩
              · simp only [Act.put, Act.eval, List.getD_cons_zero, List.getD_cons_succ, Lex.getD_zero, Lex.getD_succ, execOp]
                simp [ix_ask _ _ _ _ _ _ hlt, Result.andThen]
              try simp only [Fst.wpFstS, Act.put, Act.eval, List.getD_cons_zero, List.getD_cons_succ, List.setIfInBounds_toArray, List.set_cons_zero, List.set_cons_succ, Lex.getD_zero, Lex.getD_succ]
              refine ⟨.pointer (some ⟨b, o + k * 2, none⟩), .inl ⟨rfl, fun W hW => ?_⟩, ?_⟩
              · simp only [Act.put, Act.eval, List.getD_cons_zero, List.getD_cons_succ, Lex.getD_zero, Lex.getD_succ, execOp]
                simp [fa_ask0, Result.andThen]
              try simp only [Fst.wpFstS, Act.put, Act.eval, List.getD_cons_zero, List.getD_cons_succ, List.setIfInBounds_toArray, List.set_cons_zero, List.set_cons_succ, Lex.getD_zero, Lex.getD_succ]
              refine ⟨.string n, .inl ⟨rfl, fun W hW => ?_⟩, ?_⟩
              · simp only [Act.put, Act.eval, List.getD_cons_zero, List.getD_cons_succ, Lex.getD_zero, Lex.getD_succ, execOp]
                simp [ld_str _ _ _ _ hW.1, Result.andThen]
              try simp only [Fst.wpFstS, Act.put, Act.eval, List.getD_cons_zero, List.getD_cons_succ, List.setIfInBounds_toArray, List.set_cons_zero, List.set_cons_succ, Lex.getD_zero, Lex.getD_succ]
              refine ⟨_, .inl ⟨rfl, fun W _ => BigFrame.run_move _ rfl W⟩, ?_⟩
              try simp only [Fst.wpFstS, Act.put, Act.eval, List.getD_cons_zero, List.getD_cons_succ, List.setIfInBounds_toArray, List.set_cons_zero, List.set_cons_succ, Lex.getD_zero, Lex.getD_succ]
              refine ⟨_, .inl ⟨rfl, fun W _ => BigFrame.run_move _ rfl W⟩, ?_⟩
              try simp only [Fst.wpFstS, Act.put, Act.eval, List.getD_cons_zero, List.getD_cons_succ, List.setIfInBounds_toArray, List.set_cons_zero, List.set_cons_succ, Lex.getD_zero, Lex.getD_succ]
              refine ⟨.pointer (some ⟨b, o + k * 2, none⟩), .inl ⟨rfl, fun W hW => ?_⟩, ?_⟩
              · simp only [Act.put, Act.eval, List.getD_cons_zero, List.getD_cons_succ, Lex.getD_zero, Lex.getD_succ, execOp]
                simp [ix_ask _ _ _ _ _ _ hlt, Result.andThen]
              try simp only [Fst.wpFstS, Act.put, Act.eval, List.getD_cons_zero, List.getD_cons_succ, List.setIfInBounds_toArray, List.set_cons_zero, List.set_cons_succ, Lex.getD_zero, Lex.getD_succ]
              refine ⟨.pointer (some ⟨b, o + k * 2 + 1, none⟩), .inl ⟨rfl, fun W hW => ?_⟩, ?_⟩
              · simp only [Act.put, Act.eval, List.getD_cons_zero, List.getD_cons_succ, Lex.getD_zero, Lex.getD_succ, execOp]
                simp [fa_ask1, Result.andThen]
              try simp only [Fst.wpFstS, Act.put, Act.eval, List.getD_cons_zero, List.getD_cons_succ, List.setIfInBounds_toArray, List.set_cons_zero, List.set_cons_succ, Lex.getD_zero, Lex.getD_succ]
              refine ⟨.int .i64 c, .inl ⟨rfl, fun W hW => ?_⟩, ?_⟩
              · simp only [Act.put, Act.eval, List.getD_cons_zero, List.getD_cons_succ, Lex.getD_zero, Lex.getD_succ, execOp]
                simp [ld_int _ _ _ _ hW.2, Result.andThen]
              try simp only [Fst.wpFstS, Act.put, Act.eval, List.getD_cons_zero, List.getD_cons_succ, List.setIfInBounds_toArray, List.set_cons_zero, List.set_cons_succ, Lex.getD_zero, Lex.getD_succ]
              refine ⟨_, .inl ⟨rfl, fun W _ => BigFrame.run_move _ rfl W⟩, ?_⟩
              try simp only [Fst.wpFstS, Act.put, Act.eval, List.getD_cons_zero, List.getD_cons_succ, List.setIfInBounds_toArray, List.set_cons_zero, List.set_cons_succ, Lex.getD_zero, Lex.getD_succ]
              refine ⟨.agg #[.string ⟨#[114]⟩, .string n, .int .i64 c, .int .i64 s], .inl ⟨rfl, fun W hW => ?_⟩, ?_⟩
              · simp only [Act.put, Act.eval, List.getD_cons_zero, List.getD_cons_succ, Lex.getD_zero, Lex.getD_succ, execOp]
                simp [bld_fetch, Result.andThen]
              try simp only [Fst.wpFstS, Act.put, Act.eval, List.getD_cons_zero, List.getD_cons_succ, List.setIfInBounds_toArray, List.set_cons_zero, List.set_cons_succ, Lex.getD_zero, Lex.getD_succ]
              refine ⟨_, .inl ⟨rfl, fun W _ => BigFrame.run_move _ rfl W⟩, ?_⟩
              try simp only [Fst.wpFstS, Act.put, Act.eval, List.getD_cons_zero, List.getD_cons_succ, List.setIfInBounds_toArray, List.set_cons_zero, List.set_cons_succ, Lex.getD_zero, Lex.getD_succ]
              refine ⟨_, .inl ⟨rfl, fun W _ => BigFrame.run_move _ rfl W⟩, ?_⟩
              try simp only [Fst.wpFstS, Act.put, Act.eval, List.getD_cons_zero, List.getD_cons_succ, List.setIfInBounds_toArray, List.set_cons_zero, List.set_cons_succ, Lex.getD_zero, Lex.getD_succ]
              obtain ⟨wc, hwc⟩ : ∃ wc : World, wc = { wz with drawn := wz.drawn + 1 } := ⟨_, rfl⟩
              rw [← hwc]
              have HI : Hid (OnceI w g f0 (l ++ [⟨n, c, s, d⟩]) l l (.slice A7 l.length c7) u8 wc) := by rw [hwc]; exact HI.out.later ⟨rfl, rfl, rfl, Nat.le_refl _, fun _ _ => rfl⟩
              clear hwc H2
              refine held_two (i := 13) (j := 17) (by kernel_rfl) (by kernel_rfl) ?_ ?_
              · -- 13 first
                simp only [List.getD_cons_zero, List.getD_cons_succ]
                go_wp2_with fail
                refine NoPanic.normal ?_
                show _ ∧ wpAnyH _ _ _ _ _ _ _ _ _
                obtain ⟨wd, hw_wd⟩ : ∃ W : World, W = wc.alloc (.cells #[.string ⟨#[114]⟩, .string n, .int .i64 c, .int .i64 s] 41 (0, 0)) := ⟨_, rfl⟩
                rw [← hw_wd]
                have HI : Hid (OnceI w g f0 (l ++ [⟨n, c, s, d⟩]) l l (.slice A7 l.length c7) u8 wd) := by rw [hw_wd]; exact HI.out.later ((Below.refl _ _).alloc (Nat.le_refl _) _)
                have hb7 : Hid (wd.heap[wc.heap.size]? = some (.cells #[.string ⟨#[114]⟩, .string n, .int .i64 c, .int .i64 s] 41 (0, 0))) := by rw [hw_wd]; exact heap_alloc_new _ _
                skip
                clear hw_wd
                refine ⟨Hcell.out _ HI.out.bel, ?_⟩
                refine held_two (i := 14) (j := 17) (by kernel_rfl) (by kernel_rfl) ?_ ?_
                · -- 13, 14, 17
                  simp only [List.getD_cons_zero, List.getD_cons_succ]
                  go_wp2_with (at_builtin; go_must (refine wpList_append_own_at _ rfl _ _ _ rfl w.heap.size 41 i0 _ 4 48 Try.underlying44 hi0 hz0 hz1 hz2 rfl (by omega) (.slice A7 l.length c7) l.length _ rfl HI.out.row ⟨wc.heap.size, 0, none⟩ 1 1 [.string ⟨#[114]⟩, .string n, .int .i64 c, .int .i64 s] rfl rfl (World.news_of_block hb7.out) (by simp [Value.oneCell']) (by unfold maxLen; omega) (by omega) HI.out.bel.size ?_))
                  intro v7 we hown7 hgrow7 _ hat7
                  have HI : Hid (OnceI w g f0 (l ++ [⟨n, c, s, d⟩]) (l ++ [⟨n, c, s, d⟩]) l v7 u8 we) := OnceI.app7 HI.out hown7 hgrow7 hat7
                  clear hown7 hgrow7 hat7
                  go_wp2_with fail
                  refine NoPanic.normal ?_
                  show _ ∧ wpAnyH _ _ _ _ _ _ _ _ _
                  refine ⟨Hcell.out _ HI.out.bel, ?_⟩
                  refine Fst.held_one (i := 17) (by kernel_rfl) (by kernel_rfl) ?_
                  simp only [List.getD_cons_zero, List.getD_cons_succ]
                  go_wp2_with fail
                  refine NoPanic.normal ?_
                  show _ ∧ wpAnyH _ _ _ _ _ _ _ _ _
                  obtain ⟨wf, hw_wf⟩ : ∃ W : World, W = we.alloc (.cells #[.string d] 9 (0, 0)) := ⟨_, rfl⟩
                  rw [← hw_wf]
                  have HI : Hid (OnceI w g f0 (l ++ [⟨n, c, s, d⟩]) (l ++ [⟨n, c, s, d⟩]) l v7 u8 wf) := by rw [hw_wf]; exact HI.out.later ((Below.refl _ _).alloc (Nat.le_refl _) _)
                  have hb8 : Hid (wf.heap[we.heap.size]? = some (.cells #[.string d] 9 (0, 0))) := by rw [hw_wf]; exact heap_alloc_new _ _
                  skip
                  clear hw_wf
                  refine ⟨Hcell.out _ HI.out.bel, ?_⟩
                  refine Fst.held_one (i := 18) (by kernel_rfl) (by kernel_rfl) ?_
                  simp only [List.getD_cons_zero, List.getD_cons_succ]
                  go_wp2_with (at_builtin; go_must (refine wpList_append_own_at _ rfl _ _ _ rfl w.heap.size 9 j0 _ 1 16 Try.underlying47 hj0 hy0 hy1 hy2 rfl (by omega) u8 l.length _ rfl HI.out.dat ⟨we.heap.size, 0, none⟩ 1 1 [.string d] rfl rfl (World.news_of_block hb8.out) (by simp [Value.oneCell']) (by unfold maxLen; omega) (by omega) HI.out.bel.size ?_))
                  intro v8 w8 hown8 hgrow8 _ hat8
                  have HI : Hid (OnceI w g f0 (l ++ [⟨n, c, s, d⟩]) (l ++ [⟨n, c, s, d⟩]) (l ++ [⟨n, c, s, d⟩]) v7 v8 w8) := OnceI.app8 HI.out hown8 hgrow8 hat8
                  clear hown8 hgrow8 hat8
                  go_wp2_with fail
                  refine NoPanic.normal ?_
                  show _ ∧ wpAnyH _ _ _ _ _ _ _ _ _
                  refine ⟨Hcell.out _ HI.out.bel, ?_⟩
                  refine Fst.held_one (i := 19) (by kernel_rfl) (by kernel_rfl) ?_
                  simp only [List.getD_cons_zero, List.getD_cons_succ]
                  go_wp2_with fail
                  refine NoPanic.normal ?_
                  show _ ∧ wpAnyH _ _ _ _ _ _ _ _ _
                  refine ⟨Hcell.out _ HI.out.bel, ?_⟩
                  refine Fst.held_one (i := 20) (by kernel_rfl) (by kernel_rfl) ?_
                  simp only [List.getD_cons_zero, List.getD_cons_succ]
                  go_wp2_with fail
                  refine NoPanic.normal ?_
                  show _ ∧ wpAnyH _ _ _ _ _ _ _ _ _
                  refine ⟨Hcell.out _ HI.out.bel, ?_⟩
                  refine Fst.held_end (by kernel_rfl) ?_
                  go_wp2_with fail
                  go_roundw
                  case rel => exact ⟨k + 1, by omega, by go_num, _, by simp; omega, HI⟩
                  case measure => simp [intOf]; omega
                · -- 13, 17, 14
                  simp only [List.getD_cons_zero, List.getD_cons_succ]
                  go_wp2_with fail
                  refine NoPanic.normal ?_
                  show _ ∧ wpAnyH _ _ _ _ _ _ _ _ _
                  obtain ⟨we, hw_we⟩ : ∃ W : World, W = wd.alloc (.cells #[.string d] 9 (0, 0)) := ⟨_, rfl⟩
                  rw [← hw_we]
                  have HI : Hid (OnceI w g f0 (l ++ [⟨n, c, s, d⟩]) l l (.slice A7 l.length c7) u8 we) := by rw [hw_we]; exact HI.out.later ((Below.refl _ _).alloc (Nat.le_refl _) _)
                  have hb8 : Hid (we.heap[wd.heap.size]? = some (.cells #[.string d] 9 (0, 0))) := by rw [hw_we]; exact heap_alloc_new _ _
                  have hb7 : Hid (we.heap[wc.heap.size]? = some (.cells #[.string ⟨#[114]⟩, .string n, .int .i64 c, .int .i64 s] 41 (0, 0))) := by rw [hw_we]; exact (Below.heap_alloc _ _ _ (Array.getElem?_eq_some_iff.1 hb7.out).1).trans hb7.out
                  clear hw_we
                  refine ⟨Hcell.out _ HI.out.bel, ?_⟩
                  refine Fst.held_one (i := 14) (by kernel_rfl) (by kernel_rfl) ?_
                  simp only [List.getD_cons_zero, List.getD_cons_succ]
                  go_wp2_with (at_builtin; go_must (refine wpList_append_own_at _ rfl _ _ _ rfl w.heap.size 41 i0 _ 4 48 Try.underlying44 hi0 hz0 hz1 hz2 rfl (by omega) (.slice A7 l.length c7) l.length _ rfl HI.out.row ⟨wc.heap.size, 0, none⟩ 1 1 [.string ⟨#[114]⟩, .string n, .int .i64 c, .int .i64 s] rfl rfl (World.news_of_block hb7.out) (by simp [Value.oneCell']) (by unfold maxLen; omega) (by omega) HI.out.bel.size ?_))
                  intro v7 wf hown7 hgrow7 _ hat7
                  have hb8 : Hid (wf.heap[wd.heap.size]? = some (.cells #[.string d] 9 (0, 0))) := by
                    have hlt8 := (Array.getElem?_eq_some_iff.1 hb8.out).1
                    exact (hgrow7.block _ hlt8 (fun he => by have h1 := own_bk HI.out.row (g := wd.heap.size) (cs := #[.string d]) (t := 9) hb8.out (by decide); exact h1 he.symm)).trans hb8.out
                  have HI : Hid (OnceI w g f0 (l ++ [⟨n, c, s, d⟩]) (l ++ [⟨n, c, s, d⟩]) l v7 u8 wf) := OnceI.app7 HI.out hown7 hgrow7 hat7
                  clear hown7 hgrow7 hat7
                  go_wp2_with fail
                  refine NoPanic.normal ?_
                  show _ ∧ wpAnyH _ _ _ _ _ _ _ _ _
                  refine ⟨Hcell.out _ HI.out.bel, ?_⟩
                  refine Fst.held_one (i := 18) (by kernel_rfl) (by kernel_rfl) ?_
                  simp only [List.getD_cons_zero, List.getD_cons_succ]
                  go_wp2_with (at_builtin; go_must (refine wpList_append_own_at _ rfl _ _ _ rfl w.heap.size 9 j0 _ 1 16 Try.underlying47 hj0 hy0 hy1 hy2 rfl (by omega) u8 l.length _ rfl HI.out.dat ⟨wd.heap.size, 0, none⟩ 1 1 [.string d] rfl rfl (World.news_of_block hb8.out) (by simp [Value.oneCell']) (by unfold maxLen; omega) (by omega) HI.out.bel.size ?_))
                  intro v8 w8 hown8 hgrow8 _ hat8
                  have HI : Hid (OnceI w g f0 (l ++ [⟨n, c, s, d⟩]) (l ++ [⟨n, c, s, d⟩]) (l ++ [⟨n, c, s, d⟩]) v7 v8 w8) := OnceI.app8 HI.out hown8 hgrow8 hat8
                  clear hown8 hgrow8 hat8
                  go_wp2_with fail
                  refine NoPanic.normal ?_
                  show _ ∧ wpAnyH _ _ _ _ _ _ _ _ _
                  refine ⟨Hcell.out _ HI.out.bel, ?_⟩
                  refine Fst.held_one (i := 19) (by kernel_rfl) (by kernel_rfl) ?_
                  simp only [List.getD_cons_zero, List.getD_cons_succ]
                  go_wp2_with fail
                  refine NoPanic.normal ?_
                  show _ ∧ wpAnyH _ _ _ _ _ _ _ _ _
                  refine ⟨Hcell.out _ HI.out.bel, ?_⟩
                  refine Fst.held_one (i := 20) (by kernel_rfl) (by kernel_rfl) ?_
                  simp only [List.getD_cons_zero, List.getD_cons_succ]
                  go_wp2_with fail
                  refine NoPanic.normal ?_
                  show _ ∧ wpAnyH _ _ _ _ _ _ _ _ _
                  refine ⟨Hcell.out _ HI.out.bel, ?_⟩
                  refine Fst.held_end (by kernel_rfl) ?_
                  go_wp2_with fail
                  go_roundw
                  case rel => exact ⟨k + 1, by omega, by go_num, _, by simp; omega, HI⟩
                  case measure => simp [intOf]; omega
              · -- 17, 13, 14
                simp only [List.getD_cons_zero, List.getD_cons_succ]
                go_wp2_with fail
                refine NoPanic.normal ?_
                show _ ∧ wpAnyH _ _ _ _ _ _ _ _ _
                obtain ⟨wd, hw_wd⟩ : ∃ W : World, W = wc.alloc (.cells #[.string d] 9 (0, 0)) := ⟨_, rfl⟩
                rw [← hw_wd]
                have HI : Hid (OnceI w g f0 (l ++ [⟨n, c, s, d⟩]) l l (.slice A7 l.length c7) u8 wd) := by rw [hw_wd]; exact HI.out.later ((Below.refl _ _).alloc (Nat.le_refl _) _)
                have hb8 : Hid (wd.heap[wc.heap.size]? = some (.cells #[.string d] 9 (0, 0))) := by rw [hw_wd]; exact heap_alloc_new _ _
                skip
                clear hw_wd
                refine ⟨Hcell.out _ HI.out.bel, ?_⟩
                refine Fst.held_one (i := 13) (by kernel_rfl) (by kernel_rfl) ?_
                simp only [List.getD_cons_zero, List.getD_cons_succ]
                go_wp2_with fail
                refine NoPanic.normal ?_
                show _ ∧ wpAnyH _ _ _ _ _ _ _ _ _
                obtain ⟨we, hw_we⟩ : ∃ W : World, W = wd.alloc (.cells #[.string ⟨#[114]⟩, .string n, .int .i64 c, .int .i64 s] 41 (0, 0)) := ⟨_, rfl⟩
                rw [← hw_we]
                have HI : Hid (OnceI w g f0 (l ++ [⟨n, c, s, d⟩]) l l (.slice A7 l.length c7) u8 we) := by rw [hw_we]; exact HI.out.later ((Below.refl _ _).alloc (Nat.le_refl _) _)
                have hb7 : Hid (we.heap[wd.heap.size]? = some (.cells #[.string ⟨#[114]⟩, .string n, .int .i64 c, .int .i64 s] 41 (0, 0))) := by rw [hw_we]; exact heap_alloc_new _ _
                have hb8 : Hid (we.heap[wc.heap.size]? = some (.cells #[.string d] 9 (0, 0))) := by rw [hw_we]; exact (Below.heap_alloc _ _ _ (Array.getElem?_eq_some_iff.1 hb8.out).1).trans hb8.out
                clear hw_we
                refine ⟨Hcell.out _ HI.out.bel, ?_⟩
                refine Fst.held_one (i := 14) (by kernel_rfl) (by kernel_rfl) ?_
                simp only [List.getD_cons_zero, List.getD_cons_succ]
                go_wp2_with (at_builtin; go_must (refine wpList_append_own_at _ rfl _ _ _ rfl w.heap.size 41 i0 _ 4 48 Try.underlying44 hi0 hz0 hz1 hz2 rfl (by omega) (.slice A7 l.length c7) l.length _ rfl HI.out.row ⟨wd.heap.size, 0, none⟩ 1 1 [.string ⟨#[114]⟩, .string n, .int .i64 c, .int .i64 s] rfl rfl (World.news_of_block hb7.out) (by simp [Value.oneCell']) (by unfold maxLen; omega) (by omega) HI.out.bel.size ?_))
                intro v7 wf hown7 hgrow7 _ hat7
                have hb8 : Hid (wf.heap[wc.heap.size]? = some (.cells #[.string d] 9 (0, 0))) := by
                  have hlt8 := (Array.getElem?_eq_some_iff.1 hb8.out).1
                  exact (hgrow7.block _ hlt8 (fun he => by have h1 := own_bk HI.out.row (g := wc.heap.size) (cs := #[.string d]) (t := 9) hb8.out (by decide); exact h1 he.symm)).trans hb8.out
                have HI : Hid (OnceI w g f0 (l ++ [⟨n, c, s, d⟩]) (l ++ [⟨n, c, s, d⟩]) l v7 u8 wf) := OnceI.app7 HI.out hown7 hgrow7 hat7
                clear hown7 hgrow7 hat7
                go_wp2_with fail
                refine NoPanic.normal ?_
                show _ ∧ wpAnyH _ _ _ _ _ _ _ _ _
                refine ⟨Hcell.out _ HI.out.bel, ?_⟩
                refine Fst.held_one (i := 18) (by kernel_rfl) (by kernel_rfl) ?_
                simp only [List.getD_cons_zero, List.getD_cons_succ]
                go_wp2_with (at_builtin; go_must (refine wpList_append_own_at _ rfl _ _ _ rfl w.heap.size 9 j0 _ 1 16 Try.underlying47 hj0 hy0 hy1 hy2 rfl (by omega) u8 l.length _ rfl HI.out.dat ⟨wc.heap.size, 0, none⟩ 1 1 [.string d] rfl rfl (World.news_of_block hb8.out) (by simp [Value.oneCell']) (by unfold maxLen; omega) (by omega) HI.out.bel.size ?_))
                intro v8 w8 hown8 hgrow8 _ hat8
                have HI : Hid (OnceI w g f0 (l ++ [⟨n, c, s, d⟩]) (l ++ [⟨n, c, s, d⟩]) (l ++ [⟨n, c, s, d⟩]) v7 v8 w8) := OnceI.app8 HI.out hown8 hgrow8 hat8
                clear hown8 hgrow8 hat8
                go_wp2_with fail
                refine NoPanic.normal ?_
                show _ ∧ wpAnyH _ _ _ _ _ _ _ _ _
                refine ⟨Hcell.out _ HI.out.bel, ?_⟩
                refine Fst.held_one (i := 19) (by kernel_rfl) (by kernel_rfl) ?_
                simp only [List.getD_cons_zero, List.getD_cons_succ]
                go_wp2_with fail
                refine NoPanic.normal ?_
                show _ ∧ wpAnyH _ _ _ _ _ _ _ _ _
                refine ⟨Hcell.out _ HI.out.bel, ?_⟩
                refine Fst.held_one (i := 20) (by kernel_rfl) (by kernel_rfl) ?_
                simp only [List.getD_cons_zero, List.getD_cons_succ]
                go_wp2_with fail
                refine NoPanic.normal ?_
                show _ ∧ wpAnyH _ _ _ _ _ _ _ _ _
                refine ⟨Hcell.out _ HI.out.bel, ?_⟩
                refine Fst.held_end (by kernel_rfl) ?_
                go_wp2_with fail
                go_roundw
                case rel => exact ⟨k + 1, by omega, by go_num, _, by simp; omega, HI⟩
                case measure => simp [intOf]; omega
            · have hlk := look_hit hone.out hj hjn
              obtain rfl : l' = l := by
                rw [HL.out]
                unfold St.get
                rw [HBC.out, hlk]; rfl
              have hx2 : x = l'.getD j en0 := by
                rw [HX.out]
                unfold St.ans
                rw [hlk]
              obtain ⟨bd, cd, rfl, dc⟩ := dat_cell HI.out.dat j hj
              obtain ⟨b', o', rfl, hbl', d0, d1, d2, d3⟩ := HF7.out.later hbk.out j hj
              rw [← hx2] at dc d3
              rw [← HDD.out] at dc
              rw [← HS.out] at d3
              have c0 : (0 : Int) ≤ (j : Int) := by omega
              have c1 : (j : Int) < (l'.length : Int) := by omega
              have c2 : decide ((j : Int) < 0) = false := decide_eq_false (by omega)
              have e1 : (d.toList == d.toList) = true := beq_self_eq_true _
              have e2 : (s == s) = true := beq_self_eq_true _
              clear hlk hx2 hK d0 d1 d2 hjn a0 a1
              go_wp2_with fail
              go_roundw
              case rel => exact ⟨k + 1, by omega, by go_num, l', by omega, HI⟩
              case measure => simp [intOf]; omega
    · have hkk : k = q1.length := by omega
      subst hkk
      go_wp2_with fail
      refine (one_fetched H.out.one (by omega)).mono ?_
      rintro e wx ⟨va, rfl, hva, hb⟩
      have H2 := Lib.hid (H.out.later hb)
      have HVA := Lib.hid hva
      clear hb hva
      go_wp2_with fail
      refine (same_own va u7 _ _ ⟨#[114]⟩ l _ HVA.out H2.out.row (by omega)).mono ?_
      rintro e wz ⟨rfl, hb⟩
      have hB5 := Lib.hid (H2.out.later hb).bel
      clear hb
      go_wp2_with fail
      go_ret
      exact ⟨rfl, hB5.out⟩
theorem storeOnce_walk (f0 : List (ByteArray × ByteArray)) (A0 : Option Addr) (cap0 : Nat) (q1 : List (ByteArray × Int)) (A1 : Option Addr) (cap1 : Nat) (w : World) (hF0 : Files w A0 f0) (hm0 : f0.length ≤ maxLen) (hF1 : Asks w A1 q1) (hm1 : q1.length ≤ maxLen) :
    Calls Try.prog 4 #[.slice A0 f0.length cap0, .slice A1 q1.length cap1] w fun e w' => e = .returned (.bool true) ∧ Below w.heap.size w w' := by
  cases g0 : St.fewB f0 with
  | false => exact storeOnce_out0 f0 A0 cap0 q1 A1 cap1 w hF0 hm0 hF1 hm1 g0
  | true =>
    cases g1 : St.askB q1 with
    | false => exact storeOnce_out1 f0 A0 cap0 q1 A1 cap1 w hF0 hm0 hF1 hm1 g0 g1
    | true =>
      exact storeOnce_in f0 A0 cap0 q1 A1 cap1 w hF0 hm0 hF1 hm1 g0 g1
end Go.Proofs.Ytcianlgkfkccoaa
