/-
  The statement StoreElse, walked: it returns true.
-/
import Derived.Test.YtcianlgkfkccoaaStAlike
import Derived.Test.YtcianlgkfkccoaaLexW
namespace Go.Proofs.Ytcianlgkfkccoaa
set_option linter.unusedSimpArgs false
set_option linter.unusedVariables false
open Go Go.RowKit

set_option maxRecDepth 100000 in
set_option maxHeartbeats 4000000 in
theorem storeElse_out0 (f0 : List (ByteArray × ByteArray)) (A0 : Option Addr) (cap0 : Nat) (f1 : List (ByteArray × ByteArray)) (A1 : Option Addr) (cap1 : Nat) (q2 : List (ByteArray × Int)) (A2 : Option Addr) (cap2 : Nat) (w : World) (hF0 : Files w A0 f0) (hm0 : f0.length ≤ maxLen) (hF1 : Files w A1 f1) (hm1 : f1.length ≤ maxLen) (hF2 : Asks w A2 q2) (hm2 : q2.length ≤ maxLen) (g0 : St.fewB f0 = false) :
    Calls Try.prog 6 #[.slice A0 f0.length cap0, .slice A1 f1.length cap1, .slice A2 q2.length cap2] w fun e w' => e = .returned (.bool true) ∧ Below w.heap.size w w' := by
  have HF0 := Lib.hid hF0
  clear hF0
  have HF1 := Lib.hid hF1
  clear hF1
  have HF2 := Lib.hid hF2
  clear hF2
  have HG0 := Lib.hid g0
  clear g0
  go_enter Try.func6, Try.ntmps6
  go_wp2_with fail
  refine (few_any A0 f0 cap0 _ HF0.out hm0).mono ?_
  rintro e w' ⟨rfl, rfl⟩
  rw [HG0.out]
  go_wp2_with fail
  refine (awake_any _).mono ?_
  rintro e w' ⟨rfl, hb⟩
  have HB := Lib.hid hb
  clear hb
  go_wp2_with fail
  go_ret
  exact ⟨rfl, HB.out⟩
set_option maxRecDepth 100000 in
set_option maxHeartbeats 4000000 in
theorem storeElse_out1 (f0 : List (ByteArray × ByteArray)) (A0 : Option Addr) (cap0 : Nat) (f1 : List (ByteArray × ByteArray)) (A1 : Option Addr) (cap1 : Nat) (q2 : List (ByteArray × Int)) (A2 : Option Addr) (cap2 : Nat) (w : World) (hF0 : Files w A0 f0) (hm0 : f0.length ≤ maxLen) (hF1 : Files w A1 f1) (hm1 : f1.length ≤ maxLen) (hF2 : Asks w A2 q2) (hm2 : q2.length ≤ maxLen) (g0 : St.fewB f0 = true) (g1 : St.fewB f1 = false) :
    Calls Try.prog 6 #[.slice A0 f0.length cap0, .slice A1 f1.length cap1, .slice A2 q2.length cap2] w fun e w' => e = .returned (.bool true) ∧ Below w.heap.size w w' := by
  have HF0 := Lib.hid hF0
  clear hF0
  have HF1 := Lib.hid hF1
  clear hF1
  have HF2 := Lib.hid hF2
  clear hF2
  have HG0 := Lib.hid g0
  clear g0
  have HG1 := Lib.hid g1
  clear g1
  go_enter Try.func6, Try.ntmps6
  go_wp2_with fail
  refine (few_any A0 f0 cap0 _ HF0.out hm0).mono ?_
  rintro e w' ⟨rfl, rfl⟩
  rw [HG0.out]
  go_wp2_with fail
  refine (few_any A1 f1 cap1 _ HF1.out hm1).mono ?_
  rintro e w' ⟨rfl, rfl⟩
  rw [HG1.out]
  go_wp2_with fail
  refine (awake_any _).mono ?_
  rintro e w' ⟨rfl, hb⟩
  have HB := Lib.hid hb
  clear hb
  go_wp2_with fail
  go_ret
  exact ⟨rfl, HB.out⟩
set_option maxRecDepth 100000 in
set_option maxHeartbeats 4000000 in
theorem storeElse_out2 (f0 : List (ByteArray × ByteArray)) (A0 : Option Addr) (cap0 : Nat) (f1 : List (ByteArray × ByteArray)) (A1 : Option Addr) (cap1 : Nat) (q2 : List (ByteArray × Int)) (A2 : Option Addr) (cap2 : Nat) (w : World) (hF0 : Files w A0 f0) (hm0 : f0.length ≤ maxLen) (hF1 : Files w A1 f1) (hm1 : f1.length ≤ maxLen) (hF2 : Asks w A2 q2) (hm2 : q2.length ≤ maxLen) (g0 : St.fewB f0 = true) (g1 : St.fewB f1 = true) (g2 : St.askB q2 = false) :
    Calls Try.prog 6 #[.slice A0 f0.length cap0, .slice A1 f1.length cap1, .slice A2 q2.length cap2] w fun e w' => e = .returned (.bool true) ∧ Below w.heap.size w w' := by
  have HF0 := Lib.hid hF0
  clear hF0
  have HF1 := Lib.hid hF1
  clear hF1
  have HF2 := Lib.hid hF2
  clear hF2
  have HG0 := Lib.hid g0
  clear g0
  have HG1 := Lib.hid g1
  clear g1
  have HG2 := Lib.hid g2
  clear g2
  go_enter Try.func6, Try.ntmps6
  go_wp2_with fail
  refine (few_any A0 f0 cap0 _ HF0.out hm0).mono ?_
  rintro e w' ⟨rfl, rfl⟩
  rw [HG0.out]
  go_wp2_with fail
  refine (few_any A1 f1 cap1 _ HF1.out hm1).mono ?_
  rintro e w' ⟨rfl, rfl⟩
  rw [HG1.out]
  go_wp2_with fail
  refine (asked_any A2 q2 cap2 _ HF2.out hm2).mono ?_
  rintro e w' ⟨rfl, rfl⟩
  rw [HG2.out]
  go_wp2_with fail
  refine (awake_any _).mono ?_
  rintro e w' ⟨rfl, hb⟩
  have HB := Lib.hid hb
  clear hb
  go_wp2_with fail
  go_ret
  exact ⟨rfl, HB.out⟩
set_option maxRecDepth 100000 in
set_option maxHeartbeats 4000000 in
theorem storeElse_in (f0 : List (ByteArray × ByteArray)) (A0 : Option Addr) (cap0 : Nat) (f1 : List (ByteArray × ByteArray)) (A1 : Option Addr) (cap1 : Nat) (q2 : List (ByteArray × Int)) (A2 : Option Addr) (cap2 : Nat) (w : World) (hF0 : Files w A0 f0) (hm0 : f0.length ≤ maxLen) (hF1 : Files w A1 f1) (hm1 : f1.length ≤ maxLen) (hF2 : Asks w A2 q2) (hm2 : q2.length ≤ maxLen) (g0 : St.fewB f0 = true) (g1 : St.fewB f1 = true) (g2 : St.askB q2 = true) :
    Calls Try.prog 6 #[.slice A0 f0.length cap0, .slice A1 f1.length cap1, .slice A2 q2.length cap2] w fun e w' => e = .returned (.bool true) ∧ Below w.heap.size w w' := by
  have HF0 := Lib.hid hF0
  clear hF0
  have HF1 := Lib.hid hF1
  clear hF1
  have HF2 := Lib.hid hF2
  clear hF2
  have hl0 := St.few_len g0
  have HD0 := Lib.hid (St.few_data g0)
  have HN0 := Lib.hid (St.few_name g0)
  have hl1 := St.few_len g1
  have HD1 := Lib.hid (St.few_data g1)
  have HN1 := Lib.hid (St.few_name g1)
  have hl2 := St.ask_len g2
  have HN2 := Lib.hid (St.ask_name g2)
  have HG0 := Lib.hid g0
  clear g0
  have HG1 := Lib.hid g1
  clear g1
  have HG2 := Lib.hid g2
  clear g2
  go_enter Try.func6, Try.ntmps6
  go_wp2_with fail
  refine (few_any A0 f0 cap0 _ HF0.out hm0).mono ?_
  rintro e w' ⟨rfl, rfl⟩
  rw [HG0.out]
  go_wp2_with fail
  refine (few_any A1 f1 cap1 _ HF1.out hm1).mono ?_
  rintro e w' ⟨rfl, rfl⟩
  rw [HG1.out]
  go_wp2_with fail
  refine (asked_any A2 q2 cap2 _ HF2.out hm2).mono ?_
  rintro e w' ⟨rfl, rfl⟩
  rw [HG2.out]
  go_wp2_with fail
  refine (awake_any _).mono ?_
  rintro e w1 ⟨rfl, hb⟩
  have HB := Lib.hid hb
  clear hb
  go_wp2_with (at_builtin; go_must (refine wpList_append_files _ rfl _ _ rfl w1.heap.size _ _ _ rfl (World.ownsRow_made w1 #[] 0 (Nat.le_refl _) (Nat.zero_le _) rfl) A0 f0 cap0 rfl ((HF0.out.later HB.out).later ((Below.refl _ w1).alloc (Nat.le_refl _) _)) (by omega) (by simp) ?_))
  intro v' w2 hown hgrow
  have hO : Hid (w2.ownsRow w1.heap.size 35 2 v' (f0.length + 0) (fcells f0)) := by
    show World.ownsRow _ _ _ _ _ _ _
    simpa using hown
  have hB2 : Hid (Below w1.heap.size w1 w2) := ((Below.refl _ w1).alloc (Nat.le_refl _) _).grown hgrow (by simp) (by intro k hk; simp [Value.ownBlock] at hk; omega)
  clear hown hgrow
  go_wp2_with fail
  go_loopw [7, 8] (fun v c wr => ∃ k : Nat, k ≤ f1.length ∧ c = .int .i64 k ∧ ∃ ex : List (ByteArray × ByteArray), ex.length ≤ k ∧ Hid (∀ e ∈ ex, Idle f0 q2 e.1) ∧ Hid (∀ e ∈ ex, e.2.size ≤ 2000) ∧ Hid (wr.ownsRow w1.heap.size 35 2 v (f0.length + ex.length) (fcells (f0 ++ ex))) ∧ Hid (Below w1.heap.size w1 wr)) (fun _ c _ => f1.length - (intOf c).toNat)
  case atStart => exact ⟨0, Nat.zero_le _, rfl, [], Nat.le_refl _, (fun e he => by cases he), (fun e he => by cases he), by simpa using hO, hB2⟩
  case round =>
    clear hO hB2
    obtain ⟨k, hk, rfl, ex, hex, hI, hS, hO, hB2⟩ := hrel
    by_cases hlt : k < f1.length
    · have hsz := HN1.out k hlt
      have hds := HD1.out k hlt
      obtain ⟨x, hx⟩ : ∃ x, x = f1.getD k (⟨#[]⟩, ⟨#[]⟩) := ⟨_, rfl⟩
      have Hcell : Hid (∀ W : World, Below w1.heap.size w1 W → ∃ b o : Nat, A1 = some ⟨b, o, none⟩ ∧ b < W.heap.size ∧ W.cell? ⟨b, o + k * 2, none⟩ = some (.string x.1) ∧ W.cell? ⟨b, o + k * 2 + 1, none⟩ = some (.string x.2)) := fun W hW => by
        have := ((HF1.out.later HB.out).later hW) k hlt
        rwa [← hx] at this
      rw [← hx] at hsz hds
      clear hx
      obtain ⟨x1, x2⟩ := x
      have b0 : (0 : Int) ≤ (k : Int) := by omega
      have b1 : (k : Int) < (f1.length : Int) := by omega
      go_wp2_with fail
      go_loopw [9, 10] (fun b c wr => ∃ (t : Bool) (m : Nat), m ≤ q2.length ∧ b = .bool t ∧ c = .int .i64 m ∧ Hid (t = true → ∀ j, j < m → (q2.getD j (⟨#[]⟩, 0)).1 ≠ x1) ∧ Hid (wr.ownsRow w1.heap.size 35 2 u7 (f0.length + ex.length) (fcells (f0 ++ ex))) ∧ Hid (Below w1.heap.size w1 wr)) (fun _ c _ => q2.length - (intOf c).toNat)
      case atStart => exact ⟨true, 0, Nat.zero_le _, rfl, rfl, (fun _ j hj => by omega), hO, hB2⟩
      case round =>
        clear hO hB2
        obtain ⟨t, m, hm, rfl, rfl, hQ, hO, hB2⟩ := hrel
        by_cases hlt2 : m < q2.length
        · obtain ⟨b, o, rfl, hbl, a0, -⟩ := Hcell.out _ hB2.out
          obtain ⟨b', o', rfl, hbl', d0, -⟩ := (HF2.out.later HB.out).later hB2.out m hlt2
          have c0 : (0 : Int) ≤ (m : Int) := by omega
          have c1 : (m : Int) < (q2.length : Int) := by omega
          by_cases he : (q2.getD m (⟨#[]⟩, 0)).1 = x1
          · have n0 := eq_true he
            clear he
            generalize q2.getD m (⟨#[]⟩, 0) = f at *
            obtain ⟨n, c⟩ := f
            go_wp2_with fail
            go_quiet (fail)
            go_wp2_with fail
            go_roundw
            case rel => exact ⟨false, m + 1, by omega, rfl, by go_num, (fun h => by cases h), own_drawn hO.out _, below_drawn hB2.out _⟩
            case measure => simp [intOf]; omega
          · have n0 := eq_false he
            have hQ2 : Hid (t = true → ∀ j, j < m + 1 → (q2.getD j (⟨#[]⟩, 0)).1 ≠ x1) := fun ht j hj => by
              by_cases e : j = m
              · rw [e]; exact he
              · exact hQ.out ht j (by omega)
            clear he
            generalize q2.getD m (⟨#[]⟩, 0) = f at *
            obtain ⟨n, c⟩ := f
            go_wp2_with fail
            go_quiet (fail)
            go_wp2_with fail
            go_roundw
            case rel => exact ⟨t, m + 1, by omega, rfl, by go_num, hQ2, own_drawn hO.out _, below_drawn hB2.out _⟩
            case measure => simp [intOf]; omega
        · have hmm : m = q2.length := by omega
          subst hmm
          have hQ2 : Hid (t = true → Idle f0 q2 x1) := fun ht => .inl (hQ.out ht)
          clear hQ
          go_wp2_with fail
          go_loopw [9, 11] (fun b c wr => ∃ (t : Bool) (m : Nat), m ≤ f0.length ∧ b = .bool t ∧ c = .int .i64 m ∧ Hid (t = true → Idle f0 q2 x1) ∧ Hid (wr.ownsRow w1.heap.size 35 2 u7 (f0.length + ex.length) (fcells (f0 ++ ex))) ∧ Hid (Below w1.heap.size w1 wr)) (fun _ c _ => f0.length - (intOf c).toNat)
          case atStart => exact ⟨t, 0, Nat.zero_le _, rfl, rfl, hQ2, hO, hB2⟩
          case round =>
            clear hQ2 hO hB2
            obtain ⟨t', m, hm, rfl, rfl, hQ, hO, hB2⟩ := hrel
            by_cases hlt2 : m < f0.length
            · obtain ⟨b, o, rfl, hbl, a0, -⟩ := Hcell.out _ hB2.out
              obtain ⟨b', o', rfl, hbl', d0, -⟩ := (HF0.out.later HB.out).later hB2.out m hlt2
              have c0 : (0 : Int) ≤ (m : Int) := by omega
              have c1 : (m : Int) < (f0.length : Int) := by omega
              by_cases he : (f0.getD m (⟨#[]⟩, ⟨#[]⟩)).1 = x1
              · have n0 := eq_true he
                have hQ2 : Hid (true = true → Idle f0 q2 x1) := fun _ => .inr ⟨m, hlt2, he⟩
                clear he
                generalize f0.getD m (⟨#[]⟩, ⟨#[]⟩) = f at *
                obtain ⟨n, c⟩ := f
                go_wp2_with fail
                go_quiet (fail)
                go_wp2_with fail
                go_roundw
                case rel => exact ⟨true, m + 1, by omega, rfl, by go_num, (fun _ => hQ2.out trivial), own_drawn hO.out _, below_drawn hB2.out _⟩
                case measure => simp [intOf]; omega
              · have n0 := eq_false he
                clear he
                generalize f0.getD m (⟨#[]⟩, ⟨#[]⟩) = f at *
                obtain ⟨n, c⟩ := f
                go_wp2_with fail
                go_quiet (fail)
                go_wp2_with fail
                go_roundw
                case rel => exact ⟨t', m + 1, by omega, rfl, by go_num, hQ, own_drawn hO.out _, below_drawn hB2.out _⟩
                case measure => simp [intOf]; omega
            · have hmm : m = f0.length := by omega
              subst hmm
              cases t' with
              | false =>
                go_wp2_with fail
                go_roundw
                case rel => exact ⟨k + 1, by omega, by go_num, ex, by omega, hI, hS, hO, hB2⟩
                case measure => simp [intOf]; omega
              | true =>
                obtain ⟨i0, hi0, hz0, hz1, hz2⟩ := info_parts info_file
                have hI2 : Hid (∀ e ∈ ex ++ [(x1, x2)], Idle f0 q2 e.1) := fun e he => by
                  rcases List.mem_append.1 he with h | h
                  · exact hI.out e h
                  · obtain rfl := List.mem_singleton.1 h
                    exact hQ.out rfl
                have hS2 : Hid (∀ e ∈ ex ++ [(x1, x2)], e.2.size ≤ 2000) := fun e he => by
                  rcases List.mem_append.1 he with h | h
                  · exact hS.out e h
                  · obtain rfl := List.mem_singleton.1 h
                    exact hds
                obtain ⟨b, o, rfl, hbl, a0, a1⟩ := Hcell.out _ hB2.out
                have hbs := hB2.out.size
                go_wp2_with (at_builtin; go_must (refine wpList_append_own _ rfl _ _ _ rfl w1.heap.size 35 i0 _ 2 32 Try.underlying22 hi0 hz0 hz1 hz2 rfl (by omega) u7 (f0.length + ex.length) _ rfl (hO.out.alloc _) ⟨_, 0, none⟩ 1 1 [.string x1, .string x2] rfl rfl (World.news_of_block (heap_alloc_new _ _)) (by simp [Value.oneCell']) (by unfold maxLen; omega) (by omega) (by simp; omega) ?_))
                intro v3 w3 hown3 hgrow3 _
                have hO3 : Hid (w3.ownsRow w1.heap.size 35 2 v3 (f0.length + (ex ++ [(x1, x2)]).length) (fcells (f0 ++ (ex ++ [(x1, x2)])))) := by
                  show World.ownsRow _ _ _ _ _ _ _
                  rw [← List.append_assoc, fcells_snoc, List.length_append, ← Nat.add_assoc]
                  exact hown3
                have hB3 : Hid (Below w1.heap.size w1 w3) := (hB2.out.alloc hbs _).grown hgrow3 (by simp; omega) (by intro q hq; exact (hO.out.lt q hq).1)
                clear hown3 hgrow3
                go_wp2_with fail
                go_roundw
                case rel => exact ⟨k + 1, by omega, by go_num, ex ++ [(x1, x2)], by simp; omega, hI2, hS2, hO3, hB3⟩
                case measure => simp [intOf]; omega
    · have hkk : k = f1.length := by omega
      subst hkk
      obtain ⟨wA, rfl⟩ : ∃ wA : World, wA = wr := ⟨_, rfl⟩
      obtain ⟨al, hal⟩ : ∃ al, al = f0 ++ ex := ⟨_, rfl⟩
      have hall : al.length ≤ 80 := by rw [hal, List.length_append]; omega
      have hO4 := hO.out
      rw [← List.length_append, ← hal] at hO4
      obtain ⟨A4, cap4, rfl, hF4⟩ := Files.of_own hO4
      have HF4 := Lib.hid hF4
      clear hO4 hF4
      have hB4 := Lib.hid (HB.out.trans (hB2.out.mono HB.out.size))
      have HD4 : Hid (∀ i, i < al.length → (al.getD i (⟨#[]⟩, ⟨#[]⟩)).2.size ≤ 2000) := fun i hi => by
        have hmem : al.getD i (⟨#[]⟩, ⟨#[]⟩) ∈ f0 ++ ex := by
          rw [List.getD_eq_getElem?_getD, List.getElem?_eq_getElem hi, ← hal]
          exact List.getElem_mem hi
        rcases List.mem_append.1 hmem with h | h
        · obtain ⟨j, hj, he⟩ := List.getElem_of_mem h
          have := HD0.out j hj
          rw [List.getD_eq_getElem?_getD, List.getElem?_eq_getElem hj] at this
          rw [← he]; exact this
        · exact hS.out _ h
      have V : Hid (∀ j, j < q2.length → St.first al (q2.getD j (⟨#[]⟩, 0)).1 = St.first f0 (q2.getD j (⟨#[]⟩, 0)).1) := fun j hj => by
        rw [hal]; exact first_idle hI.out hj
      clear hal hI hS hO hB2
      go_wp2_with fail
      refine (new_ok ⟨#[114]⟩ A0 f0 cap0 _ (by decide) role_r (HF0.out.later hB4.out) (by omega) (fun i hi => Nat.le_trans (HD0.out i hi) (by omega))).mono ?_
      rintro e wn ⟨g, rfl, hf, hb⟩
      have H := Lib.hid (One.made hB4.out hf hb)
      have HF5 := Lib.hid (HF4.out.later hb)
      clear hf hb HF4
      go_wp2_with fail
      refine (new_ok ⟨#[114]⟩ A4 al cap4 _ (by decide) role_r HF5.out (by omega) (fun i hi => Nat.le_trans (HD4.out i hi) (by omega))).mono ?_
      rintro e wm ⟨g', rfl, hf, hb⟩
      have H := Lib.hid (Two.made H.out hf hb)
      clear hf hb HF5
      go_wp2_with fail
      go_loopw [16] (fun c wr => ∃ k : Nat, k ≤ q2.length ∧ c = .int .i64 k ∧ ∃ l, l.length ≤ k ∧ Hid (Two w g f0 l g' al l ⟨#[114]⟩ wr)) (fun c _ => q2.length - (intOf c).toNat)
      case atStart => exact ⟨0, Nat.zero_le _, rfl, [], Nat.le_refl _, H⟩
      case round =>
        clear H
        obtain ⟨k, hk2, rfl, l, hll, H⟩ := hrel
        by_cases hlt : k < q2.length
        · obtain ⟨b, o, rfl, hbl, a0, a1⟩ := HF2.out.later H.out.1 k hlt
          have hsz := HN2.out k hlt
          have b0 : (0 : Int) ≤ (k : Int) := by omega
          have b1 : (k : Int) < (q2.length : Int) := by omega
          have hal := get_alike (V.out k hlt) l (q2.getD k (⟨#[]⟩, 0)).2
          have hG := Lib.hid hal.1
          have hV := Lib.hid hal.2
          clear hal
          have Hcell : Hid (∀ W : World, Below w.heap.size w W → W.cell? ⟨b, o + k * 2, none⟩ = some (.string (q2.getD k (⟨#[]⟩, 0)).1) ∧ W.cell? ⟨b, o + k * 2 + 1, none⟩ = some (.int .i64 (q2.getD k (⟨#[]⟩, 0)).2)) := fun W hW => by
            obtain ⟨b', o', e, _, h1, h2⟩ := HF2.out.later hW k hlt
            cases e
            exact ⟨h1, h2⟩
          generalize q2.getD k (⟨#[]⟩, 0) = f at *
          obtain ⟨n, c⟩ := f
          have hll2 := St.get_len f0 l n c
          go_wp2_with fail
          refine LexW.wp_region_call 11 (by kernel_rfl) (by kernel_rfl) ?_
          simp only [List.take_succ_cons, List.take_zero, List.drop_succ_cons, List.drop_zero, List.getD_cons_zero, List.getD_cons_succ]
          repeat (go_big_quiet_step (fail))
          refine wpQuiet_nil ?_
          intro _ hw'
          obtain ⟨nq, hw''⟩ := hw'
          subst hw''
          go_wp2_with fail
          refine (two_get (H.out.later (below_drawn (Below.refl _ _) nq)) n c (by omega) (by omega) (by omega)).mono ?_
          rintro e wg ⟨rfl, h2⟩
          have H2 := Lib.hid h2
          clear h2
          obtain ⟨hq0, hq1⟩ := Hcell.out _ H2.out.1
          obtain ⟨d, s, z, hv⟩ := getV_form f0 l n c
          rw [hv]
          have hv2 := Lib.hid (hV.out.trans hv)
          have e1 : (d.toList == d.toList) = true := beq_self_eq_true _
          have e2 : (s == s) = true := beq_self_eq_true _
          have e3 : (z == z) = true := beq_self_eq_true _
          clear hv a0 a1
          go_wp2_with fail
          refine NoPanic.normal ?_
          show wpQuiet _ _ _ _ _ _
          repeat (go_big_quiet_step (fail))
          refine wpQuiet_nil ?_
          intro _ hw'
          obtain ⟨np, hw''⟩ := hw'
          subst hw''
          obtain ⟨wk, hwk⟩ : ∃ wk : World, wk = wg.drewN np := ⟨_, rfl⟩
          rw [← hwk]
          have H2 : Hid (Two w g f0 (St.get f0 l n c) g' al l ⟨#[114]⟩ wk) := by rw [hwk]; exact H2.out.later (below_drawn (Below.refl _ _) np)
          clear hwk hq0 hq1
          obtain ⟨hq0, hq1⟩ := Hcell.out _ H2.out.1
          go_wp2_with fail
          refine LexW.wp_region_call 11 (by kernel_rfl) (by kernel_rfl) ?_
          simp only [List.take_succ_cons, List.take_zero, List.drop_succ_cons, List.drop_zero, List.getD_cons_zero, List.getD_cons_succ]
          repeat (go_big_quiet_step (fail))
          refine wpQuiet_nil ?_
          intro _ hw'
          obtain ⟨nq, hw''⟩ := hw'
          subst hw''
          go_wp2_with fail
          refine (two_get2 (H2.out.later (below_drawn (Below.refl _ _) nq)) n c (by omega) (by omega) (by omega)).mono ?_
          rintro e wh ⟨rfl, h3⟩
          have H3 : Hid (Two w g f0 (St.get f0 l n c) g' al (St.get f0 l n c) ⟨#[114]⟩ wh) := by
            have h4 := h3
            rw [hG.out] at h4
            exact h4
          clear h3
          rw [hv2.out]
          go_wp2_with fail
          refine NoPanic.normal ?_
          show wpQuiet _ _ _ _ _ _
          repeat (go_big_quiet_step (fail))
          refine wpQuiet_nil ?_
          intro _ hw'
          obtain ⟨np, hw''⟩ := hw'
          subst hw''
          go_wp2_with fail
          go_roundw
          case rel => exact ⟨k + 1, by omega, by go_num, _, by omega, H3.out.later (below_drawn (Below.refl _ _) np)⟩
          case measure => simp [intOf]; omega
        · have hkk : k = q2.length := by omega
          subst hkk
          go_wp2_with fail
          refine (one_fetched H.out.fst (by omega)).mono ?_
          rintro e wx ⟨va, rfl, hva, hb⟩
          have H2 := Lib.hid (H.out.later hb)
          have hva := Lib.hid hva
          clear hb
          go_wp2_with fail
          refine (one_fetched H2.out.swap.fst (by omega)).mono ?_
          rintro e wy ⟨vb, rfl, hvb, hb⟩
          have hva2 := Lib.hid (own_keep hva.out hb)
          have H3 := Lib.hid (H2.out.later hb)
          have hvb := Lib.hid hvb
          clear hb
          go_wp2_with fail
          refine (same_own va vb _ _ ⟨#[114]⟩ l _ hva2.out hvb.out (by omega)).mono ?_
          rintro e wz ⟨rfl, hb⟩
          have hB5 := Lib.hid (H3.out.later hb).1
          clear hb
          go_wp2_with fail
          go_ret
          exact ⟨rfl, hB5.out⟩
theorem storeElse_walk (f0 : List (ByteArray × ByteArray)) (A0 : Option Addr) (cap0 : Nat) (f1 : List (ByteArray × ByteArray)) (A1 : Option Addr) (cap1 : Nat) (q2 : List (ByteArray × Int)) (A2 : Option Addr) (cap2 : Nat) (w : World) (hF0 : Files w A0 f0) (hm0 : f0.length ≤ maxLen) (hF1 : Files w A1 f1) (hm1 : f1.length ≤ maxLen) (hF2 : Asks w A2 q2) (hm2 : q2.length ≤ maxLen) :
    Calls Try.prog 6 #[.slice A0 f0.length cap0, .slice A1 f1.length cap1, .slice A2 q2.length cap2] w fun e w' => e = .returned (.bool true) ∧ Below w.heap.size w w' := by
  cases g0 : St.fewB f0 with
  | false => exact storeElse_out0 f0 A0 cap0 f1 A1 cap1 q2 A2 cap2 w hF0 hm0 hF1 hm1 hF2 hm2 g0
  | true =>
    cases g1 : St.fewB f1 with
    | false => exact storeElse_out1 f0 A0 cap0 f1 A1 cap1 q2 A2 cap2 w hF0 hm0 hF1 hm1 hF2 hm2 g0 g1
    | true =>
      cases g2 : St.askB q2 with
      | false => exact storeElse_out2 f0 A0 cap0 f1 A1 cap1 q2 A2 cap2 w hF0 hm0 hF1 hm1 hF2 hm2 g0 g1 g2
      | true =>
        exact storeElse_in f0 A0 cap0 f1 A1 cap1 q2 A2 cap2 w hF0 hm0 hF1 hm1 hF2 hm2 g0 g1 g2
end Go.Proofs.Ytcianlgkfkccoaa
