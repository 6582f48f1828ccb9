/-
  The walks of package glob: a rune, the loop that goes back to the last star.
-/
import Derived.Test.YtcglfpgniifedaaBase
import Derived.Test.YtcglfpgniifedaaGlob2
import Derived.ScopeJumps
import Derived.WalkMore
namespace Go.Proofs.Ytcglfpgniifedaa
set_option linter.unusedSimpArgs false
set_option linter.unusedVariables false
open Go Go.RowKit

theorem flipw {P : Program} {f : FuncId} {args : Array Value} {w : World} {v : Value} (h : Calls P f args w fun e w' => e = .returned v ∧ w = w') : Calls P f args w fun e w' => e = .returned v ∧ w' = w := h.mono fun _ _ ⟨a, b⟩ => ⟨a, b.symm⟩
theorem beq_cast (a b : Nat) : (((a : Nat) : Int) == ((b : Nat) : Int)) = (a == b) := by
  rw [Bool.eq_iff_iff, beq_iff_eq, beq_iff_eq]; omega
set_option maxHeartbeats 400000 in
theorem one_any (c r : Nat) (w : World) : Calls Try.prog 26 #[.int .i32 (c : Int), .int .i32 (r : Int)] w fun e w' => e = .returned (.bool (Gl.one c r)) ∧ w = w' := by
  by_cases h : c = 63
  · subst h
    have e : Gl.one 63 r = !(((r : Nat) : Int) == 47) := by
      rw [show ((47 : Int)) = ((47 : Nat) : Int) from rfl, beq_cast]; rfl
    rw [e]
    clear e
    go_enter Try.func26, Try.ntmps26
    go_wp2
    go_ret
    exact ⟨rfl, rfl⟩
  · have e : Gl.one c r = (((c : Nat) : Int) == ((r : Nat) : Int)) := by
      rw [beq_cast]
      unfold Gl.one
      rw [if_neg (by simpa using h)]
    rw [e]
    have h1 : (((c : Nat) : Int) == 63) = false := by rw [beq_eq_false_iff_ne]; omega
    clear e
    go_enter Try.func26, Try.ntmps26
    go_wp2
    go_ret
    exact ⟨rfl, rfl⟩

/-- As 'wp_scope_jumps', and the first way may use what the passes show. -/
theorem wp_scope_jumps2 {P : Program} {a : Act} {w : World} {Q : Exit → Act → World → Prop} {c rest : Code} (l : Nat) (J : Act → World → Prop) (μ : Act → World → Nat) (hf : findLabel c l = some (Code.seq Code.skip rest))
    (pass : ∀ a w, J a w → rest.wp P (Exit.jump l (fun a' w' => J a' w' ∧ μ a' w' < μ a w) Q) a w)
    (first : (∀ a w, J a w → rest.wp P (Exit.jump l J Q) a w) → c.wp P (Exit.jump l J Q) a w) : (Code.scope c).wp P Q a w :=
  wp_scope_jumps l J μ hf (first fun a w h => Go.wp_mono (pass a w h) (fun e a' w' he => by
    cases e <;> first | exact he | exact ⟨he.1, he.2.1⟩)) (fun a w h => wp_seq (wp_skip (pass a w h)))

/-- The frame at the label. -/
def MFr (P S : List Nat) (bp bs cp cs : Nat) (w : World) (a' : Act) (wr : World) : Prop :=
  ∃ (i j f : Nat) (st : Int) (u9 u10 u11 u12 u13 u14 u15 u16 u17 u18 u19 u20 u21 u22 u23 u24 u25 u26 u27 u28 u29 u30 u31 u32 u33 u34 u35 u36 u37 u38 u39 u40 u41 u42 u43 u44 u45 u46 u47 u48 u49 u50 u51 u52 u53 u54 u55 u56 u57 u58 u59 u60 u61 u62 u63 u64 u65 u66 u67 u68 u69 u70 u71 u72 u73 u74 u75 u76 u77 u78 : Value), a' = { tmps := #[.slice (some ⟨bp, 0, none⟩) P.length cp, .slice (some ⟨bs, 0, none⟩) S.length cs, undef, undef, .bool false, .int .i64 (i : Int), .int .i64 (j : Int), .int .i64 st, .int .i64 (f : Int), u9, u10, u11, u12, u13, u14, u15, u16, u17, u18, u19, u20, u21, u22, u23, u24, u25, u26, u27, u28, u29, u30, u31, u32, u33, u34, u35, u36, u37, u38, u39, u40, u41, u42, u43, u44, u45, u46, u47, u48, u49, u50, u51, u52, u53, u54, u55, u56, u57, u58, u59, u60, u61, u62, u63, u64, u65, u66, u67, u68, u69, u70, u71, u72, u73, u74, u75, u76, u77, u78], defers := [] } ∧ Hid (Gl.Inv P S i j st f) ∧ Hid (∃ n, wr = w.drewN n)
def iv : Value → Int | .int _ q => q | _ => 0
def MMu (a : Act) : Nat := ((1000 - iv (a.tmps.getD 7 undef)) * 3000000 + (1000 - iv (a.tmps.getD 8 undef)) * 1001 + (1000 - iv (a.tmps.getD 5 undef))).toNat

set_option maxRecDepth 100000 in
set_option maxHeartbeats 4000000 in
theorem match_any (P S : List Nat) (bp bs cp cs : Nat) (w : World) (hP : ∀ (k c : Nat), P[k]? = some c → w.cell? ⟨bp, k, none⟩ = some (.int .i32 (c : Int))) (hS : ∀ (k c : Nat), S[k]? = some c → w.cell? ⟨bs, k, none⟩ = some (.int .i32 (c : Int)))
    (hp : P.length ≤ 1000) (hs : S.length ≤ 1000) :
    Calls Try.prog 22 #[.slice (some ⟨bp, 0, none⟩) P.length cp, .slice (some ⟨bs, 0, none⟩) S.length cs] w fun e w' => e = .returned (.bool (Gl.gm P S)) ∧ ∃ n, w' = w.drewN n := by
  have HP := Lib.hid hP
  have HS := Lib.hid hS
  clear hP hS
  go_enter Try.func22, Try.ntmps22
  go_wp2
  refine wp_scope_jumps2 0 (MFr P S bp bs cp cs w) (fun a' _ => MMu a') rfl ?_ ?_
  · rintro a' wr ⟨i, j, f, st, u9, u10, u11, u12, u13, u14, u15, u16, u17, u18, u19, u20, u21, u22, u23, u24, u25, u26, u27, u28, u29, u30, u31, u32, u33, u34, u35, u36, u37, u38, u39, u40, u41, u42, u43, u44, u45, u46, u47, u48, u49, u50, u51, u52, u53, u54, u55, u56, u57, u58, u59, u60, u61, u62, u63, u64, u65, u66, u67, u68, u69, u70, u71, u72, u73, u74, u75, u76, u77, u78, rfl, hI, hw⟩
    obtain ⟨b1, b2, b3, b4, b5⟩ := hI.out.bd
    have hcell : Hid (∀ p, wr.cell? p = w.cell? p) := by
      obtain ⟨n, e⟩ := hw.out
      intro p
      rw [e]; rfl
    have T : st = -1 ∨ (∃ t : Nat, st = t ∧ f = S.length) ∨ (∃ t r2 : Nat, st = t ∧ S[f]? = some r2 ∧ r2 = 47) ∨ ∃ t r2 : Nat, st = t ∧ S[f]? = some r2 ∧ r2 ≠ 47 := by
      by_cases h : st = -1
      · exact .inl h
      · right
        obtain ⟨t, ht⟩ : ∃ t : Nat, st = t := ⟨st.toNat, by omega⟩
        by_cases h2 : f = S.length
        · exact .inl ⟨t, ht, h2⟩
        · have h3 : S[f]? = some S[f] := List.getElem?_eq_getElem (by omega)
          by_cases h4 : S[f] = 47
          · exact .inr (.inl ⟨t, _, ht, h3, h4⟩)
          · exact .inr (.inr ⟨t, _, ht, h3, h4⟩)
    by_cases e1 : i = P.length
    · by_cases e2 : j = S.length
      · subst e1 e2
        have hd := Lib.hid hI.out.done
        go_wp2_with fail
        simp only [Exit.jump]
        go_ret
        exact ⟨ret_b hd.out.symm, hw.out⟩
      · have hst : Hid (Gl.Stuck P S i j) := ⟨fun h => e2 h.2, by rw [e1]; simp, fun c r hc => by rw [e1] at hc; simp at hc⟩
        subst e1
        have n1 : (((j : Nat) : Int) == ((S.length : Nat) : Int)) = false := by rw [beq_eq_false_iff_ne]; omega
        clear e2
        rcases T with rfl | ⟨t, rfl, rfl⟩ | ⟨t, r2, rfl, hf, h47⟩ | ⟨t, r2, rfl, hf, h47⟩
        · have hd := Lib.hid (hI.out.no hst.out)
          go_wp2_with fail
          go_quiet (fail)
          go_wp2_with fail
          simp only [Exit.jump]
          go_ret
          exact ⟨ret_b hd.out.symm, (by obtain ⟨n0, e0⟩ := hw.out; exact ⟨n0 + nq, by rw [e0, World.drewN_drewN]⟩)⟩
        · have hd := Lib.hid (hI.out.last hst.out (.inl rfl))
          go_wp2_with fail
          go_quiet (fail)
          go_wp2_with fail
          simp only [Exit.jump]
          go_ret
          exact ⟨ret_b hd.out.symm, (by obtain ⟨n0, e0⟩ := hw.out; exact ⟨n0 + nq, by rw [e0, World.drewN_drewN]⟩)⟩
        · subst h47
          have hd := Lib.hid (hI.out.last hst.out (.inr hf))
          have hf1 := (hcell.out _).trans (HS.out _ _ hf)
          have hfl := (List.getElem?_eq_some_iff.1 hf).1
          have n7 : (((f : Nat) : Int) == ((S.length : Nat) : Int)) = false := by rw [beq_eq_false_iff_ne]; have := (List.getElem?_eq_some_iff.1 hf).1; omega
          clear hf
          go_wp2_with fail
          go_quiet (fail)
          go_wp2_with fail
          simp only [Exit.jump]
          go_ret
          exact ⟨ret_b hd.out.symm, (by obtain ⟨n0, e0⟩ := hw.out; exact ⟨n0 + nq, by rw [e0, World.drewN_drewN]⟩)⟩
        · have hd := Lib.hid (hI.out.back hst.out hf h47)
          have hf1 := (hcell.out _).trans (HS.out _ _ hf)
          have hfl := (List.getElem?_eq_some_iff.1 hf).1
          have n7 : (((f : Nat) : Int) == ((S.length : Nat) : Int)) = false := by rw [beq_eq_false_iff_ne]; omega
          have n8 : (((r2 : Nat) : Int) == 47) = false := by rw [beq_eq_false_iff_ne]; omega
          clear hf
          go_wp2_with fail
          go_quiet (fail)
          go_wp2_with fail
          go_step3
          have e8 : ((f : Int) + 1) = ((f + 1 : Nat) : Int) := by omega
          have e9 : ((t : Int) + 1) = ((t + 1 : Nat) : Int) := by omega
          rw [e8, e9]
          refine ⟨rfl, ⟨t + 1, f + 1, f + 1, t, _, _, _, _, _, _, _, _, _, _, _, _, _, _, _, _, _, _, _, _, _, _, _, _, _, _, _, _, _, _, _, _, _, _, _, _, _, _, _, _, _, _, _, _, _, _, _, _, _, _, _, _, _, _, _, _, _, _, _, _, _, _, _, _, _, _, _, _, _, _, rfl, hd, (by obtain ⟨n0, e0⟩ := hw.out; exact ⟨n0 + nq, by rw [e0, World.drewN_drewN]⟩)⟩, ?_⟩
          simp [MMu, iv]
          omega
    · have e2 : i < P.length := by omega
      obtain ⟨c, hc⟩ : ∃ c, P[i]? = some c := ⟨_, List.getElem?_eq_getElem e2⟩
      have hc1 := (hcell.out _).trans (HP.out _ _ hc)
      have n1 : (((i : Nat) : Int) == ((P.length : Nat) : Int)) = false := by rw [beq_eq_false_iff_ne]; omega
      clear e1
      by_cases e3 : c = 42
      · subst e3
        have hd := Lib.hid (hI.out.star hc)
        clear hc T
        go_wp2_with fail
        go_step3
        have e8 : ((i : Int) + 1) = ((i + 1 : Nat) : Int) := by omega
        rw [e8]
        refine ⟨rfl, ⟨i + 1, j, j, i, _, _, _, _, _, _, _, _, _, _, _, _, _, _, _, _, _, _, _, _, _, _, _, _, _, _, _, _, _, _, _, _, _, _, _, _, _, _, _, _, _, _, _, _, _, _, _, _, _, _, _, _, _, _, _, _, _, _, _, _, _, _, _, _, _, _, _, _, _, _, rfl, hd, hw⟩, ?_⟩
        simp [MMu, iv]
        omega
      · have n3 : (((c : Nat) : Int) == 42) = false := by rw [beq_eq_false_iff_ne]; omega
        by_cases e4 : j < S.length
        · obtain ⟨r, hr⟩ : ∃ r, S[j]? = some r := ⟨_, List.getElem?_eq_getElem e4⟩
          have hr1 := (hcell.out _).trans (HS.out _ _ hr)
          cases ho : Gl.one c r with
          | true =>
            have hd := Lib.hid (hI.out.one hc hr e3 ho)
            have C : Hid (∀ W, Calls Try.prog 26 #[.int .i32 (c : Int), .int .i32 (r : Int)] W fun e w' => e = .returned (.bool true) ∧ w' = W) := fun W => by
              have := flipw (one_any c r W)
              rwa [ho] at this
            clear ho hr hc e3 T
            go_wp2_with fail
            go_quiet ((go_at_call 26; exact Calls.quiet_of_same (C.out _)))
            go_wp2_with fail
            go_step3
            have e8 : ((i : Int) + 1) = ((i + 1 : Nat) : Int) := by omega
            have e9 : ((j : Int) + 1) = ((j + 1 : Nat) : Int) := by omega
            rw [e8, e9]
            refine ⟨rfl, ⟨i + 1, j + 1, f, st, _, _, _, _, _, _, _, _, _, _, _, _, _, _, _, _, _, _, _, _, _, _, _, _, _, _, _, _, _, _, _, _, _, _, _, _, _, _, _, _, _, _, _, _, _, _, _, _, _, _, _, _, _, _, _, _, _, _, _, _, _, _, _, _, _, _, _, _, _, _, rfl, hd, (by obtain ⟨n0, e0⟩ := hw.out; exact ⟨n0 + nq, by rw [e0, World.drewN_drewN]⟩)⟩, ?_⟩
            simp [MMu, iv]
            omega
          | false =>
            have hst : Hid (Gl.Stuck P S i j) := ⟨fun h => by omega, by rw [hc]; simpa using e3, fun c' r' hc' hr' => by
              rw [hc] at hc'; rw [hr] at hr'
              injection hc' with hc'; injection hr' with hr'
              rw [← hc', ← hr']; exact ho⟩
            have C : Hid (∀ W, Calls Try.prog 26 #[.int .i32 (c : Int), .int .i32 (r : Int)] W fun e w' => e = .returned (.bool false) ∧ w' = W) := fun W => by
              have := flipw (one_any c r W)
              rwa [ho] at this
            clear ho hr hc e3
            rcases T with rfl | ⟨t, rfl, rfl⟩ | ⟨t, r2, rfl, hf, h47⟩ | ⟨t, r2, rfl, hf, h47⟩
            · have hd := Lib.hid (hI.out.no hst.out)
              go_wp2_with fail
              go_quiet ((go_at_call 26; exact Calls.quiet_of_same (C.out _)))
              go_wp2_with fail
              simp only [Exit.jump]
              go_ret
              exact ⟨ret_b hd.out.symm, (by obtain ⟨n0, e0⟩ := hw.out; exact ⟨n0 + nq, by rw [e0, World.drewN_drewN]⟩)⟩
            · have hd := Lib.hid (hI.out.last hst.out (.inl rfl))
              go_wp2_with fail
              go_quiet ((go_at_call 26; exact Calls.quiet_of_same (C.out _)))
              go_wp2_with fail
              simp only [Exit.jump]
              go_ret
              exact ⟨ret_b hd.out.symm, (by obtain ⟨n0, e0⟩ := hw.out; exact ⟨n0 + nq, by rw [e0, World.drewN_drewN]⟩)⟩
            · subst h47
              have hd := Lib.hid (hI.out.last hst.out (.inr hf))
              have hf1 := (hcell.out _).trans (HS.out _ _ hf)
              have hfl := (List.getElem?_eq_some_iff.1 hf).1
              have n7 : (((f : Nat) : Int) == ((S.length : Nat) : Int)) = false := by rw [beq_eq_false_iff_ne]; have := (List.getElem?_eq_some_iff.1 hf).1; omega
              clear hf
              go_wp2_with fail
              go_quiet ((go_at_call 26; exact Calls.quiet_of_same (C.out _)))
              go_wp2_with fail
              simp only [Exit.jump]
              go_ret
              exact ⟨ret_b hd.out.symm, (by obtain ⟨n0, e0⟩ := hw.out; exact ⟨n0 + nq, by rw [e0, World.drewN_drewN]⟩)⟩
            · have hd := Lib.hid (hI.out.back hst.out hf h47)
              have hf1 := (hcell.out _).trans (HS.out _ _ hf)
              have hfl := (List.getElem?_eq_some_iff.1 hf).1
              have n7 : (((f : Nat) : Int) == ((S.length : Nat) : Int)) = false := by rw [beq_eq_false_iff_ne]; omega
              have n8 : (((r2 : Nat) : Int) == 47) = false := by rw [beq_eq_false_iff_ne]; omega
              clear hf
              go_wp2_with fail
              go_quiet ((go_at_call 26; exact Calls.quiet_of_same (C.out _)))
              go_wp2_with fail
              go_step3
              have e8 : ((f : Int) + 1) = ((f + 1 : Nat) : Int) := by omega
              have e9 : ((t : Int) + 1) = ((t + 1 : Nat) : Int) := by omega
              rw [e8, e9]
              refine ⟨rfl, ⟨t + 1, f + 1, f + 1, t, _, _, _, _, _, _, _, _, _, _, _, _, _, _, _, _, _, _, _, _, _, _, _, _, _, _, _, _, _, _, _, _, _, _, _, _, _, _, _, _, _, _, _, _, _, _, _, _, _, _, _, _, _, _, _, _, _, _, _, _, _, _, _, _, _, _, _, _, _, _, rfl, hd, (by obtain ⟨n0, e0⟩ := hw.out; exact ⟨n0 + nq, by rw [e0, World.drewN_drewN]⟩)⟩, ?_⟩
              simp [MMu, iv]
              omega
        · have hst : Hid (Gl.Stuck P S i j) := ⟨fun h => by omega, by rw [hc]; simpa using e3, fun c' r' _ hr' => by
            have := (List.getElem?_eq_some_iff.1 hr').1
            omega⟩
          obtain rfl : j = S.length := by omega
          clear e4 hc e3
          rcases T with rfl | ⟨t, rfl, rfl⟩ | ⟨t, r2, rfl, hf, h47⟩ | ⟨t, r2, rfl, hf, h47⟩
          · have hd := Lib.hid (hI.out.no hst.out)
            go_wp2_with fail
            go_quiet (fail)
            go_wp2_with fail
            simp only [Exit.jump]
            go_ret
            exact ⟨ret_b hd.out.symm, (by obtain ⟨n0, e0⟩ := hw.out; exact ⟨n0 + nq, by rw [e0, World.drewN_drewN]⟩)⟩
          · have hd := Lib.hid (hI.out.last hst.out (.inl rfl))
            go_wp2_with fail
            go_quiet (fail)
            go_wp2_with fail
            simp only [Exit.jump]
            go_ret
            exact ⟨ret_b hd.out.symm, (by obtain ⟨n0, e0⟩ := hw.out; exact ⟨n0 + nq, by rw [e0, World.drewN_drewN]⟩)⟩
          · subst h47
            have hd := Lib.hid (hI.out.last hst.out (.inr hf))
            have hf1 := (hcell.out _).trans (HS.out _ _ hf)
            have hfl := (List.getElem?_eq_some_iff.1 hf).1
            have n7 : (((f : Nat) : Int) == ((S.length : Nat) : Int)) = false := by rw [beq_eq_false_iff_ne]; have := (List.getElem?_eq_some_iff.1 hf).1; omega
            clear hf
            go_wp2_with fail
            go_quiet (fail)
            go_wp2_with fail
            simp only [Exit.jump]
            go_ret
            exact ⟨ret_b hd.out.symm, (by obtain ⟨n0, e0⟩ := hw.out; exact ⟨n0 + nq, by rw [e0, World.drewN_drewN]⟩)⟩
          · have hd := Lib.hid (hI.out.back hst.out hf h47)
            have hf1 := (hcell.out _).trans (HS.out _ _ hf)
            have hfl := (List.getElem?_eq_some_iff.1 hf).1
            have n7 : (((f : Nat) : Int) == ((S.length : Nat) : Int)) = false := by rw [beq_eq_false_iff_ne]; omega
            have n8 : (((r2 : Nat) : Int) == 47) = false := by rw [beq_eq_false_iff_ne]; omega
            clear hf
            go_wp2_with fail
            go_quiet (fail)
            go_wp2_with fail
            go_step3
            have e8 : ((f : Int) + 1) = ((f + 1 : Nat) : Int) := by omega
            have e9 : ((t : Int) + 1) = ((t + 1 : Nat) : Int) := by omega
            rw [e8, e9]
            refine ⟨rfl, ⟨t + 1, f + 1, f + 1, t, _, _, _, _, _, _, _, _, _, _, _, _, _, _, _, _, _, _, _, _, _, _, _, _, _, _, _, _, _, _, _, _, _, _, _, _, _, _, _, _, _, _, _, _, _, _, _, _, _, _, _, _, _, _, _, _, _, _, _, _, _, _, _, _, _, _, _, _, _, _, rfl, hd, (by obtain ⟨n0, e0⟩ := hw.out; exact ⟨n0 + nq, by rw [e0, World.drewN_drewN]⟩)⟩, ?_⟩
            simp [MMu, iv]
            omega
  · intro hr
    go_wp2
    go_step3
    rename_i K hK
    refine hK _ _ (hr _ _ ⟨0, 0, 0, -1, _, _, _, _, _, _, _, _, _, _, _, _, _, _, _, _, _, _, _, _, _, _, _, _, _, _, _, _, _, _, _, _, _, _, _, _, _, _, _, _, _, _, _, _, _, _, _, _, _, _, _, _, _, _, _, _, _, _, _, _, _, _, _, _, _, _, _, _, _, _, rfl, Gl.Inv.start P S, 0, rfl⟩)
end Go.Proofs.Ytcglfpgniifedaa
