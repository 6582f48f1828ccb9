/-
  The statement GlobParts, walked: it returns true.
-/
import Derived.Test.YtcglfpgniifedaaGlobLaws2
import Derived.Test.YtcglfpgniifedaaLex
import Derived.IntWalk
namespace Go.Proofs.Ytcglfpgniifedaa
set_option linter.unusedSimpArgs false
set_option linter.unusedVariables false
open Go Go.RowKit

theorem info_str : (Try.prog.info? 9).map (fun i => (i.zero, i.size, i.bytes)) = some (some (.string ⟨#[]⟩), 1, 16) := by kernel_rfl
theorem onLast_set (c : Nat) : ∀ A : List (List Nat), A ≠ [] → Gl.onLast c A = A.set (A.length - 1) (A.getD (A.length - 1) [] ++ [c])
  | [], h => absurd rfl h
  | [a], _ => rfl
  | a :: b :: m, _ => by
    have := onLast_set c (b :: m) (by simp)
    show a :: Gl.onLast c (b :: m) = _
    rw [this]
    simp
theorem ofL_app (a b : List Nat) : Gl.ofL (a ++ b) = Gl.ofL a ++ Gl.ofL b := by
  unfold Gl.ofL
  apply ByteArray.ext
  rw [ByteArray.data_append]
  simp
theorem parts_len (l : List Nat) : 0 < (Gl.parts l).length := by
  unfold Gl.parts
  rw [List.length_map]
  exact List.length_pos_iff.2 (Gl.segs_ne l)
theorem parts_slash (l : List Nat) : Gl.parts (l ++ [47]) = Gl.parts l ++ [⟨#[120]⟩] := by
  unfold Gl.parts
  rw [Gl.segs_snoc_slash, List.map_append]
  rfl
theorem parts_byte (l : List Nat) (c : Nat) (h : c ≠ 47) : Gl.parts (l ++ [c]) = (Gl.parts l).set ((Gl.parts l).length - 1) ((Gl.parts l).getD ((Gl.parts l).length - 1) ByteArray.empty ++ Gl.ofL [c]) := by
  unfold Gl.parts
  have hn := Gl.segs_ne l
  have hl : 0 < (Gl.segs l).length := List.length_pos_iff.2 hn
  rw [Gl.segs_snoc l c h, onLast_set c _ hn, List.map_set, List.length_map]
  congr 1
  have hg : (Gl.segs l)[(Gl.segs l).length - 1]? = some (Gl.segs l)[(Gl.segs l).length - 1] := List.getElem?_eq_getElem (by omega)
  rw [List.getD_eq_getElem?_getD, List.getD_eq_getElem?_getD, List.getElem?_map, hg]
  show Gl.ofL ((120 :: _) ++ [c]) = _
  rw [ofL_app]
  rfl
theorem ofL_at (s : ByteArray) (k : Nat) (h : k < s.size) : Gl.ofL [Uf.b s k] = s.extract k (k + 1) := by
  apply Uf.L_inj
  rw [Gl.L_ofL (by intro x hx; simp at hx; subst hx; exact Uf.b_lt s k), Uf.L_cut, Uf.L_drop s k h, show k + 1 - k = 1 by omega]
  rfl
theorem take_L (s : ByteArray) (k : Nat) (h : k < s.size) : (Uf.L s).take (k + 1) = (Uf.L s).take k ++ [Uf.b s k] := by
  have hl : k < (Uf.L s).length := by rw [Uf.L_len]; exact h
  have := Uf.L_at s k h
  rw [List.getElem?_eq_getElem hl] at this
  injection this with this
  rw [List.take_succ_eq_append_getElem hl, this]
theorem parts_small (l : List Nat) : (Gl.parts l).length ≤ l.length + 1 := by
  unfold Gl.parts
  rw [List.length_map]
  induction l with
  | nil => simp [Gl.segs]
  | cons r l ih =>
    rw [Gl.segs]
    split
    · simp; omega
    · cases hs : Gl.segs l with
      | nil => simp
      | cons a m => rw [hs] at ih; simp at ih ⊢; omega
theorem parts_sizes (l : List Nat) (i : Nat) : ((Gl.parts l).getD i ByteArray.empty).size ≤ l.length + 1 := by
  unfold Gl.parts
  rw [List.getD_eq_getElem?_getD, List.getElem?_map]
  cases h : (Gl.segs l)[i]? with
  | none => simp
  | some a =>
    have := Gl.segs_small l a (List.mem_of_getElem? h)
    show (Gl.ofL (120 :: a)).size ≤ _
    unfold Gl.ofL
    show ((120 :: a).map UInt8.ofNat).toArray.size ≤ _
    rw [List.size_toArray, List.length_map, List.length_cons]
    omega

set_option maxRecDepth 100000 in
set_option maxHeartbeats 4000000 in
theorem parts_any (s : ByteArray) (w : World) (hs : s.size ≤ 1000) :
    Calls Try.prog 18 #[.string s] w fun e w' => (∃ g cap, e = .returned (.slice (some ⟨g, 0, none⟩) (Gl.parts (Uf.L s)).length cap) ∧ w'.ownsRow w.heap.size 9 1 (.slice (some ⟨g, 0, none⟩) (Gl.parts (Uf.L s)).length cap) (Gl.parts (Uf.L s)).length ((Gl.parts (Uf.L s)).map Value.string)) ∧ Below w.heap.size w w' := by
  obtain ⟨i0, hi0, hy0, hy1, hy2⟩ := info_parts info_str
  go_enter Try.func18, Try.ntmps18
  go_wp2_with fail
  go_loopw [3, 4] (fun v i wr => ∃ k : Nat, k ≤ s.size ∧ i = .int .i64 k ∧ wr.ownsRow w.heap.size 9 1 v (Gl.parts ((Uf.L s).take k)).length ((Gl.parts ((Uf.L s).take k)).map Value.string) ∧ Hid (Below w.heap.size w wr)) (fun _ i _ => s.size - (intOf i).toNat)
  case atStart => exact ⟨0, Nat.zero_le _, rfl, ⟨rfl, .inr ⟨w.heap.size, 1, #[.string ⟨#[120]⟩], rfl, Nat.le_refl _, heap_alloc_new w _, Nat.le_refl _, by decide, rfl, rfl⟩⟩, (Below.refl _ _).alloc (Nat.le_refl _) _⟩
  case round =>
    obtain ⟨k, hk, rfl, hown, hb⟩ := hrel
    have hlen := parts_len ((Uf.L s).take k)
    have hsml := parts_small ((Uf.L s).take k)
    rw [List.length_take, Uf.L_len] at hsml
    have hbs := hb.out.size
    by_cases hlt : k < s.size
    · have hbyte := s[k].toNat_lt
      have hbk := Uf.b_at s k hlt
      have htk := take_L s k hlt
      by_cases h47 : s[k].toNat = 47
      · have n1 : ((s[k].toNat : Int) == 47) = true := by rw [beq_iff_eq]; omega
        have hp : Hid (Gl.parts ((Uf.L s).take (k + 1)) = Gl.parts ((Uf.L s).take k) ++ [⟨#[120]⟩]) := by
          show _ = _
          rw [htk, hbk, h47, parts_slash]
        have hown := Lib.hid hown
        clear htk hbk h47
        go_wp2_with (at_builtin; refine wpList_append_own_at _ rfl _ _ _ rfl w.heap.size 9 i0 _ 1 16 Try.underlying24 hi0 hy0 hy1 hy2 rfl (by omega) u3 (Gl.parts ((Uf.L s).take k)).length _ rfl (hown.out.alloc _) ⟨wr.heap.size, 0, none⟩ 1 1 [.string ⟨#[120]⟩] rfl rfl (World.news_of_block (heap_alloc_new _ _)) (by simp [Value.oneCell']) (by unfold maxLen; omega) (by omega) (by simp; omega) ?_; intro v2 w2 hown2 hgrow2 _ _)
        have hb2 : Hid (Below w.heap.size w w2) := (hb.out.alloc hbs _).grown hgrow2 (by simp; omega) (by intro g hg; exact (hown.out.lt g hg).1)
        have hown2' : Hid (w2.ownsRow w.heap.size 9 1 v2 (Gl.parts ((Uf.L s).take (k + 1))).length ((Gl.parts ((Uf.L s).take (k + 1))).map Value.string)) := by
          show World.ownsRow _ _ _ _ _ _ _
          rw [hp.out, List.map_append, List.length_append]; exact hown2
        clear hown2 hgrow2
        go_wp2_with fail
        go_roundw
        case rel => exact ⟨k + 1, by omega, by go_num, hown2'.out, hb2⟩
        case measure => simp [intOf]; omega
      · have n1 : ((s[k].toNat : Int) == 47) = false := by rw [beq_eq_false_iff_ne]; omega
        have hp0 := parts_byte ((Uf.L s).take k) (Uf.b s k) (by rw [hbk]; exact h47)
        rw [ofL_at s k hlt, ← htk] at hp0
        have hps := parts_sizes ((Uf.L s).take k) ((Gl.parts ((Uf.L s).take k)).length - 1)
        rw [List.length_take, Uf.L_len] at hps
        have hp := Lib.hid hp0
        clear hp0
        generalize Gl.parts ((Uf.L s).take k) = A at *
        obtain ⟨m, hm⟩ : ∃ m, A.length = m + 1 := ⟨A.length - 1, by omega⟩
        rw [hm] at hown hps hsml
        rw [show m + 1 - 1 = m from rfl] at hps
        obtain ⟨q, hq⟩ : ∃ q, q = A.getD m ByteArray.empty := ⟨_, rfl⟩
        have hpp : Hid (Gl.parts ((Uf.L s).take (k + 1)) = A.set m (q ++ s.extract k (k + 1))) := by
          show _ = _
          rw [hp.out, hm, hq]; rfl
        rw [← hq] at hps
        obtain ⟨g, cap, rfl, hg0, hgl⟩ := hown.form (by omega)
        have hcm : (m + 1 : Nat) ≤ cap := by
          rcases hown.2 with ⟨h', _⟩ | ⟨g', cap', cur', h', _, _, hnc, _⟩
          · cases h'
          · cases h'; exact hnc
        have hc : wr.cell? ⟨g, m, none⟩ = some (.string q) := by
          rw [hown.cellAt m (by omega), hq]
          simp [show m < A.length by omega]
        have hf := hown.frozenAt m
        have hze : (s.extract k (k + 1)).size ≤ 1 := by rw [ByteArray.size_extract]; omega
        have hown := Lib.hid hown
        have hM := Lib.hid hm
        have b0 : (0 : Int) ≤ (m : Int) := by omega
        have b1 : (m : Int) < ((m + 1 : Nat) : Int) := by omega
        have b2 : (0 : Int) ≤ (k : Int) := by omega
        have b3 : (k : Int) ≤ (k : Int) + 1 := by omega
        have b4 : (k : Int) + 1 ≤ (s.size : Int) := by omega
        clear htk hbk h47 hp hm hq hlen
        have hw1 : IntKind.i64.wrap ((k : Int) + 1) = (k : Int) + 1 := IntWalk.i64_in _ (by omega)
        have hw2 : ((k : Int) + 1).toNat = k + 1 := by omega
        go_wp2_with fail
        refine Lex.wp_region_drawn 0 13 (by kernel_rfl) (by kernel_rfl) ?_
        simp only [List.take_succ_cons, List.take_zero, List.drop_succ_cons, List.drop_zero, Lex.moved, Lex.movOf, Act.put, Act.eval, List.setIfInBounds_toArray, List.set_cons_zero, List.set_cons_succ, Lex.getD_zero, Lex.getD_succ]
        repeat (go_big_quiet_step (fail))
        refine wpQuiet_nil ?_
        intro _ hw'
        obtain ⟨nq, hw''⟩ := hw'
        subst hw''
        clear hw1 hw2
        go_wp2_with fail
        refine NoPanic.normal ?_
        go_wp2_with fail
        have hdr : World.ownsRow (wr.drewN nq) w.heap.size 9 1 (.slice (some ⟨g, 0, none⟩) (m + 1) cap) (m + 1) (A.map Value.string) := hown.out
        obtain ⟨hst, hgs⟩ := hdr.stored m (.string (q ++ s.extract k (k + 1)))
        have hb2 : Hid (Below w.heap.size w ((wr.drewN nq).setCell ⟨g, m, none⟩ (.string (q ++ s.extract k (k + 1))))) := (below_drawn hb.out nq).grown hgs hbs (by intro g' hg'; cases hg'; exact hg0)
        go_roundw
        case rel =>
          refine ⟨k + 1, by omega, by go_num, ?_, hb2⟩
          rw [hpp.out, List.length_set, hM.out, List.map_set]
          exact hst
        case measure => simp [intOf]; omega
    · have hk' : k = s.size := by omega
      subst hk'
      have htl : (Uf.L s).take s.size = Uf.L s := List.take_of_length_le (by rw [Uf.L_len]; exact Nat.le_refl _)
      rw [htl] at hown hlen
      obtain ⟨g, cap, rfl, hg0, hgl⟩ := hown.form hlen
      have hown := Lib.hid hown
      clear htl
      go_wp2_with fail
      go_ret
      exact ⟨⟨g, cap, rfl, hown.out⟩, hb.out⟩

theorem zip_drop (A B : List ByteArray) (k : Nat) (ha : k < A.length) (hb : k < B.length) : Gl.zipMt (A.drop k) (B.drop k) = (Gl.mt (A.getD k ByteArray.empty) (B.getD k ByteArray.empty) && Gl.zipMt (A.drop (k + 1)) (B.drop (k + 1))) := by
  rw [List.drop_eq_getElem_cons ha, List.drop_eq_getElem_cons hb, List.getD_eq_getElem?_getD, List.getD_eq_getElem?_getD, List.getElem?_eq_getElem ha, List.getElem?_eq_getElem hb]
  rfl
theorem zip_len : ∀ A B : List ByteArray, A.length ≠ B.length → Gl.zipMt A B = false
  | [], [], h => absurd rfl h
  | [], b :: B, _ => rfl
  | a :: A, [], _ => rfl
  | a :: A, b :: B, h => by
    show (Gl.mt a b && Gl.zipMt A B) = false
    rw [zip_len A B (by simpa using h), Bool.and_false]
theorem zip_end (A B : List ByteArray) (h : A.length = B.length) : Gl.zipMt (A.drop A.length) (B.drop A.length) = true := by
  rw [List.drop_length, h, List.drop_length]; rfl

set_option maxRecDepth 100000 in
set_option maxHeartbeats 4000000 in
theorem globParts_walk (p s : ByteArray) (w : World) (hp : p.size ≤ maxLen) (hs : s.size ≤ maxLen) :
    Calls Try.prog 7 #[.string p, .string s] w fun e w' => e = .returned (.bool true) ∧ Below w.heap.size w w' := by
  have hB : Hid (Below w.heap.size w w) := Below.refl _ _
  cases h1 : Nm.path p with
  | false =>
    have C0 := Lib.hid (is_says h1 hp)
    clear h1
    go_enter Try.func7, Try.ntmps7
    go_wp2_with fail
    refine (C0.out _).mono ?_
    rintro e w1 ⟨rfl, hb1⟩
    replace hB := Lib.hid (keep_trans hB.out hb1)
    clear hb1
    go_wp2_with fail
    refine (gawake_any _).mono ?_
    rintro e w1 ⟨rfl, hb1⟩
    replace hB := Lib.hid (keep_trans hB.out hb1)
    clear hb1
    go_wp2_with fail
    go_ret
    exact ⟨rfl, hB.out⟩
  | true =>
    have hpz := path_size h1
    have C0 := Lib.hid (is_says h1 hp)
    cases h2 : Nm.path s with
    | false =>
      have C1 := Lib.hid (is_says h2 hs)
      clear h1 h2
      go_enter Try.func7, Try.ntmps7
      go_wp2_with fail
      refine (C0.out _).mono ?_
      rintro e w1 ⟨rfl, hb1⟩
      replace hB := Lib.hid (keep_trans hB.out hb1)
      clear hb1
      go_wp2_with fail
      refine (C1.out _).mono ?_
      rintro e w1 ⟨rfl, hb1⟩
      replace hB := Lib.hid (keep_trans hB.out hb1)
      clear hb1
      go_wp2_with fail
      refine (gawake_any _).mono ?_
      rintro e w1 ⟨rfl, hb1⟩
      replace hB := Lib.hid (keep_trans hB.out hb1)
      clear hb1
      go_wp2_with fail
      go_ret
      exact ⟨rfl, hB.out⟩
    | true =>
      have hsz := path_size h2
      have C1 := Lib.hid (is_says h2 hs)
      by_cases h3 : 256 ≤ p.size
      · clear h1 h2
        go_enter Try.func7, Try.ntmps7
        go_wp2_with fail
        refine (C0.out _).mono ?_
        rintro e w1 ⟨rfl, hb1⟩
        replace hB := Lib.hid (keep_trans hB.out hb1)
        clear hb1
        go_wp2_with fail
        refine (C1.out _).mono ?_
        rintro e w1 ⟨rfl, hb1⟩
        replace hB := Lib.hid (keep_trans hB.out hb1)
        clear hb1
        go_wp2_with fail
        refine (gawake_any _).mono ?_
        rintro e w1 ⟨rfl, hb1⟩
        replace hB := Lib.hid (keep_trans hB.out hb1)
        clear hb1
        go_wp2_with fail
        go_ret
        exact ⟨rfl, hB.out⟩
      by_cases h4 : 256 ≤ s.size
      · clear h1 h2
        go_enter Try.func7, Try.ntmps7
        go_wp2_with fail
        refine (C0.out _).mono ?_
        rintro e w1 ⟨rfl, hb1⟩
        replace hB := Lib.hid (keep_trans hB.out hb1)
        clear hb1
        go_wp2_with fail
        refine (C1.out _).mono ?_
        rintro e w1 ⟨rfl, hb1⟩
        replace hB := Lib.hid (keep_trans hB.out hb1)
        clear hb1
        go_wp2_with fail
        refine (gawake_any _).mono ?_
        rintro e w1 ⟨rfl, hb1⟩
        replace hB := Lib.hid (keep_trans hB.out hb1)
        clear hb1
        go_wp2_with fail
        go_ret
        exact ⟨rfl, hB.out⟩
      have hmt := Gl.mt_parts h1 h2 (by omega) (by omega)
      have a1 := parts_small (Uf.L p)
      have a2 := parts_small (Uf.L s)
      have a3 := parts_sizes (Uf.L p)
      have a4 := parts_sizes (Uf.L s)
      rw [Uf.L_len] at a1 a2
      have a5 : Hid (∀ i, ((Gl.parts (Uf.L p)).getD i ByteArray.empty).size ≤ 300) := fun i => by have := a3 i; rw [Uf.L_len] at this; omega
      have a6 : Hid (∀ i, ((Gl.parts (Uf.L s)).getD i ByteArray.empty).size ≤ 300) := fun i => by have := a4 i; rw [Uf.L_len] at this; omega
      clear a3 a4
      clear h1 h2
      go_enter Try.func7, Try.ntmps7
      go_wp2_with fail
      refine (C0.out _).mono ?_
      rintro e w1 ⟨rfl, hb1⟩
      replace hB := Lib.hid (keep_trans hB.out hb1)
      clear hb1
      go_wp2_with fail
      refine (C1.out _).mono ?_
      rintro e w1 ⟨rfl, hb1⟩
      replace hB := Lib.hid (keep_trans hB.out hb1)
      clear hb1
      go_wp2_with fail
      refine (gawake_any _).mono ?_
      rintro e w1 ⟨rfl, hb1⟩
      replace hB := Lib.hid (keep_trans hB.out hb1)
      clear hb1
      go_wp2_with fail
      refine (parts_any p _ (by omega)).mono ?_
      rintro e w1 ⟨⟨ga, ca, rfl, hown1⟩, hb1⟩
      replace hB := Lib.hid (keep_trans hB.out hb1)
      have hga := hown1.lt ga rfl
      have K1 : Hid (∀ i, i < (Gl.parts (Uf.L p)).length → w1.cell? ⟨ga, i, none⟩ = some (.string ((Gl.parts (Uf.L p)).getD i ByteArray.empty))) := fun i hi => by
        rw [hown1.cellAt i (by omega)]
        simp [hi]
      clear hb1 hown1
      go_wp2_with fail
      refine (parts_any s _ (by omega)).mono ?_
      rintro e w2 ⟨⟨gb, cb, rfl, hown2⟩, hb2⟩
      replace hB := Lib.hid (keep_trans hB.out hb2)
      have hgb := hown2.lt gb rfl
      have K2 : Hid (∀ i, i < (Gl.parts (Uf.L s)).length → w2.cell? ⟨gb, i, none⟩ = some (.string ((Gl.parts (Uf.L s)).getD i ByteArray.empty))) := fun i hi => by
        rw [hown2.cellAt i (by omega)]
        simp [hi]
      have K3 : Hid (∀ i, i < (Gl.parts (Uf.L p)).length → w2.cell? ⟨ga, i, none⟩ = some (.string ((Gl.parts (Uf.L p)).getD i ByteArray.empty))) := fun i hi => (hb2.cell (p := ⟨ga, i, none⟩) hga.2).trans (K1.out i hi)
      have hgal : ga < w2.heap.size := by have := hb2.size; omega
      have hgbl := hgb.2
      have hB2 := Lib.hid (Below.refl w2.heap.size w2)
      clear hb2 hown2 hga hgb K1
      have CF := Lib.hid (gm_says hmt hp hs)
      clear hmt
      generalize Gl.parts (Uf.L p) = A at *
      generalize Gl.parts (Uf.L s) = B at *
      by_cases hAB : A.length = B.length
      · have hz0 : Hid (Gl.zipMt A B = (true && Gl.zipMt (A.drop 0) (B.drop 0))) := by show _ = _; rw [List.drop_zero, List.drop_zero, Bool.true_and]
        have nE : ((A.length : Int) == (B.length : Int)) = true := by rw [beq_iff_eq]; omega
        have hEQ : Hid (A.length = B.length) := hAB
        clear hAB
        go_wp2_with fail
        go_loopw [7, 8] (fun v i wr => ∃ k : Nat, k ≤ A.length ∧ i = .int .i64 k ∧ (∃ b : Bool, v = .bool b ∧ Hid (Gl.zipMt A B = (b && Gl.zipMt (A.drop k) (B.drop k)))) ∧ Hid (Below w2.heap.size w2 wr)) (fun _ i _ => A.length - (intOf i).toNat)
        case atStart => exact ⟨0, Nat.zero_le _, rfl, ⟨true, rfl, hz0⟩, hB2⟩
        case round =>
          clear hz0 hB2 nE
          obtain ⟨k, hk, rfl, ⟨b, rfl, hd⟩, hbr⟩ := hrel
          cases b with
          | false =>
            have hd2 : Hid (Gl.zipMt A B = false) := hd
            have hCF : Hid (∀ W, Calls Try.prog 12 #[.string p, .string s] W fun e w' => e = .returned (.bool false) ∧ Below W.heap.size W w') := fun W => by have := CF.out W; rwa [hd2.out] at this
            clear CF
            by_cases h1 : k < A.length
            · go_wp2_with fail
              refine (hCF.out _).mono ?_
              rintro e w3 ⟨rfl, hb3⟩
              have hB3 := Lib.hid (keep_trans (hB.out.trans (hbr.out.mono hB.out.size)) hb3)
              clear hb3
              go_wp2_with fail
              go_ret
              exact ⟨rfl, hB3.out⟩
            · go_wp2_with fail
              refine (hCF.out _).mono ?_
              rintro e w3 ⟨rfl, hb3⟩
              have hB3 := Lib.hid (keep_trans (hB.out.trans (hbr.out.mono hB.out.size)) hb3)
              clear hb3
              go_wp2_with fail
              go_ret
              exact ⟨rfl, hB3.out⟩
          | true =>
            by_cases h1 : k < A.length
            · have hzd : Hid (Gl.zipMt A B = (Gl.mt (A.getD k ByteArray.empty) (B.getD k ByteArray.empty) && Gl.zipMt (A.drop (k + 1)) (B.drop (k + 1)))) := by
                have := hd.out
                rw [Bool.true_and, zip_drop A B k h1 (by have := hEQ.out; omega)] at this
                exact this
              have c1 : wr.cell? ⟨ga, k, none⟩ = some (.string (A.getD k ByteArray.empty)) := (hbr.out.cell (p := ⟨ga, k, none⟩) hgal).trans (K3.out k h1)
              have c2 : wr.cell? ⟨gb, k, none⟩ = some (.string (B.getD k ByteArray.empty)) := (hbr.out.cell (p := ⟨gb, k, none⟩) hgbl).trans (K2.out k (by have := hEQ.out; omega))
              have z1 : (A.getD k ByteArray.empty).size ≤ maxLen := by have := a5.out k; unfold maxLen; omega
              have z2 : (B.getD k ByteArray.empty).size ≤ maxLen := by have := a6.out k; unfold maxLen; omega
              generalize A.getD k ByteArray.empty = x at *
              generalize B.getD k ByteArray.empty = y at *
              obtain ⟨v, hv⟩ : ∃ v, v = Gl.mt x y := ⟨_, rfl⟩
              have CM := Lib.hid (gm_says hv.symm z1 z2)
              have hzn : Hid (Gl.zipMt A B = (v && Gl.zipMt (A.drop (k + 1)) (B.drop (k + 1)))) := by rw [hv]; exact hzd
              have j0 : (0 : Int) ≤ (k : Int) := by omega
              have j1 : (k : Int) < (A.length : Int) := by omega
              have j2 : (k : Int) < (B.length : Int) := by have := hEQ.out; omega
              clear hv hzd hd
              go_wp2_with fail
              refine Lex.wp_region_drawn 0 8 (by kernel_rfl) (by kernel_rfl) ?_
              simp only [List.take_succ_cons, List.take_zero, List.drop_succ_cons, List.drop_zero, Lex.moved, Lex.movOf, Act.put, Act.eval, List.setIfInBounds_toArray, List.set_cons_zero, List.set_cons_succ, Lex.getD_zero, Lex.getD_succ]
              repeat (go_big_quiet_step (fail))
              refine wpQuiet_nil ?_
              intro _ hw'
              obtain ⟨nq, hw''⟩ := hw'
              subst hw''
              go_wp2_with fail
              refine (CM.out _).mono ?_
              rintro e w3 ⟨rfl, hb3⟩
              have hb4 : Hid (Below w2.heap.size w2 w3) := (below_drawn hbr.out nq).trans (hb3.mono (show w2.heap.size ≤ wr.heap.size from hbr.out.size))
              clear hb3
              go_wp2_with fail
              refine NoPanic.normal ?_
              go_wp2_with fail
              go_roundw
              case rel => exact ⟨k + 1, by omega, by go_num, ⟨v, rfl, hzn⟩, hb4⟩
              case measure => simp [intOf]; omega
            · have hd2 : Hid (Gl.zipMt A B = true) := by
                have := hd.out
                rw [show k = A.length by omega, zip_end A B hEQ.out] at this
                exact this
              have hCF : Hid (∀ W, Calls Try.prog 12 #[.string p, .string s] W fun e w' => e = .returned (.bool true) ∧ Below W.heap.size W w') := fun W => by have := CF.out W; rwa [hd2.out] at this
              clear CF
              go_wp2_with fail
              refine (hCF.out _).mono ?_
              rintro e w3 ⟨rfl, hb3⟩
              have hB3 := Lib.hid (keep_trans (hB.out.trans (hbr.out.mono hB.out.size)) hb3)
              clear hb3
              go_wp2_with fail
              go_ret
              exact ⟨rfl, hB3.out⟩
      · have hz0 : Hid (Gl.zipMt A B = (false && Gl.zipMt (A.drop 0) (B.drop 0))) := by show _ = _; rw [zip_len A B hAB]; rfl
        have nE : ((A.length : Int) == (B.length : Int)) = false := by rw [beq_eq_false_iff_ne]; omega
        have hEQ : Hid (True) := trivial
        clear hAB
        go_wp2_with fail
        go_loopw [7, 8] (fun v i wr => ∃ k : Nat, k ≤ A.length ∧ i = .int .i64 k ∧ (∃ b : Bool, v = .bool b ∧ Hid (Gl.zipMt A B = (b && Gl.zipMt (A.drop k) (B.drop k))) ∧ b = false) ∧ Hid (Below w2.heap.size w2 wr)) (fun _ i _ => A.length - (intOf i).toNat)
        case atStart => exact ⟨0, Nat.zero_le _, rfl, ⟨false, rfl, hz0, rfl⟩, hB2⟩
        case round =>
          clear hz0 hB2 nE
          obtain ⟨k, hk, rfl, ⟨b, rfl, hd, rfl⟩, hbr⟩ := hrel
          have hd2 : Hid (Gl.zipMt A B = false) := hd
          have hCF : Hid (∀ W, Calls Try.prog 12 #[.string p, .string s] W fun e w' => e = .returned (.bool false) ∧ Below W.heap.size W w') := fun W => by have := CF.out W; rwa [hd2.out] at this
          clear CF
          by_cases h1 : k < A.length
          · go_wp2_with fail
            refine (hCF.out _).mono ?_
            rintro e w3 ⟨rfl, hb3⟩
            have hB3 := Lib.hid (keep_trans (hB.out.trans (hbr.out.mono hB.out.size)) hb3)
            clear hb3
            go_wp2_with fail
            go_ret
            exact ⟨rfl, hB3.out⟩
          · go_wp2_with fail
            refine (hCF.out _).mono ?_
            rintro e w3 ⟨rfl, hb3⟩
            have hB3 := Lib.hid (keep_trans (hB.out.trans (hbr.out.mono hB.out.size)) hb3)
            clear hb3
            go_wp2_with fail
            go_ret
            exact ⟨rfl, hB3.out⟩
end Go.Proofs.Ytcglfpgniifedaa
