/-
  The walk of the document's Sum.
-/
import Derived.Test.YtflfmacfodkedaaDoorShaStep2
import Derived.Test.YtflfmacfodkedaaDoorShaSum
namespace Go.Proofs.YtflfmacfodkedaaDoor
set_option linter.unusedSimpArgs false
set_option linter.unusedVariables false
open Go Go.RowKit
attribute [local irreducible] Sh.ws

/-- So many 0s are laid behind the 128. -/
def R1 (s : ByteArray) (v : Value) : Prop := ∃ k r, v = .string r ∧ k ≤ Sh.zeros s.size ∧ byt r = byt s ++ (128 :: List.replicate k 0)
theorem R1.next {s r : ByteArray} {k : Nat} (hk : k < Sh.zeros s.size) (hr : byt r = byt s ++ (128 :: List.replicate k 0)) : R1 s (.string (r ++ ⟨#[0]⟩)) := by
  refine ⟨k + 1, _, rfl, hk, ?_⟩
  rw [cat_byt, hr, List.append_assoc, List.replicate_succ', List.cons_append]
  rfl
theorem R1.size {s r : ByteArray} {k : Nat} (hr : byt r = byt s ++ (128 :: List.replicate k 0)) : r.size = s.size + 1 + k := by
  have := congrArg List.length hr
  rw [byt_len, List.length_append, byt_len, List.length_cons, List.length_replicate] at this
  omega
theorem rstep_lit (S : Sh.St) (s : ByteArray) (w : World) (hS : S.ok) (hs : s.size = 64) : Calls Tryd.prog 56 #[.agg #[vU S.a, vU S.b, vU S.c, vU S.d, vU S.e, vU S.f, vU S.g, vU S.h], .string s] w fun e w' => e = .returned (.agg (stV (Sh.comp S (byt s)))) ∧ Below w.heap.size w w' := rstep_any S s w hS hs
/-- The bytes of the number, from the highest, one by one: t are still to come. -/
def R2 (w : World) (b : List Nat) (n : Nat) (v i : Value) (wr : World) : Prop := ∃ (t : Nat) (r : ByteArray), t ≤ 8 ∧ v = .string r ∧ i = .int .i64 ((t : Int) - 1) ∧ byt r = b ++ (Sh.tail8 n).take (8 - t) ∧ Below w.heap.size w wr
theorem tail8_more (n t : Nat) (ht : t < 8) : (Sh.tail8 n).take (8 - t) = (Sh.tail8 n).take (8 - (t + 1)) ++ [n * 8 / 256 ^ t % 256] := by
  have : t = 0 ∨ t = 1 ∨ t = 2 ∨ t = 3 ∨ t = 4 ∨ t = 5 ∨ t = 6 ∨ t = 7 := by omega
  rcases this with rfl | rfl | rfl | rfl | rfl | rfl | rfl | rfl <;> simp [Sh.tail8]
theorem byt_one (x : Nat) (h : x < 256) : byt (strN [x]) = [x] := byt_strN _ (by simpa using h)
/-- 'string(b)' of a new slice of one byte. -/
theorem say_one (w : World) (x : Nat) (i : Int) (hi : i = (x : Int)) : (convert 43 9 (.slice (some ⟨w.heap.size, 0, none⟩) 1 1)).run Tryd.prog (w.alloc (.cells #[.int .u8 i] 5)) = .ok (.string (strN [x])) (w.alloc (.cells #[.int .u8 i] 5)) := by
  subst hi
  have e : strN [x] = strOfNums ([x].map fun b : Nat => (b : Int)) := rfl
  rw [e]
  refine run_convert_bytes_arg _ _ _ Tryd.underlying43 Tryd.underlying5 _ _ _ _ _ (by simp) (fun i hi => ?_) _ Tryd.underlying9
  have hi0 : i = 0 := by simpa using hi
  subst hi0
  exact Bk.cell (Bk.fresh w 5 #[.int .u8 (x : Int)]) 0
set_option maxRecDepth 20000 in
set_option maxHeartbeats 4000000 in
theorem rsum_any (s : ByteArray) (w : World) (hs : s.size ≤ 1099511627776) : Calls Tryd.prog 39 #[.string s] w fun e w' => e = .returned (.string (strN (Sh.sha (byt s)))) ∧ Below w.heap.size w w' := by
  go_enter Tryd.func39, Tryd.ntmps39
  go_wp2_with fail
  go_loop [0] (fun v => R1 s v) (fun v => s.size + 1 + Sh.zeros s.size - szOf v)
  case atStart => exact ⟨0, _, rfl, by omega, by rw [cat_byt]; rfl⟩
  case round =>
    obtain ⟨k, r, rfl, hk, hr⟩ := hrel
    have hsz := R1.size hr
    have hr := Lib.hid hr
    by_cases hlt : k < Sh.zeros s.size
    · have ht : (((r.size : Int) % 64) != 56) = true := by
        unfold Sh.zeros at hlt
        rw [bne_iff_ne]; omega
      have hN := Lib.hid (R1.next hlt hr.out)
      have hrs : r.size ≤ 1099511628000 := by unfold Sh.zeros at hlt; omega
      have hsz := Lib.hid hsz
      go_wp2_with fail
      go_round
      case rel => exact hN.out
      case measure =>
        simp only [szOf]
        rw [ByteArray.size_append, hsz.out]
        show _ - (_ + 1) < _
        omega
    · obtain rfl : k = Sh.zeros s.size := by omega
      have ht : (((r.size : Int) % 64) != 56) = false := by
        rw [hsz]
        unfold Sh.zeros
        rw [bne_eq_false_iff_eq]; omega
      have hrs : r.size ≤ 1099511628000 := by unfold Sh.zeros at hsz; omega
      have HSZ := Lib.hid hsz
      clear hsz
      obtain ⟨n, hn⟩ : ∃ n, n = s.size := ⟨_, rfl⟩
      rw [← hn]
      have HN := Lib.hid hn
      have hn2 : n ≤ 1099511627776 := by omega
      clear hn
      obtain ⟨b, hb⟩ : ∃ b, b = byt s ++ (128 :: List.replicate (Sh.zeros s.size) 0) := ⟨_, rfl⟩
      have hbr : Hid (byt r = b) := hb ▸ hr.out
      have hbl : b.length ≤ 1099511627900 := by
        rw [hb, List.length_append, byt_len, List.length_cons, List.length_replicate]
        have : Sh.zeros s.size ≤ 64 := by unfold Sh.zeros; omega
        omega
      have HB := Lib.hid hb
      clear hb hr
      go_wp2_with fail
      go_loopw [0, 4] (fun v i wr => R2 w b n v i wr) (fun _ i _ => (intOf i + 1).toNat)
      case atStart => exact ⟨8, r, by omega, rfl, by rfl, by rw [hbr.out]; simp, Below.refl _ _⟩
      case round =>
        clear hbr HSZ hrs ht
        obtain ⟨t, r, ht, rfl, hi, hr, hB⟩ := hrel
        have hrz : r.size = b.length + (8 - t) := by
          have := congrArg List.length hr
          rw [byt_len, List.length_append, List.length_take] at this
          simp only [show (Sh.tail8 n).length = 8 from rfl] at this
          omega
        have hrs : r.size ≤ 1099511628000 := by omega
        have HRZ := Lib.hid hrz
        clear hrz
        by_cases ht0 : t = 0
        · subst ht0
          obtain rfl : _ = Value.int .i64 (-1) := hi.trans rfl
          have hpad : byt r = Sh.padded (byt s) := by
            rw [hr, HB.out, HN.out]
            unfold Sh.padded
            rw [byt_len]
            rfl
          have hm64 : r.size = 64 * (r.size / 64) := by
            have := (Sh.padded_len (byt s)).1
            rw [← hpad, byt_len] at this
            omega
          obtain ⟨m, hm⟩ : ∃ m, m = r.size / 64 := ⟨_, rfl⟩
          rw [← hm] at hm64
          have hrm : (r.size : Int) = 64 * (m : Int) := by omega
          have HM := Lib.hid hm
          have hm2 : m ≤ 1099511628000 := by omega
          have hm1 : 64 * m ≤ r.size := by omega
          have hm3 : r.size ≤ 64 * m := by omega
          have HPAD := Lib.hid hpad
          have HB1 := Lib.hid hB
          have HM64 := Lib.hid hm64
          clear hm hr hpad hB hm64 hrm
          go_wp2_with fail
          obtain ⟨wy, rfl⟩ : ∃ wy : World, wy = wr := ⟨_, rfl⟩
          go_loopw [8] (fun i wr => ∃ k : Nat, k ≤ m ∧ i = .int .i64 (64 * (k : Int)) ∧ Hid (Below wy.heap.size wy wr) ∧ Hid (Bk wr wy.heap.size 80 (stV (Sh.blocks Sh.s0 (byt r) k)))) (fun i _ => 64 * m - (intOf i).toNat)
          case atStart => exact ⟨0, by omega, rfl, Lib.hid ((Below.refl _ _).alloc (Nat.le_refl _) _), Lib.hid (Bk.fresh wy 80 (stV Sh.s0))⟩
          case round =>
            obtain ⟨k, hk, rfl, hG, hV⟩ := hrel
            by_cases hkm : k < m
            · have hok := Sh.blocks_ok Sh.s0_ok (byt r) k
              have hnx : Hid (Sh.blocks Sh.s0 (byt r) (k + 1) = Sh.comp (Sh.blocks Sh.s0 (byt r) k) (((byt r).drop (64 * k)).take 64)) := rfl
              generalize Sh.blocks Sh.s0 (byt r) k = S at *
              have hlt := hV.out.lt
              have x0 : ∀ d os, (Sort.grow (redrawn wr d) os).cell? ⟨wy.heap.size, 0, none⟩ = some (vU S.a) := fun d os => ((below_regrown wr d os).cell (p := ⟨wy.heap.size, 0, none⟩) hlt).trans (hV.out.cell 0)
              have x1 : ∀ d os, (Sort.grow (redrawn wr d) os).cell? ⟨wy.heap.size, 1, none⟩ = some (vU S.b) := fun d os => ((below_regrown wr d os).cell (p := ⟨wy.heap.size, 1, none⟩) hlt).trans (hV.out.cell 1)
              have x2 : ∀ d os, (Sort.grow (redrawn wr d) os).cell? ⟨wy.heap.size, 2, none⟩ = some (vU S.c) := fun d os => ((below_regrown wr d os).cell (p := ⟨wy.heap.size, 2, none⟩) hlt).trans (hV.out.cell 2)
              have x3 : ∀ d os, (Sort.grow (redrawn wr d) os).cell? ⟨wy.heap.size, 3, none⟩ = some (vU S.d) := fun d os => ((below_regrown wr d os).cell (p := ⟨wy.heap.size, 3, none⟩) hlt).trans (hV.out.cell 3)
              have x4 : ∀ d os, (Sort.grow (redrawn wr d) os).cell? ⟨wy.heap.size, 4, none⟩ = some (vU S.e) := fun d os => ((below_regrown wr d os).cell (p := ⟨wy.heap.size, 4, none⟩) hlt).trans (hV.out.cell 4)
              have x5 : ∀ d os, (Sort.grow (redrawn wr d) os).cell? ⟨wy.heap.size, 5, none⟩ = some (vU S.f) := fun d os => ((below_regrown wr d os).cell (p := ⟨wy.heap.size, 5, none⟩) hlt).trans (hV.out.cell 5)
              have x6 : ∀ d os, (Sort.grow (redrawn wr d) os).cell? ⟨wy.heap.size, 6, none⟩ = some (vU S.g) := fun d os => ((below_regrown wr d os).cell (p := ⟨wy.heap.size, 6, none⟩) hlt).trans (hV.out.cell 6)
              have x7 : ∀ d os, (Sort.grow (redrawn wr d) os).cell? ⟨wy.heap.size, 7, none⟩ = some (vU S.h) := fun d os => ((below_regrown wr d os).cell (p := ⟨wy.heap.size, 7, none⟩) hlt).trans (hV.out.cell 7)
              have hx64 : (r.extract (64 * k) (64 * k + 64)).size = 64 := by rw [ByteArray.size_extract]; omega
              have hxb : byt (r.extract (64 * k) (64 * k + 64)) = ((byt r).drop (64 * k)).take 64 := by
                unfold byt
                rw [Lib.extract_data, List.map_take, List.map_drop]
                congr 1
                omega
              have E : Hid (∀ W, Calls Tryd.prog 56 #[.agg #[vU S.a, vU S.b, vU S.c, vU S.d, vU S.e, vU S.f, vU S.g, vU S.h], .string (r.extract (64 * k) (64 * k + 64))] W fun e w' => e = .returned (.agg (stV (Sh.comp S (((byt r).drop (64 * k)).take 64)))) ∧ Below W.heap.size W w') := fun W => by
                rw [← hxb]; exact rstep_lit S _ W hok hx64
              clear hx64 hxb
              have q1 : IntKind.i64.wrap (64 * (k : Int) + 64) = 64 * (k : Int) + 64 := IntWalk.i64_in _ (by omega)
              go_wp2_with fail
              refine Lex.wp_region_below 0 7 (by kernel_rfl) (by kernel_rfl) ?_
              simp only [List.take_succ_cons, List.take_zero, List.drop_succ_cons, List.drop_zero, Lex.moved, Lex.movOf, Act.put, Act.eval, List.setIfInBounds_toArray, List.set_cons_zero, List.set_cons_succ, Lex.getD_zero, Lex.getD_succ]
              repeat (go_big_quiet_step ((go_at_call 56; with_reducible exact Calls.regrown_of (E.out _))))
              refine wpQuiet_nil ?_
              intro w3 hw3
              have hb3 : Below wr.heap.size wr w3 := by
                obtain ⟨p, e⟩ := hw3
                rw [e]
                exact below_regrown _ _ _
              have hk3 := hV.out.below hb3 hlt
              have hs3 := hb3.size
              have hG := Lib.hid (hG.out.trans (hb3.mono hG.out.size))
              clear hw3 hb3 q1 x0 x1 x2 x3 x4 x5 x6 x7 hV E
              refine wpList_store_row rfl 80 _ _ rfl wy.heap.size (stV (Sh.comp S (((byt r).drop (64 * k)).take 64))) rfl rfl 80 (stV S) hk3 (by rw [stV_size]; exact w8_size) (by rw [stV_size, stV_size]) (stV_one _) ?_
              have hG := Lib.hid (below_one hG.out (one_row (one_refl w3 (some wy.heap.size)) (stV (Sh.comp S (((byt r).drop (64 * k)).take 64)))) hG.out.size (fun g hg => by cases hg; exact Nat.le_refl _))
              have hV := Lib.hid (hk3.row (stV (Sh.comp S (((byt r).drop (64 * k)).take 64))))
              rw [← hnx.out] at hV ⊢
              obtain ⟨w4, hw4⟩ : ∃ w4, w4 = w3.setRow wy.heap.size (stV (Sh.blocks Sh.s0 (byt r) (k + 1))) := ⟨_, rfl⟩
              rw [← hnx.out, ← hw4] at hG
              rw [← hw4] at hV ⊢
              clear hw4
              clear hk3 hs3
              refine NoPanic.normal ?_
              go_wp2_with fail
              go_roundw
              case rel => exact ⟨k + 1, by omega, by go_num, hG, hV⟩
              case measure => simp [intOf]; omega
            · obtain rfl : k = m := by omega
              have hok := Sh.blocks_ok Sh.s0_ok (byt r) k
              have hsha : Hid (Sh.sha (byt s) = (Sh.blocks Sh.s0 (byt r) k).bytes) := by
                show _ = _
                unfold Sh.sha
                rw [← HPAD.out, byt_len, ← HM.out]
              generalize Sh.blocks Sh.s0 (byt r) k = S at *
              obtain ⟨i0, hi0, hz0, hz1, hz2⟩ := info_parts info_u8
              have hltg := hV.out.lt
              have hBz := Lib.hid (HB1.out.trans (hG.out.mono HB1.out.size))
              clear hG HB1
              go_wp2_with fail
              obtain ⟨wz, rfl⟩ : ∃ wz : World, wz = wr := ⟨_, rfl⟩
              go_loopw [9, 10] (fun v i wr => ∃ k : Nat, k ≤ 8 ∧ i = .int .i64 k ∧ wr.ownsRow wz.heap.size 5 1 v (4 * k) (cellsB (S.bytes.take (4 * k))) ∧ Hid (Below wz.heap.size wz wr)) (fun _ i _ => 8 - (intOf i).toNat)
              case atStart => exact ⟨0, by omega, rfl, ⟨by simp [cellsB], Or.inl ⟨rfl, rfl⟩⟩, Lib.hid (Below.refl _ _)⟩
              case round =>
                obtain ⟨k, hk, rfl, hown, hB⟩ := hrel
                have hwr := hB.out.size
                by_cases hk8 : k < 8
                · have cx : wr.cell? ⟨wy.heap.size, k, none⟩ = some (vU (S.l.getD k 0)) := ((hV.out.below hB.out hltg).cell k).trans (stV_at S k hk8)
                  have lx := ok_lt hok k
                  have hbm := Lib.hid (bytes_more S k hk8)
                  generalize S.l.getD k 0 = x at *
                  have HOWN := Lib.hid hown
                  clear hown
                  go_wp2_with fail
                  refine Lex.wp_region_drawn 1 23 (by kernel_rfl) (by kernel_rfl) ?_
                  simp only [List.take_succ_cons, List.take_zero, List.drop_succ_cons, List.drop_zero, Lex.moved, Lex.movOf, Act.put, Act.eval, List.setIfInBounds_toArray, List.set_cons_zero, List.set_cons_succ, Lex.getD_zero, Lex.getD_succ]
                  repeat (go_big_quiet_step (fail))
                  refine wpQuiet_nil ?_
                  intro _ hw'
                  obtain ⟨nq, hw''⟩ := hw'
                  subst hw''
                  go_wp2_with (at_builtin; refine wpList_append_own _ rfl _ _ _ rfl wz.heap.size 5 i0 _ 1 1 Tryd.underlying43 hi0 hz0 hz1 hz2 rfl (by omega) u9 (4 * k) _ rfl (HOWN.out.alloc _) ⟨wr.heap.size, 0, none⟩ 4 4 [.int .u8 ((x : Int) / 16777216), .int .u8 ((x : Int) / 65536 % 256), .int .u8 ((x : Int) / 256 % 256), .int .u8 ((x : Int) % 256)] rfl rfl (World.news_of_block (heap_alloc_new _ _)) (by simp [Value.oneCell']) (by unfold maxLen; omega) (by omega) (by simp; omega) ?_; intro v2 w6 hown2 hgrow2 _)
                  refine NoPanic.normal ?_
                  have hB6 := Lib.hid (((below_drawn hB.out nq).alloc (by simp; omega) _).grown hgrow2 (by simp; omega) (by intro g hg; exact (HOWN.out.lt g hg).1))
                  clear hgrow2
                  go_wp2_with fail
                  go_roundw
                  case rel => exact ⟨k + 1, by omega, by go_num, by rw [hbm.out, cellsB_app]; exact hown2, hB6⟩
                  case measure => simp [intOf]; omega
                · obtain rfl : k = 8 := by omega
                  have e : cellsB (S.bytes.take (4 * 8)) = cellsU8 (S.bytes.map UInt8.ofNat) := by
                    rw [hsha.out.symm, cellsB_u8 _ (Sh.sha_lt (byt s)), hsha.out]; rfl
                  rw [e] at hown
                  have hcv := run_convert_own (P := Tryd.prog) 43 5 9 Tryd.underlying43 Tryd.underlying5 Tryd.underlying9 hown
                  clear hown e
                  have hBf := Lib.hid (hBz.out.trans (hB.out.mono hBz.out.size))
                  go_wp2_with fail
                  go_ret
                  exact ⟨by rw [hsha.out]; rfl, hBf.out⟩
        · obtain ⟨q, rfl⟩ : ∃ q, t = q + 1 := ⟨t - 1, by omega⟩
          obtain rfl : _ = Value.int .i64 (q : Int) := hi.trans (by congr 1; omega)
          clear ht0
          have hr := Lib.hid hr
          have hB := Lib.hid hB
          go_wp2_with fail
          obtain ⟨wy, rfl⟩ : ∃ wy : World, wy = wr := ⟨_, rfl⟩
          go_loop [5, 6] (fun m k => ∃ c : Nat, c ≤ q ∧ k = .int .i64 c ∧ m = .int .u64 ((n * 8 / 256 ^ c : Nat) : Int)) (fun _ k => q - (intOf k).toNat)
          case atStart => exact ⟨0, by omega, rfl, by simp⟩
          case round =>
            obtain ⟨c, hc, rfl, rfl⟩ := hrel
            have hm : n * 8 / 256 ^ c ≤ 8796093022208 := Nat.le_trans (Nat.div_le_self _ _) (by omega)
            have hnx : Hid (n * 8 / 256 ^ (c + 1) = n * 8 / 256 ^ c / 256) := by
              show _ = _
              rw [Nat.div_div_eq_div_mul, Nat.pow_succ]
            by_cases hcq : c < q
            · generalize n * 8 / 256 ^ c = m at *
              go_wp2_with fail
              go_round
              case rel => exact ⟨c + 1, by omega, by go_num, by rw [hnx.out]; simp⟩
              case measure => simp [intOf]; omega
            · obtain rfl : c = q := by omega
              have htm := Lib.hid (tail8_more n c (by omega))
              have hsay := say_one wy (n * 8 / 256 ^ c % 256) (((n * 8 / 256 ^ c : Nat) : Int) % 256) (by simp)
              have hb1 := byt_one (n * 8 / 256 ^ c % 256) (Nat.mod_lt _ (by decide))
              have hs1 : (strN [n * 8 / 256 ^ c % 256]).size = 1 := by rw [← byt_len, hb1]; rfl
              have hb1 := Lib.hid hb1
              generalize strN [n * 8 / 256 ^ c % 256] = x at *
              generalize n * 8 / 256 ^ c = m at *
              go_wp2_with fail
              go_roundw
              case rel => exact ⟨c, _, by omega, rfl, rfl, by rw [cat_byt, hr.out, hb1.out, htm.out, List.append_assoc], hB.out.alloc (hB.out.size) _⟩
              case measure => simp [intOf] <;> omega
end Go.Proofs.YtflfmacfodkedaaDoor
