/-
  The walk of package hex: Encode.
-/
import Derived.Test.YtflfmacfodkedaaDoorHexFns
import Derived.Test.YtflfmacfodkedaaDoorLex
import Derived.Test.YtflfmacfodkedaaDoorBytes
namespace Go.Proofs.YtflfmacfodkedaaDoor
set_option linter.unusedSimpArgs false
set_option linter.unusedVariables false
open Go.RowKit

/-- The table of the digits stands where it was laid. -/
def Digs (w : World) : Prop := ∀ i, i < 16 → w.cell? ⟨0, i, none⟩ = some (.int .u8 ((Hx.hexd i).toNat : Int))
theorem Digs.lt {w : World} (h : Digs w) : 0 < w.heap.size := World.block_lt_of_cell? w _ (h 0 (by omega))
theorem Digs.below {B : Nat} {w w' : World} (h : Digs w) (hb : Below B w w') (hB : 0 < B) : Digs w' := fun i hi => (hb.cell (p := ⟨0, i, none⟩) hB).trans (h i hi)

set_option maxRecDepth 20000 in
set_option maxHeartbeats 400000 in
theorem encode_any (s : ByteArray) (w : World) (hs : s.size ≤ 1000000) (hD : Digs w) :
    Calls Tryd.prog 50 #[.string s] w fun e w' => e = .returned (.string (Hx.enc s)) ∧ Below w.heap.size w w' := by
  have hs' : s.size ≤ maxLen := by unfold maxLen; omega
  obtain ⟨i0, hi0, hz0, hz1, hz2⟩ := info_parts info_u8
  go_enter Tryd.func50, Tryd.ntmps50
  go_wp2_with (at_make; refine wpList_make_own _ rfl _ _ 43 rfl w.heap.size 5 i0 _ 1 Tryd.underlying43 hi0 hz0 hz1 _ _ _ (2 * s.size) rfl rfl (by omega) (by rw [hz2]; omega) (by unfold maxLen; omega) (Nat.le_refl _) ?_; intro w1 hown hgrow)
  have hb0 : Below w.heap.size w w1 := (Below.refl _ _).grown hgrow (Nat.le_refl _) (by intro k hk; cases hk)
  clear hgrow
  go_loopw [3, 4] (fun v i wr => ∃ k : Nat, k ≤ s.size ∧ i = .int .i64 k ∧ wr.ownsRow w.heap.size 5 1 v (2 * k) (cellsU8 (Hx.encTo s k)) ∧ Below w.heap.size w wr) (fun _ i _ => s.size - (intOf i).toNat)
  case atStart => exact ⟨0, Nat.zero_le _, rfl, hown, hb0⟩
  case round =>
    clear hown hb0
    obtain ⟨k, hk, rfl, hown, hb⟩ := hrel
    have hDr := hD.below hb hD.lt
    have h0 := hb.size
    by_cases hlt : k < s.size
    · have hbyte := s[k].toNat_lt
      have hand : bits .and .u8 (s[k].toNat : Int) 15 = (s[k].toNat : Int) % 16 := by rw [u8_and _ _ (by omega) (by omega) (by omega) (by omega)]; exact congrArg Nat.cast (nat_mask4 _)
      have c1 := hDr (s[k].toNat / 16) (by omega)
      have c2 := hDr (s[k].toNat % 16) (by omega)
      have i1 : (0 : Int) ≤ (s[k].toNat : Int) / 16 := by omega
      have i2 : (s[k].toNat : Int) / 16 < 16 := by omega
      have i3 : (0 : Int) ≤ (s[k].toNat : Int) % 16 := by omega
      have i4 : (s[k].toNat : Int) % 16 < 16 := by omega
      have hown := Lib.hid hown
      have hb := Lib.hid hb
      clear hDr
      go_wp2_with fail
      refine Lex.wp_region_drawn 1 13 (by kernel_rfl) (by kernel_rfl) ?_
      simp only [List.take_succ_cons, List.take_zero, List.drop_succ_cons, List.drop_zero, Lex.moved, Lex.movOf, Act.put, Act.eval, List.setIfInBounds_toArray, List.set_cons_zero, List.set_cons_succ, Lex.getD_zero, Lex.getD_succ]
      repeat (go_big_quiet_step (fail))
      refine wpQuiet_nil ?_
      intro _ hw'
      obtain ⟨nq, hw''⟩ := hw'
      subst hw''
      go_wp2_with (at_builtin; refine wpList_append_own _ rfl _ _ _ rfl w.heap.size 5 i0 _ 1 1 Tryd.underlying43 hi0 hz0 hz1 hz2 rfl (by omega) u3 (2 * k) _ rfl (hown.out.alloc _) ⟨wr.heap.size, 0, none⟩ 2 2 [.int .u8 ((Hx.hexd (s[k].toNat / 16)).toNat : Int), .int .u8 ((Hx.hexd (s[k].toNat % 16)).toNat : Int)] rfl rfl (World.news_of_block (heap_alloc_new _ _)) (by simp [Value.oneCell']) (by unfold maxLen; omega) (by omega) (by simp; omega) ?_; intro v2 w2 hown2 hgrow2 _)
      refine NoPanic.normal ?_
      have hb2 := Lib.hid (((below_drewN hb.out nq).alloc (by simp; omega) _).grown hgrow2 (by simp; omega) (by intro g hg; exact (hown.out.lt g hg).1))
      go_wp2
      go_roundw
      case rel => exact ⟨k + 1, by omega, by go_num, by rw [show 2 * (k + 1) = 2 * k + 2 by omega, Hx.encTo, cellsU8_append, Hx.byteAt_lt s k hlt]; exact hown2, hb2.out⟩
      case measure => simp [intOf]; omega
    · have hcv := run_convert_own (P := Tryd.prog) 43 5 9 Tryd.underlying43 Tryd.underlying5 Tryd.underlying9 hown
      have hb := Lib.hid hb
      clear hown hDr
      go_wp2
      go_ret
      have : k = s.size := by omega
      subst this
      exact ⟨rfl, hb.out⟩
end Go.Proofs.YtflfmacfodkedaaDoor
