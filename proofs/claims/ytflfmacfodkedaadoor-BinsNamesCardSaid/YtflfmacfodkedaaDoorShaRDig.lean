/-
  The walk of the document's Digest.
-/
import Derived.Test.YtflfmacfodkedaaDoorShaRSum
import Derived.Test.YtflfmacfodkedaaDoorShaTop
namespace Go.Proofs.YtflfmacfodkedaaDoor
set_option linter.unusedSimpArgs false
set_option linter.unusedVariables false
open Go Go.RowKit
attribute [local irreducible] Sh.ws Sh.sha

def hexS : ByteArray := ⟨#[48, 49, 50, 51, 52, 53, 54, 55, 56, 57, 97, 98, 99, 100, 101, 102]⟩
theorem hexS_at (k : Nat) (hk : k < 16) (w : World) : (Instr.index 9 (.string ⟨#[48, 49, 50, 51, 52, 53, 54, 55, 56, 57, 97, 98, 99, 100, 101, 102]⟩) (.int .u8 (k : Int))).run Tryd.prog w = .ok (.int .u8 ((Hx.hexd k).toNat : Int)) w := by
  rw [run_index_string w 9 _ .u8 (k : Int) Tryd.underlying9, dif_pos ⟨by omega, by show ((k : Int)) < 16; omega⟩]
  congr 3
  have : ∀ j : Fin 16, (#[48, 49, 50, 51, 52, 53, 54, 55, 56, 57, 97, 98, 99, 100, 101, 102] : Array UInt8)[j] = Hx.hexd j := by decide
  exact congrArg UInt8.toNat (this ⟨k, hk⟩)
set_option maxRecDepth 20000 in
set_option maxHeartbeats 1000000 in
theorem rdigest_any (s : ByteArray) (w : World) (hs : s.size ≤ 1099511627776) :
    Calls Tryd.prog 42 #[.string s] w fun e w' => e = .returned (.string (Hx.enc (shaS s))) ∧ Below w.heap.size w w' := by
  obtain ⟨i0, hi0, hz0, hz1, hz2⟩ := info_parts info_u8
  go_enter Tryd.func42, Tryd.ntmps42
  go_wp2_with fail
  refine (rsum_any s _ hs).mono ?_
  rintro e w1 ⟨rfl, hb1⟩
  have hz := shaS_size s
  have hz1' : (shaS s).size ≤ 1000 := by omega
  clear hz
  obtain ⟨x, hx⟩ : ∃ x, x = shaS s := ⟨_, rfl⟩
  rw [show strN (Sh.sha (byt s)) = x from hx.symm]
  rw [← hx] at hz1'
  have HX := Lib.hid hx
  clear hx
  have HB := Lib.hid hb1
  clear hb1
  go_wp2_with fail
  go_loopw [4, 5] (fun v i wr => ∃ k : Nat, k ≤ x.size ∧ i = .int .i64 k ∧ wr.ownsRow w1.heap.size 5 1 v (2 * k) (cellsU8 (Hx.encTo x k)) ∧ Hid (Below w1.heap.size w1 wr)) (fun _ i _ => x.size - (intOf i).toNat)
  case atStart => exact ⟨0, by omega, rfl, ⟨by simp [cellsU8, Hx.encTo], Or.inl ⟨rfl, rfl⟩⟩, Lib.hid (Below.refl _ _)⟩
  case round =>
    obtain ⟨k, hk, rfl, hown, hB⟩ := hrel
    have h0 := hB.out.size
    by_cases hlt : k < x.size
    · have hbyte := x[k].toNat_lt
      have hst : Hid (Hx.encTo x (k + 1) = Hx.encTo x k ++ [Hx.hexd (x[k].toNat / 16), Hx.hexd (x[k].toNat % 16)]) := by
        show _ = _
        rw [Hx.encTo, Hx.byteAt_lt x k hlt]
      have hix := fun W => index_at (P := Tryd.prog) 9 Tryd.underlying9 x (k : Int) k rfl hlt W
      generalize x[k].toNat = y at *
      have d1 : ∀ W, (Instr.index 9 (.string ⟨#[48, 49, 50, 51, 52, 53, 54, 55, 56, 57, 97, 98, 99, 100, 101, 102]⟩) (.int .u8 ((y : Int) / 16))).run Tryd.prog W = .ok (.int .u8 ((Hx.hexd (y / 16)).toNat : Int)) W := fun W => hexS_at (y / 16) (by omega) W
      have d2 : ∀ W, (Instr.index 9 (.string ⟨#[48, 49, 50, 51, 52, 53, 54, 55, 56, 57, 97, 98, 99, 100, 101, 102]⟩) (.int .u8 ((y : Int) % 16))).run Tryd.prog W = .ok (.int .u8 ((Hx.hexd (y % 16)).toNat : Int)) W := fun W => hexS_at (y % 16) (by omega) W
      generalize Hx.hexd (y / 16) = a1 at *
      generalize Hx.hexd (y % 16) = a2 at *
      have HOWN := Lib.hid hown
      clear hown
      go_wp2_with fail
      refine Lex.wp_region_drawn 1 11 (by kernel_rfl) (by kernel_rfl) ?_
      simp only [List.take_succ_cons, List.take_zero, List.drop_succ_cons, List.drop_zero, Lex.moved, Lex.movOf, Act.put, Act.eval, List.setIfInBounds_toArray, List.set_cons_zero, List.set_cons_succ, Lex.getD_zero, Lex.getD_succ]
      repeat (go_big_quiet_step (fail))
      refine wpQuiet_nil ?_
      intro _ hw'
      obtain ⟨nq, hw''⟩ := hw'
      subst hw''
      go_wp2_with (at_builtin; refine wpList_append_own _ rfl _ _ _ rfl w1.heap.size 5 i0 _ 1 1 Tryd.underlying43 hi0 hz0 hz1 hz2 rfl (by omega) u4 (2 * k) _ rfl (HOWN.out.alloc _) ⟨wr.heap.size, 0, none⟩ 2 2 [.int .u8 (a1.toNat : Int), .int .u8 (a2.toNat : Int)] rfl rfl (World.news_of_block (heap_alloc_new _ _)) (by simp [Value.oneCell']) (by unfold maxLen; omega) (by omega) (by simp; omega) ?_; intro v2 w6 hown2 hgrow2 _)
      refine NoPanic.normal ?_
      have hB6 := Lib.hid (((below_drawn hB.out nq).alloc (by simp; omega) _).grown hgrow2 (by simp; omega) (by intro g hg; exact (HOWN.out.lt g hg).1))
      clear hgrow2
      go_wp2_with fail
      go_roundw
      case rel => exact ⟨k + 1, by omega, by go_num, by rw [show 2 * (k + 1) = 2 * k + 2 by omega, hst.out, cellsU8_append]; exact hown2, hB6⟩
      case measure => simp [intOf]; omega
    · have hcv := run_convert_own (P := Tryd.prog) 43 5 9 Tryd.underlying43 Tryd.underlying5 Tryd.underlying9 hown
      clear hown
      have hBf := Lib.hid (HB.out.trans (hB.out.mono HB.out.size))
      go_wp2_with fail
      go_ret
      have : k = x.size := by omega
      subst this
      exact ⟨by rw [← HX.out]; rfl, hBf.out⟩
end Go.Proofs.YtflfmacfodkedaaDoor
