/-
  The walk of package hex: Decode.
-/
import Derived.Test.YtibjbpinbbmkjaaDoorHexFns
import Derived.Test.YtibjbpinbbmkjaaDoorBytes
namespace Go.Proofs.YtibjbpinbbmkjaaDoor
set_option linter.unusedSimpArgs false
set_option linter.unusedVariables false
open Go.RowKit

theorem or_nibble (a d : Int) (ha : 0 ≤ a) (ha' : a ≤ 15) (h0 : 0 ≤ d) (h1 : d ≤ 15) : bits .or .i64 (a * 16) d = 16 * a + d := by
  obtain ⟨a, rfl⟩ := Int.eq_ofNat_of_zero_le ha
  obtain ⟨d, rfl⟩ := Int.eq_ofNat_of_zero_le h0
  show IntKind.i64.wrap ((BitVec.ofInt 64 ((a : Int) * 16) ||| BitVec.ofInt 64 (d : Int)).toNat : Int) = _
  have e : ((a : Int) * 16) = ((a * 16 : Nat) : Int) := by omega
  rw [e, BitVec.ofInt_natCast, BitVec.ofInt_natCast, BitVec.toNat_or, BitVec.toNat_ofNat, BitVec.toNat_ofNat, Nat.mod_eq_of_lt (by omega), Nat.mod_eq_of_lt (by omega), nat_join 4 _ _ (by omega) (by omega), IntKind.wrap_i64]
  omega

set_option maxHeartbeats 400000 in
theorem decode_no (s : ByteArray) (w : World) (hs : s.size ≤ 1000000) (hh : Hx.isHex s = false) :
    Calls Tryd.prog 20 #[.string s] w fun e w' => e = .returned (.tuple #[.string (Hx.dec s), .int .i64 (Hx.decE s)]) ∧ Below w.heap.size w w' := by
  have hs' : s.size ≤ maxLen := by unfold maxLen; omega
  have hn : Hid (Hx.dec s = ByteArray.empty ∧ Hx.decE s = 3) := ⟨by simp [Hx.dec, hh], by simp [Hx.decE, hh]⟩
  go_enter Tryd.func20, Tryd.ntmps20
  go_wp2_with (go_at_call 25; refine (is_any _ _ hs').mono ?_; rintro e w' ⟨rfl, rfl⟩)
  go_ret2
  exact ⟨ret_si hn.out.1.symm hn.out.2.symm, Below.refl _ _⟩

set_option maxHeartbeats 400000 in
theorem decode_odd (s : ByteArray) (w : World) (hs : s.size ≤ 1000000) (hh : Hx.isHex s = true) (ho : s.size % 2 = 1) :
    Calls Tryd.prog 20 #[.string s] w fun e w' => e = .returned (.tuple #[.string (Hx.dec s), .int .i64 (Hx.decE s)]) ∧ Below w.heap.size w w' := by
  have hs' : s.size ≤ maxLen := by unfold maxLen; omega
  have hn : Hid (Hx.dec s = ByteArray.empty ∧ Hx.decE s = 4) := ⟨by simp [Hx.dec, ho], by simp [Hx.decE, hh, ho]⟩
  have ho' : ((s.size : Int) % 2 != 0) = true := by rw [bne_iff_ne]; omega
  have H := Lib.hid ho
  clear ho
  go_enter Tryd.func20, Tryd.ntmps20
  go_wp2_with (go_at_call 25; refine (is_any _ _ hs').mono ?_; rintro e w' ⟨rfl, rfl⟩)
  go_ret2
  exact ⟨ret_si hn.out.1.symm hn.out.2.symm, Below.refl _ _⟩

set_option maxHeartbeats 800000 in
theorem decode_yes (s : ByteArray) (w : World) (m : Nat) (hm : s.size = 2 * m) (hs : m ≤ 500000) (hh : Hx.isHex s = true) :
    Calls Tryd.prog 20 #[.string s] w fun e w' => e = .returned (.tuple #[.string (Hx.dec s), .int .i64 (Hx.decE s)]) ∧ Below w.heap.size w w' := by
  have hs' : s.size ≤ maxLen := by unfold maxLen; omega
  have hn : Hid (Hx.dec s = ⟨(Hx.decTo s m).toArray⟩ ∧ Hx.decE s = 0) := ⟨by simp [Hx.dec, hh, hm], by simp [Hx.decE, hh, hm]⟩
  have ho' : ((s.size : Int) % 2 != 0) = false := by rw [bne_eq_false_iff_eq]; omega
  have hq : (s.size : Int) / 2 = (m : Int) := by omega
  have hsz : (s.size : Int) = 2 * m := by omega
  obtain ⟨i0, hi0, hz0, hz1, hz2⟩ := info_parts info_u8
  have Hm := Lib.hid hm
  clear hm
  go_enter Tryd.func20, Tryd.ntmps20
  go_wp2_with (first | (go_at_call 25; refine (is_any _ _ hs').mono ?_; rintro e w' ⟨rfl, rfl⟩) | (at_make; refine wpList_make_own _ rfl _ _ 26 rfl w.heap.size 5 i0 _ 1 Tryd.underlying26 hi0 hz0 hz1 _ _ _ m rfl rfl (by omega) (by rw [hz2]; omega) (by unfold maxLen; omega) (Nat.le_refl _) ?_; intro w1 hown hgrow))
  have hb0 : Below w.heap.size w w1 := (Below.refl _ _).grown hgrow (Nat.le_refl _) (by intro k hk; cases hk)
  clear hgrow
  go_loopw [4, 5] (fun v i wr => ∃ k : Nat, k ≤ m ∧ i = .int .i64 (2 * k : Nat) ∧ wr.ownsRow w.heap.size 5 1 v k (cellsU8 (Hx.decTo s k)) ∧ Below w.heap.size w wr) (fun _ i _ => s.size - (intOf i).toNat)
  case atStart => exact ⟨0, Nat.zero_le _, rfl, hown, hb0⟩
  case round =>
    clear hown hb0
    obtain ⟨k, hk, rfl, hown, hb⟩ := hrel
    have h0 := hb.size
    by_cases hlt : k < m
    · obtain ⟨r1, r2⟩ := Hx.dgV_range s (2 * (k : Int))
      obtain ⟨r3, r4⟩ := Hx.dgV_range s (2 * (k : Int) + 1)
      have hor := or_nibble _ _ r1 r2 r3 r4
      have hv : (16 * Hx.dgV s (2 * (k : Int)) + Hx.dgV s (2 * (k : Int) + 1)) % 256 = 16 * Hx.dgV s (2 * (k : Int)) + Hx.dgV s (2 * (k : Int) + 1) := by omega
      have hnews : cellsU8 [UInt8.ofNat (16 * Hx.dgV s (2 * (k : Int)) + Hx.dgV s (2 * (k : Int) + 1)).toNat] = [.int .u8 (16 * Hx.dgV s (2 * (k : Int)) + Hx.dgV s (2 * (k : Int) + 1))] := by
        simp only [cellsU8, List.map_cons, List.map_nil, UInt8.toNat_ofNat']
        rw [Nat.mod_eq_of_lt (by omega), Int.toNat_of_nonneg (by omega)]
      have hnews := Lib.hid hnews
      have hown := Lib.hid hown
      have hb := Lib.hid hb
      go_wp2_with (first | (go_at_call 26; refine (digit_any _ _ _ hs').mono ?_; rintro e w' ⟨rfl, rfl⟩) | (at_builtin; refine wpList_append_own _ rfl _ _ _ rfl w.heap.size 5 i0 _ 1 1 Tryd.underlying26 hi0 hz0 hz1 hz2 rfl (by omega) u4 k _ rfl (hown.out.alloc _) ⟨wr.heap.size, 0, none⟩ 1 1 [.int .u8 (16 * Hx.dgV s (2 * (k : Int)) + Hx.dgV s (2 * (k : Int) + 1))] rfl rfl (World.news_of_block (heap_alloc_new _ _)) (by simp [Value.oneCell']) (by unfold maxLen; omega) (by omega) (by simp; omega) ?_; intro v2 w2 hown2 hgrow2 _))
      have hb2 := (hb.out.alloc h0 _).grown hgrow2 (by simp; omega) (by intro g hg; exact (hown.out.lt g hg).1)
      rw [← hnews.out, ← cellsU8_append] at hown2
      have hown2 := Lib.hid hown2
      have hb2 := Lib.hid hb2
      go_roundw
      case rel => exact ⟨k + 1, by omega, by go_num, hown2.out, hb2.out⟩
      case measure => simp [intOf]; omega
    · have hcv := run_convert_own (P := Tryd.prog) 26 5 9 Tryd.underlying26 Tryd.underlying5 Tryd.underlying9 hown
      have hb := Lib.hid hb
      clear hown
      go_wp2
      go_ret2
      have : k = m := by omega
      subst this
      exact ⟨ret_si hn.out.1.symm hn.out.2.symm, hb.out⟩

theorem decode_any (s : ByteArray) (w : World) (hs : s.size ≤ 1000000) :
    Calls Tryd.prog 20 #[.string s] w fun e w' => e = .returned (.tuple #[.string (Hx.dec s), .int .i64 (Hx.decE s)]) ∧ Below w.heap.size w w' := by
  cases hh : Hx.isHex s with
  | false => exact decode_no s w hs hh
  | true =>
    rcases Nat.mod_two_eq_zero_or_one s.size with h | h
    · exact decode_yes s w (s.size / 2) (by omega) (by omega) hh
    · exact decode_odd s w hs hh h
end Go.Proofs.YtibjbpinbbmkjaaDoor
