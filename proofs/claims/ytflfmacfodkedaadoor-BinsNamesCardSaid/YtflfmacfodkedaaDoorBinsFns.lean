/-
  The walks of package bins, and of the document's words beside it: numbers and their digits.
-/
import Derived.Test.YtflfmacfodkedaaDoorBins
import Derived.Test.YtflfmacfodkedaaDoorShaRDig
import Derived.Test.YtflfmacfodkedaaDoorMem
namespace Go.Proofs.YtflfmacfodkedaaDoor
set_option linter.unusedSimpArgs false
set_option linter.unusedVariables false
open Go Go.RowKit
attribute [local irreducible] Sh.sha

theorem bmay_any (b : Int) (w : World) : Calls Tryd.prog 37 #[.int .i64 b] w fun e w' => e = .returned (.bool (Bn.may b)) ∧ w = w' := by
  by_cases h1 : 1 ≤ b
  · by_cases h2 : b ≤ 32
    · go_enter Tryd.func37, Tryd.ntmps37
      go_wp2_with fail
      go_ret
      exact ⟨ret_b (by unfold Bn.may; simp [h1, h2]), rfl⟩
    · go_enter Tryd.func37, Tryd.ntmps37
      go_wp2_with fail
      go_ret
      exact ⟨ret_b (by unfold Bn.may; simp [h1, h2]), rfl⟩
  · go_enter Tryd.func37, Tryd.ntmps37
    go_wp2_with fail
    go_ret
    exact ⟨ret_b (by unfold Bn.may; rw [decide_eq_false (p := 1 ≤ b) (by omega)]; rfl), rfl⟩
theorem bwidth_any (b : Nat) (w : World) (h : b ≤ 100) : Calls Tryd.prog 44 #[.int .i64 b] w fun e w' => e = .returned (.int .i64 (Bn.wid b : Nat)) ∧ w = w' := by
  go_enter Tryd.func44, Tryd.ntmps44
  go_wp2_with fail
  go_ret
  exact ⟨ret_i (by unfold Bn.wid; omega), rfl⟩
theorem rwidth_any (b : Nat) (w : World) (h : b ≤ 100) : Calls Tryd.prog 46 #[.int .i64 b] w fun e w' => e = .returned (.int .i64 (Bn.wid b : Nat)) ∧ w = w' := by
  go_enter Tryd.func46, Tryd.ntmps46
  go_wp2_with fail
  go_ret
  exact ⟨ret_i (by unfold Bn.wid; omega), rfl⟩
theorem shr_zero (n b : Nat) : (((n : Int) / 2 ^ b) == 0) = decide (n < 2 ^ b) := by
  rw [show (n : Int) / 2 ^ b = ((n / 2 ^ b : Nat) : Int) by rw [Int.natCast_ediv, Int.natCast_pow]; rfl]
  rw [Bool.eq_iff_iff, beq_iff_eq, decide_eq_true_eq]
  have : 0 < 2 ^ b := Nat.two_pow_pos _
  rw [show ((n / 2 ^ b : Nat) : Int) = 0 ↔ n / 2 ^ b = 0 by omega, Nat.div_eq_zero_iff]
  omega
theorem bhas_any (b n : Nat) (w : World) (h1 : 1 ≤ b) (h2 : b ≤ 32) (hn : n < 4294967296) : Calls Tryd.prog 43 #[.int .i64 b, .int .u32 n] w fun e w' => e = .returned (.bool (decide (n < 2 ^ b))) ∧ w = w' := by
  have E := Lib.hid (shr_zero n b)
  go_enter Tryd.func43, Tryd.ntmps43
  go_wp2_with fail
  go_ret
  exact ⟨ret_b E.out, rfl⟩
set_option maxHeartbeats 400000 in
theorem power_any (n : Nat) (w : World) (h : n ≤ 40) : Calls Tryd.prog 40 #[.int .i64 n] w fun e w' => e = .returned (.int .u64 (2 ^ n : Nat)) ∧ w = w' := by
  go_enter Tryd.func40, Tryd.ntmps40
  go_wp2_with fail
  go_loop [3, 4] (fun p i => ∃ k : Nat, k ≤ n ∧ i = .int .i64 k ∧ p = .int .u64 (2 ^ k : Nat)) (fun _ i => n - (intOf i).toNat)
  case atStart => exact ⟨0, by omega, rfl, rfl⟩
  case round =>
    obtain ⟨k, hk, rfl, rfl⟩ := hrel
    by_cases hlt : k < n
    · have hb : 2 ^ k ≤ 2 ^ 40 := Nat.pow_le_pow_right (by omega) (by omega)
      have e := Lib.hid (Nat.pow_succ 2 k)
      generalize 2 ^ k = y at *
      have hb2 : y ≤ 1099511627776 := hb
      clear hb
      go_wp2_with fail
      go_round
      case rel => exact ⟨k + 1, by omega, by go_num, by rw [e.out]; congr 1; omega⟩
      case measure => simp [intOf]; omega
    · obtain rfl : k = n := by omega
      go_wp2_with fail
      go_ret
      exact ⟨rfl, rfl⟩

/-! ### Texts of digits -/
theorem hexS32_at (k : Nat) (hk : k < 16) (i : Int) (hi : i = (k : Int)) (w : World) : (Instr.index 9 (.string ⟨#[48, 49, 50, 51, 52, 53, 54, 55, 56, 57, 97, 98, 99, 100, 101, 102]⟩) (.int .u32 i)).run Tryd.prog w = .ok (.int .u8 ((Hx.hexd k).toNat : Int)) w := by
  subst hi
  rw [run_index_string w 9 _ .u32 (k : Int) Tryd.underlying9, dif_pos ⟨by omega, by show ((k : Int)) < 16; omega⟩]
  congr 3
  have : ∀ j : Fin 16, (#[48, 49, 50, 51, 52, 53, 54, 55, 56, 57, 97, 98, 99, 100, 101, 102] : Array UInt8)[j] = Hx.hexd j := by decide
  exact congrArg UInt8.toNat (this ⟨k, hk⟩)
theorem hexS_cut (k : Nat) (hk : k < 16) : (⟨#[48, 49, 50, 51, 52, 53, 54, 55, 56, 57, 97, 98, 99, 100, 101, 102]⟩ : ByteArray).extract k (k + 1) = ⟨#[Hx.hexd k]⟩ := by
  refine Hx.bytes_ext ?_
  rw [Lib.extract_data]
  have : ∀ j : Fin 16, ((#[48, 49, 50, 51, 52, 53, 54, 55, 56, 57, 97, 98, 99, 100, 101, 102] : Array UInt8).toList.drop j).take (j + 1 - j) = [Hx.hexd j] := by decide
  exact this ⟨k, hk⟩
def z8 : Array Value := #[.int .u8 0, .int .u8 0, .int .u8 0, .int .u8 0, .int .u8 0, .int .u8 0, .int .u8 0, .int .u8 0]
/-- The last digits are laid; t are still to come. -/
structure Tx (w : World) (n c t : Nat) (wr : World) : Prop where
  bel : Below w.heap.size w wr
  blk : ∃ cs, Bk wr w.heap.size 82 cs ∧ cs.size = 8 ∧ ∀ j, t ≤ j → j < c → cs[j]? = some (.int .u8 ((Hx.hexd (n / 16 ^ (c - 1 - j) % 16)).toNat : Int))
theorem Tx.put {w wr : World} {n c t : Nat} (h : Tx w n c (t + 1) wr) (ht : t < 8) (x : Int) (hx : x = ((Hx.hexd (n / 16 ^ (c - 1 - t) % 16)).toNat : Int)) : Tx w n c t (wr.setCell ⟨w.heap.size, t, none⟩ (.int .u8 x)) := by
  obtain ⟨hB, cs, h1, h2, h3⟩ := h
  refine ⟨hB.setCell (Nat.le_refl _) _, _, h1.put t _, by rw [Array.size_setIfInBounds]; exact h2, fun j hj hj2 => ?_⟩
  rw [Array.getElem?_setIfInBounds]
  by_cases e : t = j
  · subst e; rw [if_pos rfl, if_pos (by omega), hx]
  · rw [if_neg e]; exact h3 j (by omega) hj2
theorem text_nums (n c : Nat) : Bn.text n c = strOfNums ((Bn.txl n c).map fun b : UInt8 => (b.toNat : Int)) := by
  unfold Bn.text strOfNums
  rw [List.map_map]
  congr 2
  refine (List.map_id _).symm.trans (List.map_congr_left fun b _ => ?_)
  simp
theorem Tx.say {w wr : World} {n c : Nat} (h : Tx w n c 0 wr) : (convert 43 9 (.slice (some ⟨w.heap.size, 0, none⟩) c 8)).run Tryd.prog wr = .ok (.string (Bn.text n c)) wr := by
  obtain ⟨hB, cs, h1, h2, h3⟩ := h
  rw [text_nums]
  refine run_convert_bytes_arg wr _ _ Tryd.underlying43 Tryd.underlying5 _ _ _ _ _ (by rw [List.length_map, Bn.txl_len]) (fun i hi => ?_) _ Tryd.underlying9
  rw [Bk.cell h1, show 0 + i = i by omega, h3 i (by omega) hi, List.getD_eq_getElem?_getD, List.getElem?_map, Bn.txl_at c n i hi]
  rfl
theorem len8 : Tryd.prog.arrayLen 82 = 8 := by kernel_rfl
theorem one8 (w : World) : (sizeOf (Tryd.prog.elem 82)).run Tryd.prog w = .ok 1 w := by kernel_rfl
theorem und8 : Tryd.prog.underlying 82 = some (.array (Tryd.prog.arrayLen 82) (Tryd.prog.elem 82)) := by kernel_rfl
theorem part8 (g c : Nat) (w : World) (hc : c ≤ 8) : (Instr.sliceAt 82 (.pointer (some ⟨g, 0, none⟩)) none (some (.int .i64 (c : Int))) none).run Tryd.prog w = .ok (.slice (some ⟨g, 0, none⟩) c 8) w := by
  rw [run_sliceAt_array_h w _ _ und8 .i64 c (by omega) (by rw [len8]; omega), one8]
  simp only [Result.andThen, slicedAt, len8, Int.toNat_natCast, Nat.mul_one]
  rw [if_neg (by omega)]
  rfl
set_option maxRecDepth 20000 in
set_option maxHeartbeats 1000000 in
theorem btext_any (n c : Nat) (w : World) (hn : n < 4294967296) (hc : c ≤ 8) : Calls Tryd.prog 45 #[.int .u32 n, .int .i64 c] w fun e w' => e = .returned (.string (Bn.text n c)) ∧ Below w.heap.size w w' := by
  go_enter Tryd.func45, Tryd.ntmps45
  go_wp2_with fail
  go_loopw [0, 6] (fun v i wr => ∃ t : Nat, t ≤ c ∧ i = .int .i64 ((t : Int) - 1) ∧ v = .int .u32 (n / 16 ^ (c - t) : Nat) ∧ Hid (Tx w n c t wr)) (fun _ i _ => (intOf i + 1).toNat)
  case atStart => exact ⟨c, by omega, by go_num, by rw [Nat.sub_self]; simp, Lib.hid ⟨(Below.refl _ _).alloc (Nat.le_refl _) _, z8, Bk.fresh _ _ _, rfl, fun j h1 h2 => by omega⟩⟩
  case round =>
    obtain ⟨t, ht, rfl, rfl, hR⟩ := hrel
    cases t with
    | zero =>
      have hsay := hR.out.say
      have hB := Lib.hid hR.out.bel
      clear hR
      have hsl := part8 w.heap.size c wr hc
      go_wp2_with fail
      go_ret
      exact ⟨rfl, hB.out⟩
    | succ t =>
      have hx : n / 16 ^ (c - (t + 1)) < 4294967296 := Nat.lt_of_le_of_lt (Nat.div_le_self _ _) hn
      have hst := Lib.hid (show n / 16 ^ (c - t) = n / 16 ^ (c - (t + 1)) / 16 by rw [show c - t = (c - (t + 1)) + 1 by omega, Nat.pow_succ, Nat.div_div_eq_div_mul])
      have hput := Lib.hid (fun x (h : x = ((Hx.hexd (n / 16 ^ (c - (t + 1)) % 16)).toNat : Int)) => hR.out.put (t := t) (by omega) x (by rw [show c - 1 - t = c - (t + 1) by omega]; exact h))
      obtain ⟨cs, h1, h2, h3⟩ := hR.out.blk
      obtain ⟨v, hv⟩ : ∃ v, cs[t]? = some v := ⟨_, Array.getElem?_eq_getElem (by omega)⟩
      have cK : wr.cell? ⟨w.heap.size, t, none⟩ = some v := (h1.cell t).trans hv
      have fK : wr.frozen? ⟨w.heap.size, t, none⟩ = false := h1.frozen t
      clear h1 h2 h3 hv hR
      generalize n / 16 ^ (c - (t + 1)) = x at *
      have hand : bits .and .u32 (x : Int) 15 = (x : Int) % 16 := by rw [u32_and _ _ (by omega) (by omega) (by omega) (by omega)]; exact congrArg Nat.cast (nat_mask4 _)
      have hix := fun W => hexS32_at (x % 16) (by omega) ((x : Int) % 16) (by omega) W
      go_wp2_with fail
      go_roundw
      case rel => exact ⟨t, by omega, by first | go_num | (congr 1; omega), by rw [hst.out]; first | rfl | (congr 1; omega), Lib.hid (hput.out _ rfl)⟩
      case measure => simp [intOf] <;> omega
set_option maxRecDepth 20000 in
set_option maxHeartbeats 1000000 in
theorem rdigits_any (n c : Nat) (w : World) (hn : n < 18446744073709551616) (hc : c ≤ 100) : Calls Tryd.prog 47 #[.int .u64 n, .int .i64 c] w fun e w' => e = .returned (.string (Bn.text n c)) ∧ w = w' := by
  go_enter Tryd.func47, Tryd.ntmps47
  go_wp2_with fail
  go_loop [0, 5, 6] (fun v s i => ∃ t : Nat, t ≤ c ∧ i = .int .i64 t ∧ v = .int .u64 (n / 16 ^ t : Nat) ∧ s = .string (Bn.text n t)) (fun _ _ i => c - (intOf i).toNat)
  case atStart => exact ⟨0, by omega, rfl, by simp, rfl⟩
  case round =>
    obtain ⟨t, ht, rfl, rfl, rfl⟩ := hrel
    by_cases hlt : t < c
    · have hx : n / 16 ^ t < 18446744073709551616 := Nat.lt_of_le_of_lt (Nat.div_le_self _ _) hn
      have hst := Lib.hid (show n / 16 ^ (t + 1) = n / 16 ^ t / 16 by rw [Nat.pow_succ, Nat.div_div_eq_div_mul])
      have hz := Bn.text_size n t
      have hfr := Lib.hid (show Bn.text n (t + 1) = (⟨#[48, 49, 50, 51, 52, 53, 54, 55, 56, 57, 97, 98, 99, 100, 101, 102]⟩ : ByteArray).extract (n / 16 ^ t % 16) (n / 16 ^ t % 16 + 1) ++ Bn.text n t by
        rw [hexS_cut _ (Nat.mod_lt _ (by omega))]
        refine Hx.bytes_ext ?_
        rw [Bn.text_list, Bn.txl_front]
        simp [Bn.text])
      generalize n / 16 ^ t = x at *
      generalize Bn.text n t = y at *
      have k1 : ((x : Int) % 16).toNat = x % 16 := by omega
      have k2 : ((x : Int) % 16 + 1).toNat = x % 16 + 1 := by omega
      go_wp2_with fail
      go_round
      case rel => exact ⟨t + 1, by omega, by go_num, by rw [hst.out]; rfl, by rw [hfr.out]⟩
      case measure => simp [intOf]; omega
    · obtain rfl : t = c := by omega
      go_wp2_with fail
      go_ret
      exact ⟨rfl, rfl⟩
end Go.Proofs.YtflfmacfodkedaaDoor
