/-
  The closed statement HexNames, walked: it returns true.
-/
import Derived.Test.YticilkbhcejmoaaDoorHexAwake
import Derived.Test.YticilkbhcejmoaaDoorHexLaw
import Derived.Test.YticilkbhcejmoaaDoorRefHexMem
namespace Go.Proofs.YticilkbhcejmoaaDoor
open Go Go.RowKit Go.Sort

/-- A byte alone. -/
def one (i : Nat) : ByteArray := ⟨#[UInt8.ofNat i]⟩
def dgI (i : Nat) : Bool := (decide (48 ≤ i) && decide (i ≤ 57)) || (decide (97 ≤ i) && decide (i ≤ 102))
theorem one_facts (i : Nat) (h : i < 256) : Hx.num (Hx.enc (one i)) = i ∧ Hx.numE (Hx.enc (one i)) = 0 ∧ Hx.dgB (one i) 0 = dgI i ∧ Hx.isHex (one i) = dgI i ∧ Hx.digits i 2 = Hx.enc (one i) ∧ (dgI i = false → Hx.dgV (one i) 0 = 0) := by
  have : ∀ j : Fin 256, Hx.num (Hx.enc (one j)) = j.val ∧ Hx.numE (Hx.enc (one j)) = 0 ∧ Hx.dgB (one j) 0 = dgI j ∧ Hx.isHex (one j) = dgI j ∧ Hx.digits j 2 = Hx.enc (one j) ∧ (dgI j = false → Hx.dgV (one j) 0 = 0) := by decide +kernel
  exact this ⟨i, h⟩

/-- The texts that are refused in their row, and the errors. -/
def xsS (j : Nat) : ByteArray := ([⟨#[]⟩, ⟨#[102]⟩, ⟨#[102, 103]⟩, ⟨#[102, 103, 102]⟩, ⟨#[48, 65]⟩, ⟨#[32, 49]⟩, ⟨#[102, 102, 102, 102, 102, 102, 102, 102, 102, 102, 102, 102, 102, 102, 102, 102]⟩, ⟨#[48, 102, 102, 102, 102, 102, 102, 102, 102, 102, 102, 102, 102, 102, 102, 102, 102]⟩, ⟨#[48, 102, 102, 102, 102, 102, 102, 102, 102, 102, 102, 102, 102, 102, 102, 102, 102, 103]⟩] : List ByteArray).getD j ⟨#[]⟩
def xsA (j : Nat) : Int := ([0, 4, 3, 3, 3, 3, 0, 4, 3] : List Int).getD j 0
def xsB (j : Nat) : Int := ([4, 0, 3, 3, 3, 3, 0, 5, 3] : List Int).getD j 0
def xsC : Array Value := #[.string ⟨#[]⟩, .int .i64 0, .int .i64 4, .string ⟨#[102]⟩, .int .i64 4, .int .i64 0, .string ⟨#[102, 103]⟩, .int .i64 3, .int .i64 3, .string ⟨#[102, 103, 102]⟩, .int .i64 3, .int .i64 3, .string ⟨#[48, 65]⟩, .int .i64 3, .int .i64 3, .string ⟨#[32, 49]⟩, .int .i64 3, .int .i64 3, .string ⟨#[102, 102, 102, 102, 102, 102, 102, 102, 102, 102, 102, 102, 102, 102, 102, 102]⟩, .int .i64 0, .int .i64 0, .string ⟨#[48, 102, 102, 102, 102, 102, 102, 102, 102, 102, 102, 102, 102, 102, 102, 102, 102]⟩, .int .i64 4, .int .i64 5, .string ⟨#[48, 102, 102, 102, 102, 102, 102, 102, 102, 102, 102, 102, 102, 102, 102, 102, 102, 103]⟩, .int .i64 3, .int .i64 3]
theorem xsC_at (j : Nat) (h : j < 9) : xsC[j * 3]? = some (.string (xsS j)) ∧ xsC[j * 3 + 1]? = some (.int .i64 (xsA j)) ∧ xsC[j * 3 + 2]? = some (.int .i64 (xsB j)) := by
  match j, h with
  | 0, _ => exact ⟨rfl, rfl, rfl⟩
  | 1, _ => exact ⟨rfl, rfl, rfl⟩
  | 2, _ => exact ⟨rfl, rfl, rfl⟩
  | 3, _ => exact ⟨rfl, rfl, rfl⟩
  | 4, _ => exact ⟨rfl, rfl, rfl⟩
  | 5, _ => exact ⟨rfl, rfl, rfl⟩
  | 6, _ => exact ⟨rfl, rfl, rfl⟩
  | 7, _ => exact ⟨rfl, rfl, rfl⟩
  | 8, _ => exact ⟨rfl, rfl, rfl⟩
theorem xs_facts (j : Nat) (h : j < 9) : Hx.decE (xsS j) = xsA j ∧ Hx.numE (xsS j) = xsB j ∧ (xsA j ≠ 0 → Hx.dec (xsS j) = ByteArray.empty) ∧ (xsB j ≠ 0 → Hx.num (xsS j) = 0) ∧ (xsS j).size ≤ 100 := by
  have : ∀ i : Fin 9, Hx.decE (xsS i) = xsA i ∧ Hx.numE (xsS i) = xsB i ∧ (xsA i ≠ 0 → Hx.dec (xsS i) = ByteArray.empty) ∧ (xsB i ≠ 0 → Hx.num (xsS i) = 0) ∧ (xsS i).size ≤ 100 := by decide +kernel
  exact this ⟨j, h⟩

theorem names_c1 : ∀ w, Calls Tryd.prog 13 #[.string ⟨#[97]⟩, .int .i64 1] w fun e w' => e = .returned (.tuple #[.int .i64 0, .bool false]) ∧ w = w' := fun w => digit_any _ _ w (by decide)
theorem names_c2 : ∀ w, Calls Tryd.prog 13 #[.string ⟨#[97]⟩, .int .i64 (-1)] w fun e w' => e = .returned (.tuple #[.int .i64 0, .bool false]) ∧ w = w' := fun w => digit_any _ _ w (by decide)
theorem names_n : Hx.num ⟨#[102, 102, 102, 102, 102, 102, 102, 102, 102, 102, 102, 102, 102, 102, 102, 102]⟩ = 18446744073709551615 ∧ Hx.numE ⟨#[102, 102, 102, 102, 102, 102, 102, 102, 102, 102, 102, 102, 102, 102, 102, 102]⟩ = 0 := by decide +kernel
theorem names_c3 : ∀ w, Calls Tryd.prog 11 #[.string ⟨#[102, 102, 102, 102, 102, 102, 102, 102, 102, 102, 102, 102, 102, 102, 102, 102]⟩] w fun e w' => e = .returned (.tuple #[.int .u64 18446744073709551615, .int .i64 0]) ∧ w = w' := fun w => by
  have := number_any ⟨#[102, 102, 102, 102, 102, 102, 102, 102, 102, 102, 102, 102, 102, 102, 102, 102]⟩ w (by decide)
  rwa [names_n.1, names_n.2] at this
theorem names_d4 : Hx.digits 18446744073709551615 0 = ⟨#[102, 102, 102, 102, 102, 102, 102, 102, 102, 102, 102, 102, 102, 102, 102, 102]⟩ := by decide +kernel
theorem names_c4 : ∀ w, Digs w → Calls Tryd.prog 15 #[.int .u64 18446744073709551615, .int .i64 0] w fun e w' => e = .returned (.string ⟨#[102, 102, 102, 102, 102, 102, 102, 102, 102, 102, 102, 102, 102, 102, 102, 102]⟩) ∧ Below w.heap.size w w' := fun w h => by
  have := digits_any 18446744073709551615 0 w (by decide) h
  rwa [names_d4] at this
theorem names_c5 : ∀ w, Digs w → Calls Tryd.prog 15 #[.int .u64 0, .int .i64 99] w fun e w' => e = .returned (.string ⟨#[48, 48, 48, 48, 48, 48, 48, 48, 48, 48, 48, 48, 48, 48, 48, 48]⟩) ∧ Below w.heap.size w w' := fun w h => digits_any 0 99 w (by decide) h
theorem names_c6 : ∀ w, Digs w → Calls Tryd.prog 15 #[.int .u64 16, .int .i64 (-5)] w fun e w' => e = .returned (.string ⟨#[49, 48]⟩) ∧ Below w.heap.size w w' := fun w h => digits_any 16 (-5) w (by decide) h
theorem names_c7 : ∀ w, Calls Tryd.prog 14 #[.string ⟨#[]⟩] w fun e w' => e = .returned (.bool true) ∧ w = w' := fun w => is_any _ w (by decide)

set_option maxRecDepth 100000 in
set_option maxHeartbeats 4000000 in
theorem hexNames_walk (w : World) (hD : Digs w) :
    Calls Tryd.prog 3 #[] w fun e w' => e = .returned (.bool true) ∧ Below w.heap.size w w' := by
  go_enter Tryd.func3, Tryd.ntmps3
  go_wp2_with fail
  refine (awake_any _ hD).mono ?_
  rintro e w1 ⟨rfl, hb1⟩
  go_wp2_with fail
  go_loopw [1] (fun i wr => ∃ k : Nat, k ≤ 256 ∧ i = .int .i64 k ∧ Below w.heap.size w wr) (fun i _ => 256 - (intOf i).toNat)
  case atStart => exact ⟨0, Nat.zero_le _, rfl, hb1⟩
  case round =>
    clear hb1
    obtain ⟨k, hk, rfl, hb⟩ := hrel
    have hDr := hD.below hb hD.lt
    have hb' := Lib.hid hb
    clear hb
    by_cases hlt : k < 256
    · have F := Lib.hid (one_facts k hlt)
      have G := Lib.hid (Hx.dec_enc (one k))
      have g3 : (Hx.enc (one k)).size = 2 := Hx.enc_size (one k)
      have h1 : (one k).size ≤ 1000000 := by show 1 ≤ _; omega
      have h2 : (one k).size ≤ maxLen := by show 1 ≤ _; unfold maxLen; omega
      have h3 : (Hx.enc (one k)).size ≤ maxLen := by rw [g3]; unfold maxLen; omega
      have h4 : (Hx.enc (one k)).size ≤ 1000000 := by rw [g3]; omega
      have hcv : (convert 23 9 (.slice (some ⟨wr.heap.size, 0, none⟩) 1 1)).run Tryd.prog (wr.alloc (.cells #[.int .u8 (k : Int)] 5)) = .ok (.string (one k)) (wr.alloc (.cells #[.int .u8 (k : Int)] 5)) :=
        one_byte (k : Int) (wr.alloc (.cells #[.int .u8 (k : Int)] 5)) wr.heap.size (by omega) (by omega) (World.cell?_alloc_mark wr _ _ (0, 0) 0)
      go_wp2_with fail
      have hDa : Digs (wr.alloc (.cells #[.int .u8 (k : Int)] 5)) := hDr.below ((Below.refl _ _).alloc (Nat.le_refl _) _) hDr.lt
      have hba := Lib.hid (keep_trans hb'.out ((Below.refl wr.heap.size wr).alloc (Nat.le_refl _) (.cells #[.int .u8 (k : Int)] 5)))
      refine (encode_any (one k) _ h1 hDa).mono ?_
      rintro e w2 ⟨rfl, hb2⟩
      have hD2 := hDa.below hb2 hDa.lt
      have hBhb2 := Lib.hid (keep_trans hba.out hb2)
      clear hb2
      clear hDa hcv
      go_wp2_with fail
      refine (number_any (Hx.enc (one k)) _ h3).mono ?_
      rintro e _ ⟨rfl, rfl⟩
      rw [F.out.1, F.out.2.1]
      go_wp2_with fail
      refine (decode_any (Hx.enc (one k)) _ h4).mono ?_
      rintro e w3 ⟨rfl, hb3⟩
      rw [G.out.1, G.out.2]
      have hD3 := hD2.below hb3 hD2.lt
      have hBhb3 := Lib.hid (keep_trans hBhb2.out hb3)
      clear hb3
      go_wp2_with fail
      refine (digit_any (one k) 0 _ h2).mono ?_
      rintro e _ ⟨rfl, rfl⟩
      rw [F.out.2.2.1]
      have hc : (k < 48 ∧ dgI k = false) ∨ (58 ≤ k ∧ k < 97 ∧ dgI k = false) ∨ (103 ≤ k ∧ dgI k = false) ∨ (48 ≤ k ∧ k ≤ 57 ∧ dgI k = true) ∨ (97 ≤ k ∧ k ≤ 102 ∧ dgI k = true) := by
        unfold dgI
        simp only [Bool.or_eq_true, Bool.and_eq_true, decide_eq_true_eq, Bool.or_eq_false_iff, Bool.and_eq_false_iff, decide_eq_false_iff_not]
        omega
      rcases hc with ⟨i1, hz⟩ | ⟨i1, i2, hz⟩ | ⟨i1, hz⟩ | ⟨i1, i2, hz⟩ | ⟨i1, i2, hz⟩
      · rw [hz, F.out.2.2.2.2.2 hz]
        have hz2 := Lib.hid hz
        clear hz
        go_wp2_with fail
        refine (is_any (one k) _ h2).mono ?_
        rintro e _ ⟨rfl, rfl⟩
        rw [F.out.2.2.2.1, hz2.out]
        go_wp2_with fail
        refine (digits_any k 2 _ (by omega) hD3).mono ?_
        rintro e w4 ⟨rfl, hb4⟩
        rw [F.out.2.2.2.2.1]
        have hBhb4 := Lib.hid (keep_trans hBhb3.out hb4)
        clear hb4
        go_wp2_with fail
        go_roundw
        case rel => exact ⟨k + 1, by omega, by go_num, hBhb4.out⟩
        case measure => simp [intOf]; omega
      · rw [hz, F.out.2.2.2.2.2 hz]
        have hz2 := Lib.hid hz
        clear hz
        go_wp2_with fail
        refine (is_any (one k) _ h2).mono ?_
        rintro e _ ⟨rfl, rfl⟩
        rw [F.out.2.2.2.1, hz2.out]
        go_wp2_with fail
        refine (digits_any k 2 _ (by omega) hD3).mono ?_
        rintro e w4 ⟨rfl, hb4⟩
        rw [F.out.2.2.2.2.1]
        have hBhb4 := Lib.hid (keep_trans hBhb3.out hb4)
        clear hb4
        go_wp2_with fail
        go_roundw
        case rel => exact ⟨k + 1, by omega, by go_num, hBhb4.out⟩
        case measure => simp [intOf]; omega
      · rw [hz, F.out.2.2.2.2.2 hz]
        have hz2 := Lib.hid hz
        clear hz
        go_wp2_with fail
        refine (is_any (one k) _ h2).mono ?_
        rintro e _ ⟨rfl, rfl⟩
        rw [F.out.2.2.2.1, hz2.out]
        go_wp2_with fail
        refine (digits_any k 2 _ (by omega) hD3).mono ?_
        rintro e w4 ⟨rfl, hb4⟩
        rw [F.out.2.2.2.2.1]
        have hBhb4 := Lib.hid (keep_trans hBhb3.out hb4)
        clear hb4
        go_wp2_with fail
        go_roundw
        case rel => exact ⟨k + 1, by omega, by go_num, hBhb4.out⟩
        case measure => simp [intOf]; omega
      · rw [hz]
        have hz2 := Lib.hid hz
        clear hz
        go_wp2_with fail
        refine (is_any (one k) _ h2).mono ?_
        rintro e _ ⟨rfl, rfl⟩
        rw [F.out.2.2.2.1, hz2.out]
        go_wp2_with fail
        refine (digits_any k 2 _ (by omega) hD3).mono ?_
        rintro e w4 ⟨rfl, hb4⟩
        rw [F.out.2.2.2.2.1]
        have hBhb4 := Lib.hid (keep_trans hBhb3.out hb4)
        clear hb4
        go_wp2_with fail
        go_roundw
        case rel => exact ⟨k + 1, by omega, by go_num, hBhb4.out⟩
        case measure => simp [intOf]; omega
      · rw [hz]
        have d1 : decide ((k : Int) ≤ 57) = false := decide_eq_false (by omega)
        have d2 : decide ((k : Int) ≤ 102) = true := decide_eq_true (by omega)
        have hz2 := Lib.hid hz
        clear hz
        go_wp2_with fail
        refine (is_any (one k) _ h2).mono ?_
        rintro e _ ⟨rfl, rfl⟩
        rw [F.out.2.2.2.1, hz2.out]
        go_wp2_with fail
        refine (digits_any k 2 _ (by omega) hD3).mono ?_
        rintro e w4 ⟨rfl, hb4⟩
        rw [F.out.2.2.2.2.1]
        have hBhb4 := Lib.hid (keep_trans hBhb3.out hb4)
        clear hb4
        go_wp2_with fail
        go_roundw
        case rel => exact ⟨k + 1, by omega, by go_num, hBhb4.out⟩
        case measure => simp [intOf]; omega
    · clear hDr
      go_wp2_with fail
      go_loopw [123] (fun i wx => ∃ j : Nat, j ≤ 9 ∧ i = .int .i64 j ∧ Blk wx wr.heap.size 35 xsC ∧ wr.heap.size < wx.heap.size ∧ Below w.heap.size w wx) (fun i _ => 9 - (intOf i).toNat)
      case atStart => exact ⟨0, by omega, rfl, heap_alloc_new wr _, by simp, hb'.out.alloc hb'.out.size _⟩
      case round =>
        obtain ⟨wo, rfl⟩ : ∃ wo : World, wo = wr := ⟨_, rfl⟩
        obtain ⟨j, hj, rfl, hblk, hlt2, hbx⟩ := hrel
        have hDx := hD.below hbx hD.lt
        by_cases hj9 : j < 9
        · have hblk' := Lib.hid hblk
          have hbx' := Lib.hid hbx
          obtain ⟨x1, x2, x3⟩ := xsC_at j hj9
          have y1 := (hblk.cell (j * 3)).trans x1
          have y2 := (hblk.cell (j * 3 + 1)).trans x2
          have y3 := (hblk.cell (j * 3 + 2)).trans x3
          have X := Lib.hid (xs_facts j hj9)
          clear x1 x2 x3 hblk hbx hDx
          go_wp2_with fail
          refine (decode_any (xsS j) _ (Nat.le_trans X.out.2.2.2.2 (by omega))).mono ?_
          rintro e w5 ⟨rfl, hb5⟩
          rw [X.out.1]
          have z1 : w5.cell? ⟨wo.heap.size, 0, none⟩ = some (.string (xsS j)) := (hb5.cell (p := ⟨wo.heap.size, 0, none⟩) (by simp)).trans (World.cell?_alloc_mark wo _ _ (0, 0) 0)
          have z2 : w5.cell? ⟨wo.heap.size, 1, none⟩ = some (.int .i64 (xsA j)) := (hb5.cell (p := ⟨wo.heap.size, 1, none⟩) (by simp)).trans (World.cell?_alloc_mark wo _ _ (0, 0) 1)
          have z3 : w5.cell? ⟨wo.heap.size, 2, none⟩ = some (.int .i64 (xsB j)) := (hb5.cell (p := ⟨wo.heap.size, 2, none⟩) (by simp)).trans (World.cell?_alloc_mark wo _ _ (0, 0) 2)
          have hb6 := (Below.refl wo.heap.size wo).alloc (Nat.le_refl _) (.cells #[.string (xsS j), .int .i64 (xsA j), .int .i64 (xsB j)] 35)
          have hb7 := keep_trans hb6 hb5
          have hlt3 := Lib.hid (Nat.lt_of_lt_of_le hlt2 hb7.size)
          have hblk2 : Hid (Blk w5 _ 35 xsC) := (hb7.block _ hlt2).trans hblk'.out
          have hb8 := Lib.hid (hbx'.out.trans (hb7.mono hbx'.out.size))
          clear hb5 hb6 hb7 hlt2 hblk' y1 y2 y3
          have hab : (xsA j = 0 ∨ xsA j ≠ 0) ∧ (xsB j = 0 ∨ xsB j ≠ 0) := ⟨Decidable.em _, Decidable.em _⟩
          rcases hab with ⟨ha | ha, hb | hb⟩
          · have a1 : (xsA j != 0) = false := by rw [ha]; rfl
            have b1 : (xsB j != 0) = false := by rw [hb]; rfl
            clear ha hb
            go_wp2_with fail
            refine (number_any (xsS j) _ (Nat.le_trans X.out.2.2.2.2 (by unfold maxLen; omega))).mono ?_
            rintro e _ ⟨rfl, rfl⟩
            rw [X.out.2.1]
            go_wp2_with fail
            go_roundw
            case rel => exact ⟨j + 1, by omega, by go_num, hblk2.out, hlt3.out, hb8.out⟩
            case measure => simp [intOf]; omega
          · have a1 : (xsA j != 0) = false := by rw [ha]; rfl
            have b1 : (xsB j != 0) = true := by rw [bne_iff_ne]; exact hb
            have c2 := X.out.2.2.2.1 hb
            clear ha hb
            go_wp2_with fail
            refine (number_any (xsS j) _ (Nat.le_trans X.out.2.2.2.2 (by unfold maxLen; omega))).mono ?_
            rintro e _ ⟨rfl, rfl⟩
            rw [X.out.2.1, c2]
            go_wp2_with fail
            go_roundw
            case rel => exact ⟨j + 1, by omega, by go_num, hblk2.out, hlt3.out, hb8.out⟩
            case measure => simp [intOf]; omega
          · have a1 : (xsA j != 0) = true := by rw [bne_iff_ne]; exact ha
            have b1 : (xsB j != 0) = false := by rw [hb]; rfl
            have c1 := X.out.2.2.1 ha
            rw [c1]
            clear ha hb
            go_wp2_with fail
            refine (number_any (xsS j) _ (Nat.le_trans X.out.2.2.2.2 (by unfold maxLen; omega))).mono ?_
            rintro e _ ⟨rfl, rfl⟩
            rw [X.out.2.1]
            go_wp2_with fail
            go_roundw
            case rel => exact ⟨j + 1, by omega, by go_num, hblk2.out, hlt3.out, hb8.out⟩
            case measure => simp [intOf]; omega
          · have a1 : (xsA j != 0) = true := by rw [bne_iff_ne]; exact ha
            have b1 : (xsB j != 0) = true := by rw [bne_iff_ne]; exact hb
            have c1 := X.out.2.2.1 ha
            have c2 := X.out.2.2.2.1 hb
            rw [c1]
            clear ha hb
            go_wp2_with fail
            refine (number_any (xsS j) _ (Nat.le_trans X.out.2.2.2.2 (by unfold maxLen; omega))).mono ?_
            rintro e _ ⟨rfl, rfl⟩
            rw [X.out.2.1, c2]
            go_wp2_with fail
            go_roundw
            case rel => exact ⟨j + 1, by omega, by go_num, hblk2.out, hlt3.out, hb8.out⟩
            case measure => simp [intOf]; omega
        · clear hblk
          have hbx' := Lib.hid hbx
          clear hbx
          go_wp2_with fail
          refine (names_c1 _).mono ?_
          rintro e _ ⟨rfl, rfl⟩
          go_wp2_with fail
          refine (names_c2 _).mono ?_
          rintro e _ ⟨rfl, rfl⟩
          go_wp2_with fail
          refine (names_c3 _).mono ?_
          rintro e _ ⟨rfl, rfl⟩
          go_wp2_with fail
          refine (names_c4 _ hDx).mono ?_
          rintro e w6 ⟨rfl, hb6⟩
          have hD6 := hDx.below hb6 hDx.lt
          have hb6' := Lib.hid (hbx'.out.trans (hb6.mono hbx'.out.size))
          clear hb6
          go_wp2_with fail
          refine (names_c5 _ hD6).mono ?_
          rintro e w7 ⟨rfl, hb7⟩
          have hD7 := hD6.below hb7 hD6.lt
          have hb7' := Lib.hid (keep_trans hb6'.out hb7)
          clear hb7
          go_wp2_with fail
          refine (names_c6 _ hD7).mono ?_
          rintro e w8 ⟨rfl, hb8⟩
          have hb8' := Lib.hid (keep_trans hb7'.out hb8)
          clear hb8
          go_wp2_with fail
          refine (names_c7 _).mono ?_
          rintro e _ ⟨rfl, rfl⟩
          go_wp2_with fail
          go_ret
          exact ⟨rfl, hb8'.out⟩
end Go.Proofs.YticilkbhcejmoaaDoor
