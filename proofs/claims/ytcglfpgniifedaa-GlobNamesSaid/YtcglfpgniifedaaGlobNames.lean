/-
  The closed statement GlobNames, walked: it returns true.
-/
import Derived.Test.YtcglfpgniifedaaGlobLaws2
namespace Go.Proofs.Ytcglfpgniifedaa
set_option linter.unusedSimpArgs false
set_option linter.unusedVariables false
open Go Go.RowKit

/-- So many a. -/
def as_ (n : Nat) : ByteArray := ⟨(List.replicate n 97).toArray⟩
theorem as_size (n : Nat) : (as_ n).size = n := by
  show (List.replicate n 97).toArray.size = n
  rw [List.size_toArray, List.length_replicate]
theorem as_app (n m : Nat) : as_ n ++ as_ m = as_ (n + m) := by
  apply ByteArray.ext
  rw [ByteArray.data_append]
  unfold as_
  simp [List.replicate_append_replicate]
theorem as_facts : Gl.mt ⟨#[42]⟩ (as_ 256) = true ∧ Gl.mt (as_ 256) (as_ 256) = true ∧ Gl.mt ⟨#[42]⟩ (as_ 256 ++ ⟨#[97]⟩) = false ∧ Gl.mt (as_ 256 ++ ⟨#[42]⟩) (as_ 256) = false := by decide +kernel
theorem gnames_f0 (w : World) : Calls Try.prog 14 #[.slice none 0 0, .string ⟨#[97]⟩] w fun e w' => e = .returned (.tuple #[.int .i64 0, .bool false]) ∧ Below w.heap.size w w' := by
  have := first_any [] none 0 ⟨#[97]⟩ w (fun i hi => absurd hi (by simp)) (by simp) (by decide) (by decide)
  rwa [show Gl.fstN ⟨#[97]⟩ [] = 0 by decide +kernel, show Gl.fstB ⟨#[97]⟩ [] = false by decide +kernel] at this
theorem gnames_f1 (g : Nat) (w : World) (h : Bk w g 9 (([⟨#[]⟩, ⟨#[98]⟩, ⟨#[42]⟩, ⟨#[97]⟩] : List ByteArray).map Value.string).toArray) : Calls Try.prog 14 #[.slice (some ⟨g, 0, none⟩) 4 4, .string ⟨#[97]⟩] w fun e w' => e = .returned (.tuple #[.int .i64 2, .bool true]) ∧ Below w.heap.size w w' := by
  have := first_any ([⟨#[]⟩, ⟨#[98]⟩, ⟨#[42]⟩, ⟨#[97]⟩] : List ByteArray) (some ⟨g, 0, none⟩) 4 ⟨#[97]⟩ w (lit_cells _ _ h) (by decide) (by decide) (by decide)
  rwa [show Gl.fstN ⟨#[97]⟩ ([⟨#[]⟩, ⟨#[98]⟩, ⟨#[42]⟩, ⟨#[97]⟩] : List ByteArray) = 2 by decide +kernel, show Gl.fstB ⟨#[97]⟩ ([⟨#[]⟩, ⟨#[98]⟩, ⟨#[42]⟩, ⟨#[97]⟩] : List ByteArray) = true by decide +kernel] at this
def g1a (j : Nat) : ByteArray := ([⟨#[97, 47, 42, 46, 116, 120, 116]⟩, ⟨#[42]⟩, ⟨#[42]⟩, ⟨#[63]⟩, ⟨#[63, 63]⟩, ⟨#[63, 63]⟩, ⟨#[42, 195, 182]⟩, ⟨#[42, 97, 42, 98]⟩, ⟨#[42, 97, 42, 98]⟩, ⟨#[97, 63, 99]⟩, ⟨#[42, 42]⟩, ⟨#[97, 42]⟩, ⟨#[42, 47, 42, 47, 99]⟩, ⟨#[42, 97, 97, 98]⟩, ⟨#[97, 42, 98, 42, 99]⟩, ⟨#[42, 63]⟩, ⟨#[97, 47]⟩, ⟨#[42, 47]⟩] : List ByteArray).getD j ⟨#[]⟩
def g1b (j : Nat) : ByteArray := ([⟨#[97, 47, 46, 116, 120, 116]⟩, ⟨#[97]⟩, ⟨#[42]⟩, ⟨#[63]⟩, ⟨#[97, 98]⟩, ⟨#[195, 164, 195, 182]⟩, ⟨#[195, 164, 195, 182]⟩, ⟨#[97, 97, 98]⟩, ⟨#[97, 98]⟩, ⟨#[97, 63, 99]⟩, ⟨#[97]⟩, ⟨#[97]⟩, ⟨#[97, 47, 47, 99]⟩, ⟨#[97, 97, 97, 97, 98]⟩, ⟨#[97, 98, 98, 98, 99, 98, 99]⟩, ⟨#[97, 98]⟩, ⟨#[97, 47]⟩, ⟨#[97, 47]⟩] : List ByteArray).getD j ⟨#[]⟩
def g1C : Array Value := #[.string ⟨#[97, 47, 42, 46, 116, 120, 116]⟩, .string ⟨#[97, 47, 46, 116, 120, 116]⟩, .string ⟨#[42]⟩, .string ⟨#[97]⟩, .string ⟨#[42]⟩, .string ⟨#[42]⟩, .string ⟨#[63]⟩, .string ⟨#[63]⟩, .string ⟨#[63, 63]⟩, .string ⟨#[97, 98]⟩, .string ⟨#[63, 63]⟩, .string ⟨#[195, 164, 195, 182]⟩, .string ⟨#[42, 195, 182]⟩, .string ⟨#[195, 164, 195, 182]⟩, .string ⟨#[42, 97, 42, 98]⟩, .string ⟨#[97, 97, 98]⟩, .string ⟨#[42, 97, 42, 98]⟩, .string ⟨#[97, 98]⟩, .string ⟨#[97, 63, 99]⟩, .string ⟨#[97, 63, 99]⟩, .string ⟨#[42, 42]⟩, .string ⟨#[97]⟩, .string ⟨#[97, 42]⟩, .string ⟨#[97]⟩, .string ⟨#[42, 47, 42, 47, 99]⟩, .string ⟨#[97, 47, 47, 99]⟩, .string ⟨#[42, 97, 97, 98]⟩, .string ⟨#[97, 97, 97, 97, 98]⟩, .string ⟨#[97, 42, 98, 42, 99]⟩, .string ⟨#[97, 98, 98, 98, 99, 98, 99]⟩, .string ⟨#[42, 63]⟩, .string ⟨#[97, 98]⟩, .string ⟨#[97, 47]⟩, .string ⟨#[97, 47]⟩, .string ⟨#[42, 47]⟩, .string ⟨#[97, 47]⟩]
theorem g1_at (j : Nat) (h : j < 18) : g1C[j * 2]? = some (.string (g1a j)) ∧ g1C[j * 2 + 1]? = some (.string (g1b j)) := by
  match j, h with
  | 0, _ => exact ⟨rfl, rfl⟩
  | 1, _ => exact ⟨rfl, rfl⟩
  | 2, _ => exact ⟨rfl, rfl⟩
  | 3, _ => exact ⟨rfl, rfl⟩
  | 4, _ => exact ⟨rfl, rfl⟩
  | 5, _ => exact ⟨rfl, rfl⟩
  | 6, _ => exact ⟨rfl, rfl⟩
  | 7, _ => exact ⟨rfl, rfl⟩
  | 8, _ => exact ⟨rfl, rfl⟩
  | 9, _ => exact ⟨rfl, rfl⟩
  | 10, _ => exact ⟨rfl, rfl⟩
  | 11, _ => exact ⟨rfl, rfl⟩
  | 12, _ => exact ⟨rfl, rfl⟩
  | 13, _ => exact ⟨rfl, rfl⟩
  | 14, _ => exact ⟨rfl, rfl⟩
  | 15, _ => exact ⟨rfl, rfl⟩
  | 16, _ => exact ⟨rfl, rfl⟩
  | 17, _ => exact ⟨rfl, rfl⟩
  | j + 18, h => exact absurd h (by omega)
theorem g1_facts (j : Nat) (h : j < 18) : Gl.mt (g1a j) (g1b j) = true ∧ (g1a j).size ≤ 300 ∧ (g1b j).size ≤ 300 := by
  have : ∀ i : Fin 18, Gl.mt (g1a i) (g1b i) = true ∧ (g1a i).size ≤ 300 ∧ (g1b i).size ≤ 300 := by decide +kernel
  exact this ⟨j, h⟩
def g2a (j : Nat) : ByteArray := ([⟨#[97, 47, 42, 46, 116, 120, 116]⟩, ⟨#[42]⟩, ⟨#[63, 63]⟩, ⟨#[63, 63]⟩, ⟨#[63]⟩, ⟨#[42, 97, 42, 98]⟩, ⟨#[97, 42, 98, 42, 99]⟩, ⟨#[97, 63, 98]⟩, ⟨#[97, 42, 98]⟩, ⟨#[42, 47, 42]⟩, ⟨#[42, 47, 42]⟩, ⟨#[97]⟩, ⟨#[]⟩, ⟨#[42]⟩, ⟨#[]⟩, ⟨#[47, 97]⟩, ⟨#[42]⟩, ⟨#[42]⟩, ⟨#[255]⟩, ⟨#[97, 255, 42]⟩] : List ByteArray).getD j ⟨#[]⟩
def g2b (j : Nat) : ByteArray := ([⟨#[97, 47, 98, 46, 116, 120, 116, 120]⟩, ⟨#[97, 47, 98]⟩, ⟨#[97]⟩, ⟨#[97, 98, 99]⟩, ⟨#[195, 164, 195, 182]⟩, ⟨#[98, 97]⟩, ⟨#[97, 99, 98]⟩, ⟨#[97, 47, 98]⟩, ⟨#[97, 47, 98]⟩, ⟨#[97]⟩, ⟨#[97, 47, 98, 47, 99]⟩, ⟨#[65]⟩, ⟨#[]⟩, ⟨#[]⟩, ⟨#[97]⟩, ⟨#[47, 97]⟩, ⟨#[47, 97]⟩, ⟨#[255]⟩, ⟨#[255]⟩, ⟨#[97]⟩] : List ByteArray).getD j ⟨#[]⟩
def g2C : Array Value := #[.string ⟨#[97, 47, 42, 46, 116, 120, 116]⟩, .string ⟨#[97, 47, 98, 46, 116, 120, 116, 120]⟩, .string ⟨#[42]⟩, .string ⟨#[97, 47, 98]⟩, .string ⟨#[63, 63]⟩, .string ⟨#[97]⟩, .string ⟨#[63, 63]⟩, .string ⟨#[97, 98, 99]⟩, .string ⟨#[63]⟩, .string ⟨#[195, 164, 195, 182]⟩, .string ⟨#[42, 97, 42, 98]⟩, .string ⟨#[98, 97]⟩, .string ⟨#[97, 42, 98, 42, 99]⟩, .string ⟨#[97, 99, 98]⟩, .string ⟨#[97, 63, 98]⟩, .string ⟨#[97, 47, 98]⟩, .string ⟨#[97, 42, 98]⟩, .string ⟨#[97, 47, 98]⟩, .string ⟨#[42, 47, 42]⟩, .string ⟨#[97]⟩, .string ⟨#[42, 47, 42]⟩, .string ⟨#[97, 47, 98, 47, 99]⟩, .string ⟨#[97]⟩, .string ⟨#[65]⟩, .string ⟨#[]⟩, .string ⟨#[]⟩, .string ⟨#[42]⟩, .string ⟨#[]⟩, .string ⟨#[]⟩, .string ⟨#[97]⟩, .string ⟨#[47, 97]⟩, .string ⟨#[47, 97]⟩, .string ⟨#[42]⟩, .string ⟨#[47, 97]⟩, .string ⟨#[42]⟩, .string ⟨#[255]⟩, .string ⟨#[255]⟩, .string ⟨#[255]⟩, .string ⟨#[97, 255, 42]⟩, .string ⟨#[97]⟩]
theorem g2_at (j : Nat) (h : j < 20) : g2C[j * 2]? = some (.string (g2a j)) ∧ g2C[j * 2 + 1]? = some (.string (g2b j)) := by
  match j, h with
  | 0, _ => exact ⟨rfl, rfl⟩
  | 1, _ => exact ⟨rfl, rfl⟩
  | 2, _ => exact ⟨rfl, rfl⟩
  | 3, _ => exact ⟨rfl, rfl⟩
  | 4, _ => exact ⟨rfl, rfl⟩
  | 5, _ => exact ⟨rfl, rfl⟩
  | 6, _ => exact ⟨rfl, rfl⟩
  | 7, _ => exact ⟨rfl, rfl⟩
  | 8, _ => exact ⟨rfl, rfl⟩
  | 9, _ => exact ⟨rfl, rfl⟩
  | 10, _ => exact ⟨rfl, rfl⟩
  | 11, _ => exact ⟨rfl, rfl⟩
  | 12, _ => exact ⟨rfl, rfl⟩
  | 13, _ => exact ⟨rfl, rfl⟩
  | 14, _ => exact ⟨rfl, rfl⟩
  | 15, _ => exact ⟨rfl, rfl⟩
  | 16, _ => exact ⟨rfl, rfl⟩
  | 17, _ => exact ⟨rfl, rfl⟩
  | 18, _ => exact ⟨rfl, rfl⟩
  | 19, _ => exact ⟨rfl, rfl⟩
  | j + 20, h => exact absurd h (by omega)
theorem g2_facts (j : Nat) (h : j < 20) : Gl.mt (g2a j) (g2b j) = false ∧ (g2a j).size ≤ 300 ∧ (g2b j).size ≤ 300 := by
  have : ∀ i : Fin 20, Gl.mt (g2a i) (g2b i) = false ∧ (g2a i).size ≤ 300 ∧ (g2b i).size ≤ 300 := by decide +kernel
  exact this ⟨j, h⟩

set_option maxRecDepth 100000 in
set_option maxHeartbeats 8000000 in
theorem globNames_walk (w : World) :
    Calls Try.prog 5 #[] w fun e w' => e = .returned (.bool true) ∧ Below w.heap.size w w' := by
  have hB : Hid (Below w.heap.size w w) := Below.refl _ _
  go_enter Try.func5, Try.ntmps5
  go_wp2_with fail
  refine (gawake_any _).mono ?_
  rintro e w1 ⟨rfl, hb1⟩
  replace hB := Lib.hid (keep_trans hB.out hb1)
  clear hb1
  obtain ⟨wo, hwo⟩ : ∃ wo : World, wo = w1 := ⟨_, rfl⟩
  subst hwo
  have hs0 := hB.out.size
  go_wp2_with fail
  go_loopw [35] (fun i wx => ∃ j : Nat, j ≤ 18 ∧ i = .int .i64 j ∧ Hid (Bk wx wo.heap.size 28 g1C) ∧ Hid (Below w.heap.size w wx)) (fun i _ => 18 - (intOf i).toNat)
  case atStart => exact ⟨0, Nat.zero_le _, rfl, heap_alloc_new wo _, hB.out.alloc hs0 _⟩
  case round =>
    clear hB hs0
    obtain ⟨j, hj, rfl, hblk, hB⟩ := hrel
    by_cases hj9 : j < 18
    · have y := g1_at j hj9
      have F := g1_facts j hj9
      have y1 := (hblk.out.cell (j * 2)).trans y.1
      have y2 := (hblk.out.cell (j * 2 + 1)).trans y.2
      have C := Lib.hid (gm_says F.1 (Nat.le_trans F.2.1 (by decide)) (Nat.le_trans F.2.2 (by decide)))
      have hl := hblk.out.lt
      have hbw := hB.out.size
      clear y F
      generalize g1a j = x at *
      generalize g1b j = y at *
      go_wp2_with fail
      refine (C.out _).mono ?_
      rintro e w2 ⟨rfl, hb2⟩
      have hK : Hid (Bk w2 wo.heap.size 28 g1C) := (hblk.out.grow (World.grownBy_alloc _ _ none) (by simp)).below hb2 (by simp; omega)
      have hB2 : Hid (Below w.heap.size w w2) := (hB.out.alloc hbw _).trans (hb2.mono (by simp; omega))
      clear hb2 y1 y2
      go_wp2_with fail
      go_roundw
      case rel => first | exact ⟨j + 1, by omega, by go_num, hK, hB2⟩ | ((repeat apply Exists.intro); exact ⟨⟨j + 1, by omega, by go_num, hK, hB2⟩, rfl⟩)
      case measure => simp [intOf]; omega
    · obtain rfl : j = 18 := by omega
      clear hblk hj hj9
      obtain ⟨wo, hwo⟩ : ∃ wo : World, wo = wr := ⟨_, rfl⟩
      subst hwo
      have hs0 := hB.out.size
      go_wp2_with fail
      go_loopw [68] (fun i wx => ∃ j : Nat, j ≤ 20 ∧ i = .int .i64 j ∧ Hid (Bk wx wo.heap.size 28 g2C) ∧ Hid (Below w.heap.size w wx)) (fun i _ => 20 - (intOf i).toNat)
      case atStart => exact ⟨0, Nat.zero_le _, rfl, heap_alloc_new wo _, hB.out.alloc hs0 _⟩
      case round =>
        clear hB hs0
        obtain ⟨j, hj, rfl, hblk, hB⟩ := hrel
        by_cases hj9 : j < 20
        · have y := g2_at j hj9
          have F := g2_facts j hj9
          have y1 := (hblk.out.cell (j * 2)).trans y.1
          have y2 := (hblk.out.cell (j * 2 + 1)).trans y.2
          have C := Lib.hid (gm_says F.1 (Nat.le_trans F.2.1 (by decide)) (Nat.le_trans F.2.2 (by decide)))
          have hl := hblk.out.lt
          have hbw := hB.out.size
          clear y F
          generalize g2a j = x at *
          generalize g2b j = y at *
          go_wp2_with fail
          refine (C.out _).mono ?_
          rintro e w2 ⟨rfl, hb2⟩
          have hK : Hid (Bk w2 wo.heap.size 28 g2C) := (hblk.out.grow (World.grownBy_alloc _ _ none) (by simp)).below hb2 (by simp; omega)
          have hB2 : Hid (Below w.heap.size w w2) := (hB.out.alloc hbw _).trans (hb2.mono (by simp; omega))
          clear hb2 y1 y2
          go_wp2_with fail
          go_roundw
          case rel => first | exact ⟨j + 1, by omega, by go_num, hK, hB2⟩ | ((repeat apply Exists.intro); exact ⟨⟨j + 1, by omega, by go_num, hK, hB2⟩, rfl⟩)
          case measure => simp [intOf]; omega
        · obtain rfl : j = 20 := by omega
          clear hblk hj hj9
          go_wp2_with fail
          go_loop [5, 6] (fun s i => ∃ k n : Nat, k ≤ 8 ∧ i = .int .i64 k ∧ s = .string (as_ n) ∧ Hid (n = 2 ^ k) ∧ n ≤ 256) (fun _ i => 8 - (intOf i).toNat)
          case atStart => exact ⟨0, 1, by omega, rfl, rfl, rfl, by omega⟩
          case round =>
            obtain ⟨k, n, hk, rfl, rfl, hn, hn2⟩ := hrel
            have hz := as_size n
            by_cases hlt : k < 8
            · have hn3 : Hid (n + n = 2 ^ (k + 1)) := by have := hn.out; show _ = _; rw [this, Nat.pow_succ]; omega
              have hn4 : n + n ≤ 256 := by
                rw [hn3.out]
                exact Nat.le_trans (Nat.pow_le_pow_right (by omega) (show k + 1 ≤ 8 by omega)) (by decide)
              have happ := as_app n n
              go_wp2_with fail
              go_round
              case rel => exact ⟨k + 1, n + n, by omega, by go_num, rfl, hn3, hn4⟩
              case measure => simp [intOf]; omega
            · have hn5 : n = 256 := by
                have := hn.out
                rw [show k = 8 by omega] at this
                exact this
              subst hn5
              have D1 := Lib.hid (gm_says as_facts.1 (by decide) (by rw [as_size]; decide))
              have D2 := Lib.hid (gm_says as_facts.2.1 (by rw [as_size]; decide) (by rw [as_size]; decide))
              have D3 := Lib.hid (gm_says as_facts.2.2.1 (by decide) (by rw [ByteArray.size_append, as_size]; decide))
              have D4 := Lib.hid (gm_says as_facts.2.2.2 (by rw [ByteArray.size_append, as_size]; decide) (by rw [as_size]; decide))
              have hzz : (as_ 256).size ≤ 256 := by omega
              clear hz
              go_wp2_with fail
              refine (gnames_f0 _).mono ?_
              rintro e w1 ⟨rfl, hb1⟩
              replace hB := Lib.hid (keep_trans hB.out hb1)
              clear hb1
              go_wp2_with fail
              refine (gnames_f1 _ _ (Bk.fresh _ _ _)).mono ?_
              rintro e w2 ⟨rfl, hb2⟩
              replace hB := Lib.hid ((hB.out.alloc hB.out.size _).trans (hb2.mono (by have := hB.out.size; simp; omega)))
              clear hb2
              go_wp2_with fail
              refine (D1.out _).mono ?_
              rintro e w1 ⟨rfl, hb1⟩
              replace hB := Lib.hid (keep_trans hB.out hb1)
              clear hb1
              go_wp2_with fail
              refine (D2.out _).mono ?_
              rintro e w1 ⟨rfl, hb1⟩
              replace hB := Lib.hid (keep_trans hB.out hb1)
              clear hb1
              go_wp2_with fail
              refine (D3.out _).mono ?_
              rintro e w1 ⟨rfl, hb1⟩
              replace hB := Lib.hid (keep_trans hB.out hb1)
              clear hb1
              go_wp2_with fail
              refine (D4.out _).mono ?_
              rintro e w1 ⟨rfl, hb1⟩
              replace hB := Lib.hid (keep_trans hB.out hb1)
              clear hb1
              go_wp2_with fail
              go_ret
              exact ⟨rfl, hB.out⟩
end Go.Proofs.Ytcglfpgniifedaa
