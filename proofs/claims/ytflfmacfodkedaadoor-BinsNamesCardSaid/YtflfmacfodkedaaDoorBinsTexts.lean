/-
  The walk of texts: two new rows of the same strings.
-/
import Derived.Test.YtflfmacfodkedaaDoorBinsLaws2
namespace Go.Proofs.YtflfmacfodkedaaDoor
set_option linter.unusedSimpArgs false
set_option linter.unusedVariables false
open Go Go.RowKit

theorem byt_front (s : ByteArray) (n : Nat) : byt (s.extract 0 n) = (byt s).take n := by
  unfold byt
  rw [Lib.extract_data, List.drop_zero, Nat.sub_zero, List.map_take]
theorem join_front (p t : ByteArray) : (p ++ ⟨#[45]⟩ ++ t).extract 0 p.size = p := byt_inj (by
  rw [byt_front, cat_byt, cat_byt, List.append_assoc, List.take_left' (byt_len p)])
theorem join_back (p t : ByteArray) : (p ++ ⟨#[45]⟩ ++ t).extract (p.size + 1) (p ++ ⟨#[45]⟩ ++ t).size = t := byt_inj (by
  have h1 : byt ⟨#[45]⟩ = [45] := rfl
  rw [byt_extract, cat_byt, cat_byt, List.drop_left' (by rw [List.length_append, byt_len, h1]; rfl)])
theorem join_mid (p t : ByteArray) (h : p.size < (p ++ ⟨#[45]⟩ ++ t).size) : (p ++ ⟨#[45]⟩ ++ t)[p.size].toNat = 45 := by
  have h1 : byt ⟨#[45]⟩ = [45] := rfl
  rw [byt_getElem _ _ h, cat_byt, cat_byt, h1, List.append_assoc, List.getD_eq_getElem?_getD, List.getElem?_append_right (by rw [byt_len]; exact Nat.le_refl _), byt_len, Nat.sub_self]
  rfl
theorem join_size (p t : ByteArray) : (p ++ ⟨#[45]⟩ ++ t).size = p.size + 1 + t.size := by rw [ByteArray.size_append, ByteArray.size_append]; rfl
theorem join_inj {p t u : ByteArray} (h : p ++ ⟨#[45]⟩ ++ t = p ++ ⟨#[45]⟩ ++ u) : t = u := by rw [← join_back p t, ← join_back p u, h]
theorem texts_nil (A : Option Addr) (c : Nat) (A2 : Option Addr) (c2 : Nat) (w : World) : Calls Tryd.prog 24 #[.slice A 0 c, .slice A2 0 c2] w fun e w' => e = .returned (.bool true) ∧ w = w' := by
  go_enter Tryd.func24, Tryd.ntmps24
  go_wp2_with fail
  go_loopw [5] (fun i wr => i = .int .i64 0 ∧ wr = w) (fun _ _ => 0)
  case atStart => exact ⟨rfl, rfl⟩
  case round =>
    obtain ⟨rfl, rfl⟩ := hrel
    go_wp2_with fail
    go_ret
    exact ⟨rfl, rfl⟩
/-- The row's strings from i on are as they were. -/
structure Tq (B : Nat) (w : World) (g g2 : Nat) (L : List ByteArray) (i : Nat) (wr : World) : Prop where
  bel : Below B w wr
  one : ∃ M, Rw wr g M ∧ M.length = L.length ∧ ∀ j, i ≤ j → M.getD j ByteArray.empty = L.getD j ByteArray.empty
  two : Rw wr g2 L
theorem Tq.put {B : Nat} {w wr : World} {g g2 : Nat} {L : List ByteArray} {i : Nat} (h : Tq B w g g2 L i wr) (hB : B ≤ g) (hne : g2 ≠ g) (hi : i < L.length) (n : Nat) (x : ByteArray) : Tq B w g g2 L (i + 1) ((wr.drewN n).setCell ⟨g, i, none⟩ (.string x)) := by
  obtain ⟨hb, ⟨M, h1, h2, h3⟩, h4⟩ := h
  refine ⟨(below_drawn hb n).setCell hB _, ⟨M.set i x, (h1.drawn n).put i (by omega) x, by rw [List.length_set]; exact h2, fun j hj => ?_⟩, ?_⟩
  · rw [List.getD_eq_getElem?_getD, List.getElem?_set_ne (by omega), ← List.getD_eq_getElem?_getD]
    exact h3 j (by omega)
  · obtain ⟨cur, k1, k2⟩ := h4
    have hg : (wr.drewN n).grownBy ((wr.drewN n).setCell ⟨g, i, none⟩ (.string x)) (some g) := one_put (one_refl _ _) i _
    exact ⟨cur, Bk.grow (Bk.drawn k1 n) hg (fun e => hne (Option.some.inj e)), k2⟩
set_option maxRecDepth 20000 in
set_option maxHeartbeats 1000000 in
theorem texts_any (B g cap g2 cap2 : Nat) (L : List ByteArray) (w : World) (hR : Rw w g L) (hR2 : Rw w g2 L) (hne : g2 ≠ g) (hB : B ≤ g) (hl : L.length ≤ 1000) : Calls Tryd.prog 24 #[.slice (some ⟨g, 0, none⟩) L.length cap, .slice (some ⟨g2, 0, none⟩) L.length cap2] w fun e w' => e = .returned (.bool true) ∧ Below B w w' := by
  have H0 : Hid (Tq B w g g2 L 0 w) := ⟨⟨rfl, rfl, rfl, Nat.le_refl _, fun _ _ => rfl⟩, ⟨L, hR, rfl, fun _ _ => rfl⟩, hR2⟩
  clear hR hR2
  obtain ⟨n, hn⟩ : ∃ n, n = L.length := ⟨_, rfl⟩
  rw [← hn] at hl ⊢
  have HN := Lib.hid hn
  clear hn
  go_enter Tryd.func24, Tryd.ntmps24
  go_wp2_with fail
  go_loopw [5] (fun i wr => ∃ k : Nat, k ≤ n ∧ i = .int .i64 k ∧ Hid (Tq B w g g2 L k wr)) (fun i _ => n - (intOf i).toNat)
  case atStart => exact ⟨0, by omega, rfl, H0⟩
  case round =>
    clear H0
    obtain ⟨k, hk, rfl, hR⟩ := hrel
    by_cases hlt : k < n
    · have hkL : k < L.length := by rw [← HN.out]; exact hlt
      obtain ⟨M, m1, m2, m3⟩ := hR.out.one
      have c1 : wr.cell? ⟨g, k, none⟩ = some (.string (L.getD k ByteArray.empty)) := (m1.cell k (by omega)).trans (by rw [m3 k (Nat.le_refl _)])
      have c2 : wr.cell? ⟨g2, k, none⟩ = some (.string (L.getD k ByteArray.empty)) := hR.out.two.cell k hkL
      have f1 : wr.frozen? ⟨g, k, none⟩ = false := m1.frozen k
      clear m1 m2 m3
      generalize L.getD k ByteArray.empty = x at *
      have hxx : (x.toList != x.toList) = false := bne_self_eq_false _
      go_wp2_with fail
      go_quiet (fail)
      have hQ := Lib.hid (hR.out.put hB hne hkL nq ⟨#[115, 112, 111, 105, 108, 116]⟩)
      go_wp2_with fail
      go_roundw
      case rel => exact ⟨k + 1, by omega, by go_num, hQ⟩
      case measure => simp [intOf]; omega
    · have hB2 := Lib.hid hR.out.bel
      go_wp2_with fail
      go_ret
      exact ⟨rfl, hB2.out⟩
/-- Two new rows of the same strings. -/
theorem texts_both {B : Nat} {L : List ByteArray} {v u : Value} {w1 w : World} (h1 : w.ownsRow B 9 1 v L.length (strsL L)) (h2 : w.ownsRow w1.heap.size 9 1 u L.length (strsL L)) (hv : ∀ g, v.ownBlock = some g → g < w1.heap.size) (hl : L.length ≤ 1000) :
    Calls Tryd.prog 24 #[v, u] w fun e w' => e = .returned (.bool true) ∧ Below B w w' := by
  cases L with
  | nil =>
    obtain ⟨A, c, rfl⟩ := row_nil h1 rfl
    obtain ⟨A2, c2, rfl⟩ := row_nil h2 rfl
    exact (texts_nil A c A2 c2 w).mono fun e w' h => ⟨h.1, by rw [← h.2]; exact ⟨rfl, rfl, rfl, Nat.le_refl _, fun _ _ => rfl⟩⟩
  | cons x r =>
    obtain ⟨g, cap, rfl, hg, hR⟩ := row_form h1 rfl (by simp)
    obtain ⟨g2, cap2, rfl, hg2, hR2⟩ := row_form h2 rfl (by simp)
    exact texts_any B g cap g2 cap2 (x :: r) w hR hR2 (by have := hv g rfl; omega) hg hl
theorem prefL_len (b : Int) (n : Nat) : (Bn.prefL b n).length ≤ 8 := by
  unfold Bn.prefL
  split
  · rename_i h
    unfold Bn.hasB at h
    rw [Bool.and_eq_true] at h
    obtain ⟨k, rfl, h1, h2⟩ := Bn.may_nat h.1
    rw [Bn.prefs_len]
    exact Nat.pow_le_pow_right (by omega) (show Bn.spare k ≤ 3 from (Bn.wid_le h1 h2).2.2.1)
  · exact Nat.zero_le _

end Go.Proofs.YtflfmacfodkedaaDoor
