/-
  The walks of the document's answer of layer 18: Is, on, Match.
-/
import Derived.Test.YtcglfpgniifedaaUtfNext
import Derived.Test.YtcglfpgniifedaaUtfFns
import Derived.Test.YtcglfpgniifedaaName
import Derived.Test.YtcglfpgniifedaaGlob2
import Derived.Test.YtcglfpgniifedaaRunes
import Derived.Test.YtcglfpgniifedaaMem
namespace Go.Proofs.Ytcglfpgniifedaa
set_option linter.unusedSimpArgs false
set_option linter.unusedVariables false
open Go Go.RowKit

theorem info_i32 : (Try.prog.info? 21).map (fun i => (i.zero, i.size, i.bytes)) = some (some (.int .i32 0), 1, 4) := by kernel_rfl
theorem info_bool : (Try.prog.info? 4).map (fun i => (i.zero, i.size, i.bytes)) = some (some (.bool false), 1, 1) := by kernel_rfl
set_option maxHeartbeats 400000 in
theorem path_any (s : ByteArray) (w : World) (hs : s.size ≤ maxLen) :
    Calls Try.prog 21 #[.string s] w fun e w' => e = .returned (.bool (Nm.path s)) ∧ Below w.heap.size w w' := by
  have hs' := hs
  unfold maxLen at hs
  by_cases h0 : s.size = 0
  · have e : Nm.path s = false := by unfold Nm.path; rw [h0]; rfl
    rw [e]
    obtain ⟨e1, e2⟩ := empty_of_size h0
    clear e
    go_enter Try.func21, Try.ntmps21
    go_wp2
    all_goals
      go_ret
      exact ⟨rfl, Below.refl _ _⟩
  have hp : 0 < s.size := by omega
  obtain ⟨e1, e2⟩ := full_of_size h0
  by_cases h1 : s.size ≤ 256
  · by_cases h2 : s[0].toNat = 47
    · have e : Nm.path s = false := by unfold Nm.path; rw [Uf.b_at s 0 hp, h2]; simp
      rw [e]
      clear e
      go_enter Try.func21, Try.ntmps21
      go_wp2
      all_goals
        go_ret
        exact ⟨rfl, Below.refl _ _⟩
    · have hr : Hid (Nm.path s = Uf.valid s) := by
        show _ = _
        unfold Nm.path
        rw [Uf.b_at s 0 hp, decide_eq_true h1, decide_eq_true (show 1 ≤ s.size by omega), beq_eq_false_iff_ne.2 h2]; rfl
      have n2 : ((s[0].toNat : Int) != 47) = true := by rw [bne_iff_ne]; omega
      have n1 : decide ((s.size : Int) ≤ 256) = true := decide_eq_true (by omega)
      go_enter Try.func21, Try.ntmps21
      go_wp2_with (go_at_call 25; refine (valid_any _ _ hs').mono ?_; rintro e w1 ⟨rfl, hb⟩)
      all_goals
        go_ret
        exact ⟨ret_b hr.out.symm, hb⟩
  · have e : Nm.path s = false := by unfold Nm.path; rw [decide_eq_false h1]; simp
    rw [e]
    clear e
    go_enter Try.func21, Try.ntmps21
    go_wp2
    all_goals
      go_ret
      exact ⟨rfl, Below.refl _ _⟩
theorem pattern_any (s : ByteArray) (w : World) (hs : s.size ≤ maxLen) :
    Calls Try.prog 20 #[.string s] w fun e w' => e = .returned (.bool (Nm.path s)) ∧ Below w.heap.size w w' := by
  go_enter Try.func20, Try.ntmps20
  go_wp2_with fail
  refine (path_any s _ hs).mono ?_
  rintro e w1 ⟨rfl, hb1⟩
  go_wp2_with fail
  go_ret
  exact ⟨rfl, hb1⟩
set_option maxHeartbeats 400000 in
theorem gis_any (s : ByteArray) (w : World) (hs : s.size ≤ 1000000) :
    Calls Try.prog 17 #[.string s] w fun e w' => e = .returned (.bool (Nm.path s)) ∧ Below w.heap.size w w' := by
  have hs' := hs
  by_cases h0 : s.size = 0
  · have e : Nm.path s = false := by unfold Nm.path; rw [h0]; rfl
    rw [e]
    have n1 : decide ((s.size : Int) < 1) = true := decide_eq_true (by omega)
    clear e
    go_enter Try.func17, Try.ntmps17
    go_wp2
    all_goals
      go_ret
      exact ⟨rfl, Below.refl _ _⟩
  have hp : 0 < s.size := by omega
  have n0 : decide ((s.size : Int) < 1) = false := decide_eq_false (by omega)
  by_cases h1 : s.size ≤ 256
  · have n1 : decide (256 < (s.size : Int)) = false := decide_eq_false (by omega)
    by_cases h2 : s[0].toNat = 47
    · have e : Nm.path s = false := by unfold Nm.path; rw [Uf.b_at s 0 hp, h2]; simp
      rw [e]
      clear e
      go_enter Try.func17, Try.ntmps17
      go_wp2
      all_goals
        go_ret
        exact ⟨rfl, Below.refl _ _⟩
    · have hr : Hid (Nm.path s = Uf.valid s) := by
        show _ = _
        unfold Nm.path
        rw [Uf.b_at s 0 hp, decide_eq_true h1, decide_eq_true (show 1 ≤ s.size by omega), beq_eq_false_iff_ne.2 h2]; rfl
      have n2 : ((s[0].toNat : Int) == 47) = false := by rw [beq_eq_false_iff_ne]; omega
      go_enter Try.func17, Try.ntmps17
      go_wp2_with (go_at_call 24; refine (rlen_any _ _ hs').mono ?_; rintro e w1 ⟨rfl, hb⟩)
      all_goals
        go_ret
        exact ⟨ret_b hr.out.symm, hb⟩
  · have e : Nm.path s = false := by unfold Nm.path; rw [decide_eq_false h1]; simp
    have n1 : decide (256 < (s.size : Int)) = true := decide_eq_true (by omega)
    rw [e]
    clear e
    go_enter Try.func17, Try.ntmps17
    go_wp2
    all_goals
      go_ret
      exact ⟨rfl, Below.refl _ _⟩

/-- A block of n + 1 bools that are as f says. -/
def Bools (w : World) (g n : Nat) (f : Nat → Bool) : Prop := ∃ cs, Bk w g 4 cs ∧ cs.size = n + 1 ∧ ∀ j, j ≤ n → cs[j]? = some (.bool (f j))
theorem Bools.cell {w : World} {g n : Nat} {f : Nat → Bool} (h : Bools w g n f) (j : Nat) (hj : j ≤ n) : w.cell? ⟨g, j, none⟩ = some (.bool (f j)) := by
  obtain ⟨cs, hb, _, hc⟩ := h
  rw [hb.cell, hc j hj]
theorem Bools.frozen {w : World} {g n : Nat} {f : Nat → Bool} (h : Bools w g n f) (j : Nat) : w.frozen? ⟨g, j, none⟩ = false := by
  obtain ⟨cs, hb, _, hc⟩ := h
  exact hb.frozen j
theorem Bools.lt {w : World} {g n : Nat} {f : Nat → Bool} (h : Bools w g n f) : g < w.heap.size := by
  obtain ⟨cs, hb, _, hc⟩ := h
  exact hb.lt
theorem Bools.put {w : World} {g n : Nat} {f f' : Nat → Bool} (h : Bools w g n f) (k : Nat) (u : Bool) (hf : ∀ j, j ≤ n → f' j = if k = j then u else f j) : Bools (w.setCell ⟨g, k, none⟩ (.bool u)) g n f' := by
  obtain ⟨cs, hb, hz, hc⟩ := h
  refine ⟨_, hb.put k _, by rw [Array.size_setIfInBounds]; exact hz, fun j hj => ?_⟩
  rw [Array.getElem?_setIfInBounds, hf j hj]
  by_cases e : k = j
  · subst e; rw [if_pos rfl, if_pos rfl, if_pos (by rw [hz]; omega)]
  · rw [if_neg e, if_neg e]; exact hc j hj
theorem Bools.as {w : World} {g n : Nat} {f f' : Nat → Bool} (h : Bools w g n f) (hf : ∀ j, j ≤ n → f' j = f j) : Bools w g n f' := by
  obtain ⟨cs, hb, hz, hc⟩ := h
  exact ⟨cs, hb, hz, fun j hj => by rw [hf j hj]; exact hc j hj⟩
theorem Bools.grow {w w' : World} {g n : Nat} {f : Nat → Bool} {row : Option Nat} (h : Bools w g n f) (k : w.grownBy w' row) (hne : some g ≠ row) : Bools w' g n f := by
  obtain ⟨cs, hb, hz, hc⟩ := h
  exact ⟨cs, hb.grow k hne, hz, hc⟩
theorem Bools.new {w : World} {g n : Nat} (h : Bk w g 4 (madeCells #[.bool false] (n + 1))) : Bools w g n (fun _ => false) :=
  ⟨_, h, made_size _ _, fun j hj => made_cell _ _ _ (by omega)⟩
/-- A row of runes lies from a block's beginning on. -/
def Rs (w : World) (b : Nat) (P : List Nat) : Prop := ∀ (k c : Nat), P[k]? = some c → w.cell? ⟨b, k, none⟩ = some (.int .i32 (c : Int))
theorem Rs.grow {w w' : World} {b : Nat} {P : List Nat} {row : Option Nat} (h : Rs w b P) (hb : b < w.heap.size) (k : w.grownBy w' row) (hne : some b ≠ row) : Rs w' b P := fun j c hj => (one_cell k (p := ⟨b, j, none⟩) hb hne).trans (h j c hj)

set_option maxHeartbeats 1000000 in
theorem on_any (P : List Nat) (f : Nat → Bool) (g bp cp : Nat) (w : World) (hP : Rs w bp P) (hbp : bp < w.heap.size) (hB : Bools w g P.length f) (hne : bp ≠ g) (hp : P.length ≤ 1000) :
    Calls Try.prog 23 #[.slice (some ⟨g, 0, none⟩) (P.length + 1) (P.length + 1), .slice (some ⟨bp, 0, none⟩) P.length cp] w fun e w' => e = .returned (.slice (some ⟨g, 0, none⟩) (P.length + 1) (P.length + 1)) ∧ Bools w' g P.length (Gl.onF f P) ∧ w.grownBy w' (some g) := by
  have hP' := Lib.hid hP
  have hB' := Lib.hid hB
  clear hP hB
  go_enter Try.func23, Try.ntmps23
  go_wp2
  go_loopw [5] (fun i wr => ∃ k : Nat, k ≤ P.length ∧ i = .int .i64 k ∧ Bools wr g P.length (fun j => if j ≤ k then Gl.onF f P j else f j) ∧ w.grownBy wr (some g)) (fun i _ => P.length - (intOf i).toNat)
  case atStart => exact ⟨0, Nat.zero_le _, rfl, hB'.out.as fun j hj => by
    by_cases e : j ≤ 0
    · obtain rfl : j = 0 := by omega
      rw [if_pos e]; rfl
    · rw [if_neg e], one_refl _ _⟩
  case round =>
    obtain ⟨k, hk, rfl, hb, hg⟩ := hrel
    by_cases hlt : k < P.length
    · obtain ⟨c, hc⟩ : ∃ c, P[k]? = some c := ⟨_, List.getElem?_eq_getElem hlt⟩
      have h1 : wr.cell? ⟨g, k, none⟩ = some (.bool (Gl.onF f P k)) := by
        rw [hb.cell k (by omega), if_pos (Nat.le_refl _)]
      have h2 : wr.cell? ⟨bp, k, none⟩ = some (.int .i32 (c : Int)) := (one_cell hg (p := ⟨bp, k, none⟩) hbp (by simpa using hne)).trans (hP'.out k c hc)
      have h3 : wr.cell? ⟨g, k + 1, none⟩ = some (.bool (f (k + 1))) := by
        rw [hb.cell (k + 1) (by omega), if_neg (by omega)]
      have h4 := hb.frozen (k + 1)
      have hon : Hid (Gl.onF f P (k + 1) = (f (k + 1) || (decide (P[k]? = some 42) && Gl.onF f P k))) := rfl
      cases ho : Gl.onF f P k with
      | false =>
        have hn : Hid (Bools wr g P.length (fun j => if j ≤ k + 1 then Gl.onF f P j else f j)) := hb.as fun j hj => by
          by_cases e : j = k + 1
          · subst e
            rw [if_pos (Nat.le_refl _), if_neg (by omega), hon.out, ho]
            simp
          · by_cases e2 : j ≤ k
            · rw [if_pos e2, if_pos (by omega)]
            · rw [if_neg e2, if_neg (by omega)]
        rw [ho] at h1
        have hg' := Lib.hid hg
        clear hg hb ho hc hon
        go_wp2_with fail
        go_roundw
        case rel => exact ⟨k + 1, by omega, by go_num, hn.out, hg'.out⟩
        case measure => simp [intOf]; omega
      | true =>
        by_cases h42 : c = 42
        · subst h42
          have hn : Hid (Bools (wr.setCell ⟨g, k + 1, none⟩ (.bool true)) g P.length (fun j => if j ≤ k + 1 then Gl.onF f P j else f j)) := hb.put (k + 1) true fun j hj => by
            by_cases e : j = k + 1
            · subst e
              rw [if_pos (Nat.le_refl _), if_pos rfl, hon.out, ho, hc]
              simp
            · rw [if_neg (Ne.symm e)]
              by_cases e2 : j ≤ k
              · rw [if_pos e2, if_pos (by omega)]
              · rw [if_neg e2, if_neg (by omega)]
          rw [ho] at h1
          have hg' := Lib.hid (one_put hg (k + 1) (.bool true))
          clear hg hb ho hc hon
          go_wp2_with fail
          go_roundw
          case rel => exact ⟨k + 1, by omega, by go_num, hn.out, hg'.out⟩
          case measure => simp [intOf]; omega
        · have n1 : (((c : Nat) : Int) == 42) = false := by rw [beq_eq_false_iff_ne]; omega
          have hn : Hid (Bools wr g P.length (fun j => if j ≤ k + 1 then Gl.onF f P j else f j)) := hb.as fun j hj => by
            by_cases e : j = k + 1
            · subst e
              rw [if_pos (Nat.le_refl _), if_neg (by omega), hon.out, hc]
              simp [h42]
            · by_cases e2 : j ≤ k
              · rw [if_pos e2, if_pos (by omega)]
              · rw [if_neg e2, if_neg (by omega)]
          rw [ho] at h1
          have hg' := Lib.hid hg
          clear hg hb ho hc hon h42
          go_wp2_with fail
          go_roundw
          case rel => exact ⟨k + 1, by omega, by go_num, hn.out, hg'.out⟩
          case measure => simp [intOf]; omega
    · have hk' : k = P.length := by omega
      subst hk'
      have hn : Hid (Bools wr g P.length (Gl.onF f P)) := hb.as fun j hj => by rw [if_pos hj]
      have hg' := Lib.hid hg
      clear hg hb
      go_wp2_with fail
      go_ret
      exact ⟨rfl, hn.out, hg'.out⟩
end Go.Proofs.Ytcglfpgniifedaa
