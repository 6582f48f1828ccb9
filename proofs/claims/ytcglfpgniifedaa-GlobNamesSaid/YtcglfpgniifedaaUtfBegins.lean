/-
  The walks of package legateref04: begins.
-/
import Derived.Test.YtcglfpgniifedaaBase
import Derived.Test.YtcglfpgniifedaaUtfRef
namespace Go.Proofs.Ytcglfpgniifedaa
set_option linter.unusedSimpArgs false
set_option linter.unusedVariables false
open Go Go.RowKit

set_option maxRecDepth 100000 in
set_option maxHeartbeats 1000000 in
theorem begins_2 (s : ByteArray) (w : World) (h1 : 1 ≤ s.size) (h2 : s.size ≤ 4) :
    Calls Try.prog 29 #[.string s, .int .i64 2] w fun e w' => e = .returned (.bool (Uf.bg (Uf.b s) 2 s.size)) ∧ Below w.heap.size w w' := by
  have hb0 := Uf.b_lt s 0
  have hat0 := Uf.b_at s 0 h1
  have h00 : s[0].toNat < 256 := s[0].toNat_lt
  have h1'' : 0 < s.size := h1
  have h1' : (1 : Int) ≤ s.size := by omega
  have h2' : (s.size : Int) ≤ 4 := by omega
  have hs0 : Hid (Uf.bgTo (Uf.b s) 2 s.size 0 = some ((s[0].toNat : Int) - 192, (s[0].toNat : Int) - 192)) := by show _ = _; unfold Uf.bgTo; rw [hat0]; rfl
  clear hat0
  go_enter Try.func29, Try.ntmps29
  go_wp2_with fail
  go_quiet (fail)
  go_wp2_with fail
  go_loopw [5, 6, 7] (fun lo hi i wr => ∃ (k : Nat) (l h : Int), 1 ≤ k ∧ k ≤ 2 ∧ lo = .int .i64 l ∧ hi = .int .i64 h ∧ i = .int .i64 k ∧ Hid (Uf.bgTo (Uf.b s) 2 s.size (k - 1) = some (l, h)) ∧ Below w.heap.size w wr) (fun _ _ i _ => 2 - (intOf i).toNat)
  case atStart => exact ⟨1, _, _, by omega, by omega, rfl, rfl, rfl, hs0, below_drewN (Below.refl _ _) _⟩
  case round =>
    obtain ⟨k, l, h, k1, k2, rfl, rfl, rfl, hg, hb⟩ := hrel
    obtain ⟨m1, m2, m3, m4⟩ := Uf.bgTo_small _ _ _ hb0 (k - 1) (by omega) l h hg.out
    have hb' := Lib.hid hb
    clear hb
    by_cases hk : k < 2
    · have k1' : (1 : Int) ≤ k := by omega
      by_cases hn : k < s.size
      · have hat := Uf.b_at s k hn
        have hlt := s[k].toNat_lt
        by_cases hc : s[k].toNat < 128 ∨ 191 < s[k].toNat
        · have hno := Lib.hid (Uf.bg_no (Uf.b s) 2 s.size k (by omega) (Uf.bgTo_bad hg.out k1 hn (by rw [hat]; exact hc)))
          clear hat
          rcases hc with hc | hc
          · go_wp2_with fail
            go_ret
            exact ⟨ret_b hno.out.symm, hb'.out⟩
          · have hc2 : ¬ s[k].toNat < 128 := by omega
            go_wp2_with fail
            go_ret
            exact ⟨ret_b hno.out.symm, hb'.out⟩
        · have hin := Lib.hid (Uf.bgTo_in hg.out k1 hn (by rw [hat]; exact hc))
          have hat' := Lib.hid hat
          have hc1 : 128 ≤ s[k].toNat := by omega
          have hc2 : s[k].toNat ≤ 191 := by omega
          clear hat hc
          go_wp2_with fail
          go_quiet (fail)
          go_wp2_with fail
          go_roundw
          case rel => exact ⟨k + 1, _, _, by omega, by omega, rfl, rfl, by go_num, by show _ = _; rw [Nat.add_sub_cancel, hin.out, hat'.out], below_drewN hb'.out _⟩
          case measure => simp [intOf]; omega
      · have hout := Lib.hid (Uf.bgTo_out hg.out k1 hn)
        go_wp2_with fail
        go_roundw
        case rel => exact ⟨k + 1, _, _, by omega, by omega, rfl, rfl, by go_num, by show _ = _; rw [Nat.add_sub_cancel, hout.out], hb'.out⟩
        case measure => simp [intOf]; omega
    · obtain rfl : k = 2 := by omega
      have hend := Lib.hid (Uf.bg_end hg.out)
      have hl : Uf.least 2 = 128 := rfl
      rw [hl] at hend
      clear hl
      go_wp2_with fail
      all_goals go_ret
      all_goals refine ⟨ret_b ?_, hb'.out.alloc hb'.out.size _⟩
      all_goals rw [hend.out]
      all_goals first | exact (decide_eq_true (by omega)).symm | exact (decide_eq_false (by omega)).symm | exact decide_eq_decide.2 (by omega)

set_option maxRecDepth 100000 in
set_option maxHeartbeats 1000000 in
theorem begins_3 (s : ByteArray) (w : World) (h1 : 1 ≤ s.size) (h2 : s.size ≤ 4) :
    Calls Try.prog 29 #[.string s, .int .i64 3] w fun e w' => e = .returned (.bool (Uf.bg (Uf.b s) 3 s.size)) ∧ Below w.heap.size w w' := by
  have hb0 := Uf.b_lt s 0
  have hat0 := Uf.b_at s 0 h1
  have h00 : s[0].toNat < 256 := s[0].toNat_lt
  have h1'' : 0 < s.size := h1
  have h1' : (1 : Int) ≤ s.size := by omega
  have h2' : (s.size : Int) ≤ 4 := by omega
  have hs0 : Hid (Uf.bgTo (Uf.b s) 3 s.size 0 = some ((s[0].toNat : Int) - 224, (s[0].toNat : Int) - 224)) := by show _ = _; unfold Uf.bgTo; rw [hat0]; rfl
  clear hat0
  go_enter Try.func29, Try.ntmps29
  go_wp2_with fail
  go_quiet (fail)
  go_wp2_with fail
  go_loopw [5, 6, 7] (fun lo hi i wr => ∃ (k : Nat) (l h : Int), 1 ≤ k ∧ k ≤ 3 ∧ lo = .int .i64 l ∧ hi = .int .i64 h ∧ i = .int .i64 k ∧ Hid (Uf.bgTo (Uf.b s) 3 s.size (k - 1) = some (l, h)) ∧ Below w.heap.size w wr) (fun _ _ i _ => 3 - (intOf i).toNat)
  case atStart => exact ⟨1, _, _, by omega, by omega, rfl, rfl, rfl, hs0, below_drewN (Below.refl _ _) _⟩
  case round =>
    obtain ⟨k, l, h, k1, k2, rfl, rfl, rfl, hg, hb⟩ := hrel
    obtain ⟨m1, m2, m3, m4⟩ := Uf.bgTo_small _ _ _ hb0 (k - 1) (by omega) l h hg.out
    have hb' := Lib.hid hb
    clear hb
    by_cases hk : k < 3
    · have k1' : (1 : Int) ≤ k := by omega
      by_cases hn : k < s.size
      · have hat := Uf.b_at s k hn
        have hlt := s[k].toNat_lt
        by_cases hc : s[k].toNat < 128 ∨ 191 < s[k].toNat
        · have hno := Lib.hid (Uf.bg_no (Uf.b s) 3 s.size k (by omega) (Uf.bgTo_bad hg.out k1 hn (by rw [hat]; exact hc)))
          clear hat
          rcases hc with hc | hc
          · go_wp2_with fail
            go_ret
            exact ⟨ret_b hno.out.symm, hb'.out⟩
          · have hc2 : ¬ s[k].toNat < 128 := by omega
            go_wp2_with fail
            go_ret
            exact ⟨ret_b hno.out.symm, hb'.out⟩
        · have hin := Lib.hid (Uf.bgTo_in hg.out k1 hn (by rw [hat]; exact hc))
          have hat' := Lib.hid hat
          have hc1 : 128 ≤ s[k].toNat := by omega
          have hc2 : s[k].toNat ≤ 191 := by omega
          clear hat hc
          go_wp2_with fail
          go_quiet (fail)
          go_wp2_with fail
          go_roundw
          case rel => exact ⟨k + 1, _, _, by omega, by omega, rfl, rfl, by go_num, by show _ = _; rw [Nat.add_sub_cancel, hin.out, hat'.out], below_drewN hb'.out _⟩
          case measure => simp [intOf]; omega
      · have hout := Lib.hid (Uf.bgTo_out hg.out k1 hn)
        go_wp2_with fail
        go_roundw
        case rel => exact ⟨k + 1, _, _, by omega, by omega, rfl, rfl, by go_num, by show _ = _; rw [Nat.add_sub_cancel, hout.out], hb'.out⟩
        case measure => simp [intOf]; omega
    · obtain rfl : k = 3 := by omega
      have hend := Lib.hid (Uf.bg_end hg.out)
      have hl : Uf.least 3 = 2048 := rfl
      rw [hl] at hend
      clear hl
      go_wp2_with fail
      all_goals go_ret
      all_goals refine ⟨ret_b ?_, hb'.out.alloc hb'.out.size _⟩
      all_goals rw [hend.out]
      all_goals first | exact (decide_eq_true (by omega)).symm | exact (decide_eq_false (by omega)).symm | exact decide_eq_decide.2 (by omega)

set_option maxRecDepth 100000 in
set_option maxHeartbeats 1000000 in
theorem begins_4 (s : ByteArray) (w : World) (h1 : 1 ≤ s.size) (h2 : s.size ≤ 4) :
    Calls Try.prog 29 #[.string s, .int .i64 4] w fun e w' => e = .returned (.bool (Uf.bg (Uf.b s) 4 s.size)) ∧ Below w.heap.size w w' := by
  have hb0 := Uf.b_lt s 0
  have hat0 := Uf.b_at s 0 h1
  have h00 : s[0].toNat < 256 := s[0].toNat_lt
  have h1'' : 0 < s.size := h1
  have h1' : (1 : Int) ≤ s.size := by omega
  have h2' : (s.size : Int) ≤ 4 := by omega
  have hs0 : Hid (Uf.bgTo (Uf.b s) 4 s.size 0 = some ((s[0].toNat : Int) - 240, (s[0].toNat : Int) - 240)) := by show _ = _; unfold Uf.bgTo; rw [hat0]; rfl
  clear hat0
  go_enter Try.func29, Try.ntmps29
  go_wp2_with fail
  go_quiet (fail)
  go_wp2_with fail
  go_loopw [5, 6, 7] (fun lo hi i wr => ∃ (k : Nat) (l h : Int), 1 ≤ k ∧ k ≤ 4 ∧ lo = .int .i64 l ∧ hi = .int .i64 h ∧ i = .int .i64 k ∧ Hid (Uf.bgTo (Uf.b s) 4 s.size (k - 1) = some (l, h)) ∧ Below w.heap.size w wr) (fun _ _ i _ => 4 - (intOf i).toNat)
  case atStart => exact ⟨1, _, _, by omega, by omega, rfl, rfl, rfl, hs0, below_drewN (Below.refl _ _) _⟩
  case round =>
    obtain ⟨k, l, h, k1, k2, rfl, rfl, rfl, hg, hb⟩ := hrel
    obtain ⟨m1, m2, m3, m4⟩ := Uf.bgTo_small _ _ _ hb0 (k - 1) (by omega) l h hg.out
    have hb' := Lib.hid hb
    clear hb
    by_cases hk : k < 4
    · have k1' : (1 : Int) ≤ k := by omega
      by_cases hn : k < s.size
      · have hat := Uf.b_at s k hn
        have hlt := s[k].toNat_lt
        by_cases hc : s[k].toNat < 128 ∨ 191 < s[k].toNat
        · have hno := Lib.hid (Uf.bg_no (Uf.b s) 4 s.size k (by omega) (Uf.bgTo_bad hg.out k1 hn (by rw [hat]; exact hc)))
          clear hat
          rcases hc with hc | hc
          · go_wp2_with fail
            go_ret
            exact ⟨ret_b hno.out.symm, hb'.out⟩
          · have hc2 : ¬ s[k].toNat < 128 := by omega
            go_wp2_with fail
            go_ret
            exact ⟨ret_b hno.out.symm, hb'.out⟩
        · have hin := Lib.hid (Uf.bgTo_in hg.out k1 hn (by rw [hat]; exact hc))
          have hat' := Lib.hid hat
          have hc1 : 128 ≤ s[k].toNat := by omega
          have hc2 : s[k].toNat ≤ 191 := by omega
          clear hat hc
          go_wp2_with fail
          go_quiet (fail)
          go_wp2_with fail
          go_roundw
          case rel => exact ⟨k + 1, _, _, by omega, by omega, rfl, rfl, by go_num, by show _ = _; rw [Nat.add_sub_cancel, hin.out, hat'.out], below_drewN hb'.out _⟩
          case measure => simp [intOf]; omega
      · have hout := Lib.hid (Uf.bgTo_out hg.out k1 hn)
        go_wp2_with fail
        go_roundw
        case rel => exact ⟨k + 1, _, _, by omega, by omega, rfl, rfl, by go_num, by show _ = _; rw [Nat.add_sub_cancel, hout.out], hb'.out⟩
        case measure => simp [intOf]; omega
    · obtain rfl : k = 4 := by omega
      have hend := Lib.hid (Uf.bg_end hg.out)
      have hl : Uf.least 4 = 65536 := rfl
      rw [hl] at hend
      clear hl
      go_wp2_with fail
      all_goals go_ret
      all_goals refine ⟨ret_b ?_, hb'.out.alloc hb'.out.size _⟩
      all_goals rw [hend.out]
      all_goals first | exact (decide_eq_true (by omega)).symm | exact (decide_eq_false (by omega)).symm | exact decide_eq_decide.2 (by omega)
end Go.Proofs.Ytcglfpgniifedaa
