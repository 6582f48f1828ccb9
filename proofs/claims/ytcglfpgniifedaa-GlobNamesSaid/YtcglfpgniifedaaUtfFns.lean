/-
  The walks of package utf and of the library's HasPrefix under it: Len, Valid.
-/
import Derived.Test.YtcglfpgniifedaaBase
import Derived.Test.YtcglfpgniifedaaUtf
import Derived.Lib.Strings
namespace Go.Proofs.Ytcglfpgniifedaa
set_option linter.unusedSimpArgs false
set_option linter.unusedVariables false
open Go Go.RowKit

/-- Does a text begin with another one? -/
def hasPre (s p : ByteArray) : Bool := decide (p.size ≤ s.size) && ((s.extract 0 p.size).toList == p.toList)
set_option maxHeartbeats 400000 in
theorem hasPrefix_any (s p : ByteArray) (w : World) (hs : s.size ≤ maxLen) (hp : p.size ≤ maxLen) :
    Calls Try.prog 30 #[.string s, .string p] w fun e w' => e = .returned (.bool (hasPre s p)) ∧ w = w' := by
  unfold maxLen at hs hp
  by_cases h : p.size ≤ s.size
  · have e : hasPre s p = ((s.extract 0 p.size).toList == p.toList) := by unfold hasPre; rw [decide_eq_true h]; rfl
    rw [e]
    clear e
    go_enter Try.func30, Try.ntmps30
    go_wp2
    go_ret
    exact ⟨rfl, rfl⟩
  · have e : hasPre s p = false := by unfold hasPre; rw [decide_eq_false h]; rfl
    rw [e]
    clear e
    go_enter Try.func30, Try.ntmps30
    go_wp2
    go_ret
    exact ⟨rfl, rfl⟩

theorem fffd_pre (s : ByteArray) (i : Nat) (hi : i ≤ s.size) : hasPre (s.extract i s.size) ⟨#[239, 191, 189]⟩ = Uf.fffd s i := by
  unfold hasPre
  have hz : (s.extract i s.size).size = s.size - i := by rw [ByteArray.size_extract]; omega
  by_cases h : i + 2 < s.size
  · have hl : s.data.toList.length = s.size := by rw [Array.length_toList]; rfl
    have e : ((s.extract i s.size).extract 0 3).toList = [s[i], s[i + 1], s[i + 2]] := by
      rw [ByteArray.toList_eq, Lib.extract_data, Lib.extract_data, List.drop_zero, List.take_take, List.drop_eq_getElem_cons (by omega), List.drop_eq_getElem_cons (by omega), List.drop_eq_getElem_cons (by omega), show min (3 - 0) (s.size - i) = 3 by omega]
      rfl
    have e2 : (⟨#[239, 191, 189]⟩ : ByteArray).size = 3 := rfl
    have e3 : (⟨#[239, 191, 189]⟩ : ByteArray).toList = [239, 191, 189] := by rw [ByteArray.toList_eq]
    rw [e2, e3, e, hz, decide_eq_true (by omega)]
    unfold Uf.fffd
    rw [decide_eq_true h, Uf.b_at s i (by omega), Uf.b_at s (i + 1) (by omega), Uf.b_at s (i + 2) (by omega)]
    have q : ∀ (c : UInt8) (n : Nat) (h : n < 256), (c == UInt8.ofNat n) = (c.toNat == n) := fun c n h => by
      rw [Bool.eq_iff_iff, beq_iff_eq, beq_iff_eq]
      exact ⟨fun e => by rw [e, UInt8.toNat_ofNat', Nat.mod_eq_of_lt h], fun e => by rw [← e]; simp⟩
    have q1 := q s[i] 239 (by omega)
    have q2 := q s[i + 1] 191 (by omega)
    have q3 := q s[i + 2] 189 (by omega)
    show (s[i] == 239 && (s[i + 1] == 191 && (s[i + 2] == 189 && true))) = _
    rw [← q1, ← q2, ← q3, Bool.and_true, Bool.true_and, Bool.and_assoc]
    rfl
  · have e2 : (⟨#[239, 191, 189]⟩ : ByteArray).size = 3 := rfl
    rw [e2, hz, decide_eq_false (by omega)]
    unfold Uf.fffd
    rw [decide_eq_false h]
    rfl

set_option maxRecDepth 100000 in
set_option maxHeartbeats 1000000 in
theorem len_any (s : ByteArray) (w : World) (hs : s.size ≤ maxLen) :
    Calls Try.prog 28 #[.string s] w fun e w' => e = .returned (.tuple #[.int .i64 (Uf.countV s), .bool (Uf.valid s)]) ∧ Below w.heap.size w w' := by
  have hs' := hs
  unfold maxLen at hs
  go_enter Try.func28, Try.ntmps28
  go_wp2
  go_loopw [4] (fun n w' => ∃ (pos k : Nat), w' = w.iter s pos ∧ n = .int .i64 k ∧ k ≤ pos ∧ Hid (Uf.At s pos k)) (fun _ w' => s.size - w'.iterPos w.heap.size)
  case atStart => exact ⟨0, 0, rfl, rfl, Nat.le_refl _, Uf.At.start s⟩
  case round =>
    obtain ⟨pos, k, rfl, rfl, hk, ha⟩ := hrel
    by_cases hp : pos < s.size
    · have hnx : ∀ ty, (Instr.next (.pointer (some ⟨w.heap.size, 0, none⟩)) true ty).run Try.prog (w.iter s pos) = .ok (.tuple #[.bool true, .int .i64 pos, .int .i32 (Uf.rune s pos : Nat)]) (w.iter s (pos + Uf.wid s pos)) := fun ty => run_next_any w s pos ty hp
      have hwd := Uf.wid_pos s pos hp
      have hle := Lib.hid (Uf.At.le hk hp)
      have hz : (s.extract pos s.size).size ≤ maxLen := by rw [ByteArray.size_extract]; unfold maxLen; omega
      by_cases hr : Uf.rune s pos = 65533
      · have hr1 : ((Uf.rune s pos : Int) == 65533) = true := by rw [hr]; rfl
        have hr' := Lib.hid hr
        clear hr
        cases ho : Uf.okAt s pos with
        | true =>
          have hf := Lib.hid ((fffd_pre s pos (by omega)).trans (Uf.fffd_of_okAt s pos ho hr'.out))
          have hst := Lib.hid (ha.out.step hp ho)
          clear ho
          go_wp2_with fail
          refine (hasPrefix_any (s.extract pos s.size) ⟨#[239, 191, 189]⟩ _ hz (by decide)).mono ?_
          rintro e _ ⟨rfl, rfl⟩
          rw [hf.out]
          go_wp2_with fail
          go_roundw
          case rel => exact ⟨pos + Uf.wid s pos, k + 1, rfl, by go_num, hle.out, hst⟩
          case measure => simp; omega
        | false =>
          have hf : Hid (hasPre (s.extract pos s.size) ⟨#[239, 191, 189]⟩ = false) := by
            show _ = _
            rw [fffd_pre s pos (by omega)]
            cases e : Uf.fffd s pos with
            | false => rfl
            | true => rw [Uf.okAt_of_fffd s pos e] at ho; cases ho
          have hbad := Lib.hid (ha.out.bad hp ho)
          clear ho
          go_wp2_with fail
          refine (hasPrefix_any (s.extract pos s.size) ⟨#[239, 191, 189]⟩ _ hz (by decide)).mono ?_
          rintro e _ ⟨rfl, rfl⟩
          rw [hf.out]
          go_wp2_with fail
          go_ret2
          exact ⟨ret_ib hbad.out.2.symm hbad.out.1.symm, (Below.refl _ _).alloc (Nat.le_refl _) _⟩
      · have hr1 : ((Uf.rune s pos : Int) == 65533) = false := by rw [beq_eq_false_iff_ne]; omega
        have hst : Hid (Uf.At s (pos + Uf.wid s pos) (k + 1)) := by
          refine ha.out.step hp ?_
          cases e : Uf.okAt s pos with
          | true => rfl
          | false => exact absurd (Uf.okAt_no s pos e).1 hr
        have hr' := Lib.hid hr
        clear hr
        go_wp2_with fail
        go_roundw
        case rel => exact ⟨pos + Uf.wid s pos, k + 1, rfl, by go_num, hle.out, hst⟩
        case measure => simp; omega
    · have hnx : ∀ ty, (Instr.next (.pointer (some ⟨w.heap.size, 0, none⟩)) true ty).run Try.prog (w.iter s pos) = .ok (.tuple #[.bool false]) (w.iter s pos) := fun ty => run_next_end w s pos ty hp
      have hd := Lib.hid (ha.out.done (by omega))
      go_wp2_with fail
      go_ret2
      exact ⟨ret_ib hd.out.2.symm hd.out.1.symm, (Below.refl _ _).alloc (Nat.le_refl _) _⟩

set_option maxHeartbeats 400000 in
theorem valid_any (s : ByteArray) (w : World) (hs : s.size ≤ maxLen) :
    Calls Try.prog 25 #[.string s] w fun e w' => e = .returned (.bool (Uf.valid s)) ∧ Below w.heap.size w w' := by
  go_enter Try.func25, Try.ntmps25
  go_wp2_with fail
  refine (len_any s _ hs).mono ?_
  rintro e w1 ⟨rfl, hb1⟩
  go_wp2_with fail
  go_ret
  exact ⟨rfl, hb1⟩
end Go.Proofs.Ytcglfpgniifedaa
