/-
  The walks of package utf and of the library's HasPrefix under it: Len, Valid.
-/
import Derived.Test.YtflfmacfodkedaaDoorBase
import Derived.Test.YtflfmacfodkedaaDoorUtf
import Derived.Lib.Strings
namespace Go.Proofs.YtflfmacfodkedaaDoor
set_option linter.unusedSimpArgs false
set_option linter.unusedVariables false
open Go Go.RowKit

/-- Does a text begin with another one? -/
def hasPre (s p : ByteArray) : Bool := decide (p.size ≤ s.size) && ((s.extract 0 p.size).toList == p.toList)
set_option maxRecDepth 20000 in
set_option maxHeartbeats 400000 in
theorem hasPrefix_any (s p : ByteArray) (w : World) (hs : s.size ≤ maxLen) (hp : p.size ≤ maxLen) :
    Calls Tryd.prog 41 #[.string s, .string p] w fun e w' => e = .returned (.bool (hasPre s p)) ∧ w = w' := by
  unfold maxLen at hs hp
  by_cases h : p.size ≤ s.size
  · have e : hasPre s p = ((s.extract 0 p.size).toList == p.toList) := by unfold hasPre; rw [decide_eq_true h]; rfl
    rw [e]
    clear e
    go_enter Tryd.func41, Tryd.ntmps41
    go_wp2
    go_ret
    exact ⟨rfl, rfl⟩
  · have e : hasPre s p = false := by unfold hasPre; rw [decide_eq_false h]; rfl
    rw [e]
    clear e
    go_enter Tryd.func41, Tryd.ntmps41
    go_wp2
    go_ret
    exact ⟨rfl, rfl⟩

theorem fffd_pre (s : ByteArray) (i : Nat) (hi : i ≤ s.size) : hasPre (s.extract i s.size) ⟨#[239, 191, 189]⟩ = Uf.fffd s i := by
  unfold hasPre
  have hz : (s.extract i s.size).size = s.size - i := by rw [ByteArray.size_extract]; omega
  by_cases h : i + 2 < s.size
  · have hl : s.data.toList.length = s.size := by rw [Array.length_toList]; rfl
    have e : ((s.extract i s.size).extract 0 3).toList = [s[i], s[i + 1], s[i + 2]] := by
      rw [ByteArray.toList_eq, Lib.extract_data, Lib.extract_data, List.drop_zero, List.take_take, List.drop_eq_getElem_cons (by omega), List.drop_eq_getElem_cons (by omega), List.drop_eq_getElem_cons (by omega), show min (3 - 0) (s.size - i) = 3 by omega]
      rfl
    have e2 : (⟨#[239, 191, 189]⟩ : ByteArray).size = 3 := rfl
    have e3 : (⟨#[239, 191, 189]⟩ : ByteArray).toList = [239, 191, 189] := by rw [ByteArray.toList_eq]
    rw [e2, e3, e, hz, decide_eq_true (by omega)]
    unfold Uf.fffd
    rw [decide_eq_true h, Uf.b_at s i (by omega), Uf.b_at s (i + 1) (by omega), Uf.b_at s (i + 2) (by omega)]
    have q : ∀ (c : UInt8) (n : Nat) (h : n < 256), (c == UInt8.ofNat n) = (c.toNat == n) := fun c n h => by
      rw [Bool.eq_iff_iff, beq_iff_eq, beq_iff_eq]
      exact ⟨fun e => by rw [e, UInt8.toNat_ofNat', Nat.mod_eq_of_lt h], fun e => by rw [← e]; simp⟩
    have q1 := q s[i] 239 (by omega)
    have q2 := q s[i + 1] 191 (by omega)
    have q3 := q s[i + 2] 189 (by omega)
    show (s[i] == 239 && (s[i + 1] == 191 && (s[i + 2] == 189 && true))) = _
    rw [← q1, ← q2, ← q3, Bool.and_true, Bool.true_and, Bool.and_assoc]
    rfl
  · have e2 : (⟨#[239, 191, 189]⟩ : ByteArray).size = 3 := rfl
    rw [e2, hz, decide_eq_false (by omega)]
    unfold Uf.fffd
    rw [decide_eq_false h]
    rfl

end Go.Proofs.YtflfmacfodkedaaDoor
