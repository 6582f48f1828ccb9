/-
  Small words that all walks of this seat use.
-/
import Derived.Test.YtcianlgkfkccoaaProg
import Derived.WalkKit
import Derived.Laws.Bits64
import Derived.WalkLawsBesides
import Derived.WalkSpells
import Derived.Lib.Hide
import Derived.Lib.QuietBelow
import Derived.BigQuiet
import Derived.StillTailTactics
import Derived.Maps.AppendAt
namespace Go.Proofs.Ytcianlgkfkccoaa
set_option linter.unusedSimpArgs false
set_option linter.unusedVariables false
open Go.RowKit

theorem ret_ib {k : IntKind} {a a' : Int} {b b' : Bool} (h1 : a = a') (h2 : b = b') : Ending.returned (.tuple #[.int k a, .bool b]) = .returned (.tuple #[.int k a', .bool b']) := by rw [h1, h2]
theorem ret_b {b b' : Bool} (h2 : b = b') : Ending.returned (.bool b) = .returned (.bool b') := by rw [h2]
theorem ret_i {k : IntKind} {b b' : Int} (h2 : b = b') : Ending.returned (.int k b) = .returned (.int k b') := by rw [h2]
theorem ret_str {b b' : ByteArray} (h2 : b = b') : Ending.returned (.string b) = .returned (.string b') := by rw [h2]
theorem ret_ii {k k' : IntKind} {a a' b b' : Int} (h1 : a = a') (h2 : b = b') : Ending.returned (.tuple #[.int k a, .int k' b]) = .returned (.tuple #[.int k a', .int k' b']) := by rw [h1, h2]
theorem ret_si {k' : IntKind} {a a' : ByteArray} {b b' : Int} (h1 : a = a') (h2 : b = b') : Ending.returned (.tuple #[.string a, .int k' b]) = .returned (.tuple #[.string a', .int k' b']) := by rw [h1, h2]
theorem empty_of_size {s : ByteArray} (h : s.size = 0) : s.toList = [] ∧ s.toList.isEmpty = true := by
  have e : s.toList = [] := by
    rw [ByteArray.toList_eq]
    exact List.eq_nil_of_length_eq_zero (by rw [Array.length_toList]; exact h)
  exact ⟨e, by rw [e]; rfl⟩
theorem full_of_size {s : ByteArray} (h : s.size ≠ 0) : s.toList ≠ [] ∧ s.toList.isEmpty = false := by
  have e : s.toList ≠ [] := by
    rw [ByteArray.toList_eq]
    intro h2
    exact h (by have := congrArg List.length h2; rw [Array.length_toList] at this; exact this)
  exact ⟨e, by cases h : s.toList with
    | nil => exact absurd h e
    | cons => rfl⟩
/-- What stood below block B in the old world stands there in the new one. -/
theorem bcell {B : Nat} {W w1 : World} (hb : Below B W w1) : (∀ b o, b < B → w1.cell? ⟨b, o, none⟩ = W.cell? ⟨b, o, none⟩) ∧ (∀ b o, b < B → w1.frozen? ⟨b, o, none⟩ = W.frozen? ⟨b, o, none⟩) :=
  ⟨fun b o h => hb.cell (p := ⟨b, o, none⟩) h, fun b o h => hb.frozen (p := ⟨b, o, none⟩) h⟩
theorem index_at {P : Program} (t : TypeId) (ht : P.underlying t = some .string) (s : ByteArray) (i : Int) (j : Nat) (e : i = (j : Int)) (hj : j < s.size) (w : World) : (Instr.index t (.string s) (.int .i64 i)).run P w = .ok (.int .u8 (s[j].toNat : Int)) w := by
  subst e
  rw [run_index_string w t s .i64 (j : Int) ht, dif_pos ⟨by omega, by omega⟩]
  rfl
theorem keep_trans {a b c : World} (h : Below a.heap.size a b) (k : Below b.heap.size b c) : Below a.heap.size a c := h.trans (k.mono h.size)
/-- 'int(uint(a) % uint(n))' is a place below n. -/
theorem place_of (a : Int) (n : Nat) (h : 0 < n) (hn : n ≤ 1000000) : ∃ k : Nat, k < n ∧ wrap64 ((IntKind.u64.wrap a).tmod (n : Int)) = (k : Int) := by
  rw [IntKind.wrap_u64]
  have h0 : 0 ≤ a % 18446744073709551616 := Int.emod_nonneg _ (by omega)
  obtain ⟨m, hm⟩ := Int.eq_ofNat_of_zero_le h0
  rw [hm, Int.tmod_eq_emod_of_nonneg (by omega)]
  refine ⟨m % n, Nat.mod_lt _ h, ?_⟩
  have : m % n < n := Nat.mod_lt _ h
  unfold wrap64
  rw [← Int.natCast_emod]
  omega
theorem eq_bytes {a b : ByteArray} (h : a.data.toList = b.data.toList) : a = b := by
  obtain ⟨⟨x⟩⟩ := a; obtain ⟨⟨y⟩⟩ := b; simp at h; subst h; rfl
end Go.Proofs.Ytcianlgkfkccoaa
