/-
  Plain facts on names of roles and on paths. No program in sight.
-/
import Derived.Test.YtcianlgkfkccoaaUtfRef
import Derived.Laws.Strings
namespace Go.Proofs.Ytcianlgkfkccoaa.Nm
set_option linter.unusedSimpArgs false
set_option linter.unusedVariables false
open Go

/-- May a byte stand in a name? -/
def part (c : Nat) : Bool := (decide (97 ≤ c) && decide (c ≤ 122)) || (decide (65 ≤ c) && decide (c ≤ 90)) || (decide (48 ≤ c) && decide (c ≤ 57)) || (c == 46) || (c == 95) || (c == 45)
/-- May the first k bytes? -/
def partTo (s : ByteArray) : Nat → Bool
  | 0 => true
  | k + 1 => partTo s k && part (Uf.b s k)
theorem partTo_no (s : ByteArray) : ∀ (n k : Nat), k < n → part (Uf.b s k) = false → partTo s n = false
  | n + 1, k, h, e => by
    by_cases hk : k = n
    · subst hk; simp [partTo, e]
    · simp [partTo, partTo_no s n k (by omega) e]
theorem partTo_iff (s : ByteArray) : ∀ n : Nat, partTo s n = true ↔ ∀ k : Nat, k < n → part (Uf.b s k) = true
  | 0 => ⟨fun _ k h => by omega, fun _ => rfl⟩
  | n + 1 => by
    simp only [partTo, Bool.and_eq_true, partTo_iff s n]
    constructor
    · rintro ⟨h, e⟩ k hk
      by_cases hkn : k = n
      · subst hkn; exact e
      · exact h k (by omega)
    · intro h
      exact ⟨fun k hk => h k (by omega), h n (by omega)⟩
/-- Is it a name? -/
def role (s : ByteArray) : Bool := decide (1 ≤ s.size) && decide (s.size ≤ 64) && !(Uf.b s 0 == 46) && partTo s s.size
/-- Is it a path? -/
def path (s : ByteArray) : Bool := decide (1 ≤ s.size) && decide (s.size ≤ 256) && !(Uf.b s 0 == 47) && Uf.valid s
def rootB : ByteArray := ⟨#[114, 111, 111, 116]⟩
def snapB : ByteArray := ⟨#[115, 110, 97, 112, 115, 104, 111, 116]⟩
def targB : ByteArray := ⟨#[116, 97, 114, 103, 101, 116, 115]⟩
def top (s : ByteArray) : Bool := (s.toList == rootB.toList) || (s.toList == snapB.toList) || (s.toList == targB.toList)
def sufB : ByteArray := ⟨#[46, 106, 115, 111, 110]⟩
def fileS (s : ByteArray) : ByteArray := if role s then s ++ sufB else ByteArray.empty
def fileE (s : ByteArray) : Int := if role s then 0 else 3
/-- Does a text end with .json? -/
def hasSuf (s : ByteArray) : Bool := decide (5 ≤ s.size) && ((s.extract (s.size - 5) s.size).toList == sufB.toList)
def cut (s : ByteArray) : ByteArray := s.extract 0 (s.size - 5)
def isFile (s : ByteArray) : Bool := hasSuf s && role (cut s)
def roleS (s : ByteArray) : ByteArray := if isFile s then cut s else ByteArray.empty
def roleE (s : ByteArray) : Int := if isFile s then 0 else 3
end Go.Proofs.Ytcianlgkfkccoaa.Nm
