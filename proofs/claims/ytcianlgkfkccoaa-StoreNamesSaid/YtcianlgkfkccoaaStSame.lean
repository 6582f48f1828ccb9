/-
  The walk of the reference's Same, at lists that are the same; two like fetches compared.
-/
import Derived.Test.YtcianlgkfkccoaaStNew
import Derived.Laws.StructEq
import Derived.Deep.QuietTactic
import Derived.IntWalk
namespace Go.Proofs.Ytcianlgkfkccoaa
set_option linter.unusedSimpArgs false
set_option linter.unusedVariables false
open Go Go.RowKit

theorem fet_und : Try.prog.underlying 41 = some (.struct (Try.prog.fieldsOf 41)) := by kernel_rfl
theorem fet_stood : Try.prog.stoodInHeld 41 = false := by kernel_rfl
theorem fet_guard : Try.prog.eqGuardType Try.prog.depth 41 = false := by kernel_rfl
theorem guard_fet (op : BinOp) (x y : Operand) (xs ys : Array Value) (w : World) : (eqGuard op 41 x y (.agg xs) (.agg ys)).run Try.prog w = .ok () w := run_eqGuard_agg w op _ x y xs ys fet_guard
theorem eqIn_same (r n : ByteArray) (c s : Int) (w : World) : (Op.equalIn 10000 41 (.agg #[.string r, .string n, .int .i64 c, .int .i64 s]) (.agg #[.string r, .string n, .int .i64 c, .int .i64 s])).run Try.prog w = .ok true w := by
  have u3 := Try.underlying3
  have a3 := Try.isAgg3
  have z3 := Try.sizeOf3
  have u9 := Try.underlying9
  have a9 := Try.isAgg9
  have z9 := Try.sizeOf9
  rw [show (10000 : Nat) = 9999 + 1 from rfl, run_equalIn_agg w 9999 41 _ _ fet_und fet_stood]
  simp only [Program.fieldsOf, Try.underlying41]
  go_simp
theorem neq_same (r n : ByteArray) (c s : Int) (w : World) : (binOp .neq 41 (.agg #[.string r, .string n, .int .i64 c, .int .i64 s]) (.agg #[.string r, .string n, .int .i64 c, .int .i64 s])).run Try.prog w = .ok (.bool false) w := by
  rw [run_neq_struct, eqIn_same]
  rfl
theorem eql_same (r n : ByteArray) (c s : Int) (w : World) : (binOp .eql 41 (.agg #[.string r, .string n, .int .i64 c, .int .i64 s]) (.agg #[.string r, .string n, .int .i64 c, .int .i64 s])).run Try.prog w = .ok (.bool true) w := by
  rw [run_eql_struct, eqIn_same]
  rfl
def en0 : St.En := ⟨⟨#[]⟩, 0, 0, ⟨#[]⟩⟩
/-- A slice that reads as these fetches. -/
def Fets (w : World) (A : Option Addr) (repo : ByteArray) (l : List St.En) : Prop :=
  ∀ i, i < l.length → ∃ b o : Nat, A = some ⟨b, o, none⟩ ∧ b < w.heap.size ∧ w.cell? ⟨b, o + i * 4, none⟩ = some (.string repo) ∧ w.cell? ⟨b, o + i * 4 + 1, none⟩ = some (.string (l.getD i en0).name) ∧ w.cell? ⟨b, o + i * 4 + 2, none⟩ = some (.int .i64 (l.getD i en0).cap) ∧ w.cell? ⟨b, o + i * 4 + 3, none⟩ = some (.int .i64 (l.getD i en0).size)
theorem fetC_at (repo : ByteArray) : ∀ (l : List St.En) (i : Nat), i < l.length → (fetC repo l)[i * 4]? = some (.string repo) ∧ (fetC repo l)[i * 4 + 1]? = some (.string (l.getD i en0).name) ∧ (fetC repo l)[i * 4 + 2]? = some (.int .i64 (l.getD i en0).cap) ∧ (fetC repo l)[i * 4 + 3]? = some (.int .i64 (l.getD i en0).size)
  | [], i, h => by simp at h
  | f :: r, 0, h => by refine ⟨?_, ?_, ?_, ?_⟩ <;> rfl
  | f :: r, i + 1, h => by
    have := fetC_at repo r i (by simpa using h)
    have e : fetC repo (f :: r) = .string repo :: .string f.name :: .int .i64 f.cap :: .int .i64 f.size :: fetC repo r := rfl
    rw [e, show (i + 1) * 4 = i * 4 + 1 + 1 + 1 + 1 by omega]
    exact this
theorem fetC_one (repo : ByteArray) (l : List St.En) : ∀ u ∈ fetC repo l, u.oneCell' = true := by
  intro u hu
  unfold fetC at hu
  obtain ⟨f, _, hf⟩ := List.mem_flatMap.1 hu
  simp at hf
  rcases hf with rfl | rfl | rfl | rfl <;> rfl
theorem Fets.of_own {w : World} {B : Nat} {v : Value} {repo : ByteArray} {l : List St.En} (h : w.ownsRow B 41 4 v l.length (fetC repo l)) : ∃ A cap, v = .slice A l.length cap ∧ Fets w A repo l := by
  rcases h.2 with ⟨rfl, hn⟩ | ⟨g, cap, cur, rfl, hb, hh, hnc, _, hsz, htk⟩
  · exact ⟨none, 0, by rw [hn], fun i hi => by omega⟩
  · refine ⟨_, cap, rfl, fun i hi => ⟨g, 0, rfl, (Array.getElem?_eq_some_iff.1 hh).1, ?_⟩⟩
    obtain ⟨q1, q2, q3, q4⟩ := fetC_at repo l i hi
    rw [← htk, List.getElem?_take] at q1 q2 q3 q4
    rw [Nat.zero_add, cell_of_row w g _ cur _ (0, 0) hh, cell_of_row w g _ cur _ (0, 0) hh, cell_of_row w g _ cur _ (0, 0) hh, cell_of_row w g _ cur _ (0, 0) hh]
    rw [if_pos (by omega)] at q1 q2 q3 q4
    exact ⟨by simpa using q1, by simpa using q2, by simpa using q3, by simpa using q4⟩
theorem Fets.later {w w' : World} {A : Option Addr} {repo : ByteArray} {l : List St.En} (h : Fets w A repo l) (hb : Below w.heap.size w w') : Fets w' A repo l := fun i hi => by
  obtain ⟨b, o, e, hl, h1, h2, h3, h4⟩ := h i hi
  exact ⟨b, o, e, Nat.lt_of_lt_of_le hl hb.size, (hb.cell (p := ⟨b, _, none⟩) hl).trans h1, (hb.cell (p := ⟨b, _, none⟩) hl).trans h2, (hb.cell (p := ⟨b, _, none⟩) hl).trans h3, (hb.cell (p := ⟨b, _, none⟩) hl).trans h4⟩
theorem Fets.drawn {w : World} {A : Option Addr} {repo : ByteArray} {l : List St.En} (h : Fets w A repo l) (n : Nat) : Fets (w.drewN n) A repo l := h

set_option maxRecDepth 20000 in
set_option maxHeartbeats 1000000 in
theorem same_fets (A B : Option Addr) (c d : Nat) (repo : ByteArray) (l : List St.En) (w : World) (ha : Fets w A repo l) (hb : Fets w B repo l) (hl : l.length ≤ 1000000) :
    Calls Try.prog 21 #[.slice A l.length c, .slice B l.length d] w fun e w' => e = .returned (.bool true) ∧ Below w.heap.size w w' := by
  have HA := Lib.hid ha
  have HB := Lib.hid hb
  clear ha hb
  have n0 : ((l.length : Int) == (l.length : Int)) = true := beq_self_eq_true _
  have gd := guard_fet
  go_enter Try.func21, Try.ntmps21
  go_wp2_with fail
  go_loopw [5] (fun c wr => ∃ k : Nat, k ≤ l.length ∧ c = .int .i64 k ∧ Hid (Below w.heap.size w wr)) (fun c _ => l.length - (intOf c).toNat)
  case atStart => exact ⟨0, Nat.zero_le _, rfl, Below.refl _ _⟩
  case round =>
    obtain ⟨k, hk, rfl, hbel⟩ := hrel
    by_cases hlt : k < l.length
    · obtain ⟨b, o, rfl, hbl, a0, a1, a2, a3⟩ := HA.out.later hbel.out k hlt
      obtain ⟨b', o', rfl, hbl', b0, b1, b2, b3⟩ := HB.out.later hbel.out k hlt
      have hn := fun W => neq_same repo (l.getD k en0).name (l.getD k en0).cap (l.getD k en0).size W
      generalize l.getD k en0 = x at *
      have i0 : (0 : Int) ≤ (k : Int) := by omega
      have i1 : (k : Int) < (l.length : Int) := by omega
      go_wp2_with fail
      go_quiet (fail)
      go_wp2_with fail
      go_roundw
      case rel => exact ⟨k + 1, by omega, by go_num, below_drawn hbel.out _⟩
      case measure => simp [intOf]; omega
    · have : k = l.length := by omega
      subst this
      go_wp2_with fail
      go_ret
      exact ⟨rfl, hbel.out⟩
theorem same_own (va vb : Value) (B C : Nat) (repo : ByteArray) (l : List St.En) (w : World) (ha : w.ownsRow B 41 4 va l.length (fetC repo l)) (hb : w.ownsRow C 41 4 vb l.length (fetC repo l)) (hl : l.length ≤ 1000000) :
    Calls Try.prog 21 #[va, vb] w fun e w' => e = .returned (.bool true) ∧ Below w.heap.size w w' := by
  obtain ⟨A, c, rfl, hA⟩ := Fets.of_own ha
  obtain ⟨A', c', rfl, hA'⟩ := Fets.of_own hb
  exact same_fets A A' c c' repo l w hA hA' hl
end Go.Proofs.Ytcianlgkfkccoaa
