/-
  The walks of the copies of slices and maps.
-/
import Derived.Test.YtcianlgkfkccoaaStFns
import Derived.Shelf.SlMaps.Clone
namespace Go.Proofs.Ytcianlgkfkccoaa
set_option linter.unusedSimpArgs false
set_option linter.unusedVariables false
open Go Go.RowKit

theorem info_string : (Try.prog.info? 9).map (fun i => (i.zero, i.size, i.bytes)) = some (some (.string ⟨#[]⟩), 1, 16) := by kernel_rfl
theorem info_file : (Try.prog.info? 35).map (fun i => (i.zero, i.size, i.bytes)) = some (some (.agg #[.string ⟨#[]⟩, .string ⟨#[]⟩]), 2, 32) := by kernel_rfl
theorem info_fetch : (Try.prog.info? 41).map (fun i => (i.zero, i.size, i.bytes)) = some (some (.agg #[.string ⟨#[]⟩, .string ⟨#[]⟩, .int .i64 0, .int .i64 0]), 4, 48) := by kernel_rfl

theorem fcells_len : ∀ fs : List (ByteArray × ByteArray), (fcells fs).length = fs.length * 2
  | [] => rfl
  | f :: r => by
    have := fcells_len r
    unfold fcells at *
    rw [List.flatMap_cons, List.length_append, this]
    simp; omega
theorem fcells_at : ∀ (fs : List (ByteArray × ByteArray)) (i : Nat), i < fs.length → (fcells fs)[i * 2]? = some (.string (fs.getD i (⟨#[]⟩, ⟨#[]⟩)).1) ∧ (fcells fs)[i * 2 + 1]? = some (.string (fs.getD i (⟨#[]⟩, ⟨#[]⟩)).2)
  | [], i, h => by simp at h
  | f :: r, 0, h => by constructor <;> rfl
  | f :: r, i + 1, h => by
    have := fcells_at r i (by simpa using h)
    have e : fcells (f :: r) = .string f.1 :: .string f.2 :: fcells r := rfl
    rw [e, show (i + 1) * 2 = i * 2 + 1 + 1 by omega]
    exact ⟨this.1, this.2⟩
theorem fcells_one (fs : List (ByteArray × ByteArray)) : ∀ u ∈ fcells fs, u.oneCell' = true := by
  intro u hu
  unfold fcells at hu
  obtain ⟨f, _, hf⟩ := List.mem_flatMap.1 hu
  simp at hf
  rcases hf with rfl | rfl <;> rfl
theorem Files.news {w : World} {a : Addr} {fs : List (ByteArray × ByteArray)} (h : Files w (some a) fs) : ∀ j u, (fcells fs)[j]? = some u → w.cell? (a.add j) = some u := by
  intro j u hj
  have hjl : j < fs.length * 2 := by rw [← fcells_len]; exact (List.getElem?_eq_some_iff.1 hj).1
  obtain ⟨b, o, e, hb, h1, h2⟩ := h (j / 2) (by omega)
  cases e
  obtain ⟨q1, q2⟩ := fcells_at fs (j / 2) (by omega)
  rw [Addr.add_lit]
  rcases Nat.mod_two_eq_zero_or_one j with hm | hm
  · have ej : j = j / 2 * 2 := by omega
    rw [← ej] at q1 h1
    rw [h1, ← q1, hj]
  · have ej : j = j / 2 * 2 + 1 := by omega
    rw [Nat.add_assoc, ← ej] at h2
    rw [← ej] at q2
    rw [h2, ← q2, hj]
/-- What is owned reads as files. -/
theorem Files.of_own {w : World} {B : Nat} {v : Value} {fs : List (ByteArray × ByteArray)} (h : w.ownsRow B 35 2 v fs.length (fcells fs)) : ∃ A cap, v = .slice A fs.length cap ∧ Files w A fs := by
  rcases h.2 with ⟨rfl, hn⟩ | ⟨g, cap, cur, rfl, hb, hh, hnc, _, hsz, htk⟩
  · exact ⟨none, 0, by rw [hn], fun i hi => by omega⟩
  · refine ⟨_, cap, rfl, fun i hi => ⟨g, 0, rfl, (Array.getElem?_eq_some_iff.1 hh).1, ?_⟩⟩
    obtain ⟨q1, q2⟩ := fcells_at fs i hi
    rw [← htk, List.getElem?_take] at q1 q2
    rw [Nat.zero_add, cell_of_row w g _ cur _ (0, 0) hh, cell_of_row w g _ cur _ (0, 0) hh]
    rw [if_pos (by omega)] at q1 q2
    exact ⟨by simpa using q1, by simpa using q2⟩
theorem eql_files (w : World) (a : Option Addr) (n c n' c' : Nat) : (binOp .eql 22 (.slice a n c) (.slice none n' c')).run Try.prog w = .ok (.bool a.isNone) w := Lib.run_eql_slice_nil w _ _ a n c n' c' Try.underlying22
theorem eql_strs (w : World) (a : Option Addr) (n c n' c' : Nat) : (binOp .eql 47 (.slice a n c) (.slice none n' c')).run Try.prog w = .ok (.bool a.isNone) w := Lib.run_eql_slice_nil w _ _ a n c n' c' Try.underlying47

set_option maxRecDepth 20000 in
set_option maxHeartbeats 1000000 in
theorem fclone_any (A : Option Addr) (fs : List (ByteArray × ByteArray)) (cap : Nat) (w : World) (hc : Files w A fs) (hl : fs.length ≤ 1000000) :
    Calls Try.prog 27 #[.slice A fs.length cap] w fun e w' => ∃ v, e = .returned v ∧ w'.ownsRow w.heap.size 35 2 v fs.length (fcells fs) ∧ Below w.heap.size w w' := by
  obtain ⟨i0, hi0, hz0, hz1, hz2⟩ := info_parts info_file
  have q24 : ∀ (w : World) (a : Option Addr) (n c n' c' : Nat), (binOp .eql 22 (.slice a n c) (.slice none n' c')).run Try.prog w = .ok (.bool a.isNone) w := eql_files
  cases A with
  | none =>
    obtain rfl : fs = [] := by
      cases fs with
      | nil => rfl
      | cons x r => obtain ⟨b, o, e, _⟩ := hc 0 (by simp); cases e
    go_enter Try.func27, Try.ntmps27
    go_wp2_with fail
    go_ret
    exact ⟨_, rfl, World.ownsRow_nil _ _ _ _, Below.refl _ _⟩
  | some a =>
    have HC := Lib.hid hc.news
    clear hc
    go_enter Try.func27, Try.ntmps27
    go_wp2_with (at_builtin; refine wpList_append_own _ rfl _ _ _ rfl w.heap.size 35 i0 _ 2 32 Try.underlying22 hi0 hz0 hz1 hz2 rfl (by omega) _ _ _ rfl (World.ownsRow_made w #[] 0 (Nat.le_refl _) (Nat.zero_le _) rfl) a fs.length cap (fcells fs) rfl ?qc1 ?qc2 ?qc3 ?qc4 ?qc5 ?qc6 ?_)
    case qc1 => exact fcells_len fs
    case qc2 =>
      intro j u hj
      exact Lib.cell?_alloc_some _ (HC.out j u hj)
    case qc3 => exact fcells_one fs
    case qc4 => unfold maxLen; omega
    case qc5 => omega
    case qc6 => simp
    intro v' w1 hown hgrow hnil
    go_wp2_with fail
    go_ret
    exact ⟨_, rfl, by simpa using hown, ((Below.refl _ w).alloc (Nat.le_refl _) _).grown hgrow (by simp) (by intro k hk; simp [Value.ownBlock] at hk; omega)⟩

/-- A slice of strings, owned, said by its cells. -/
theorem own_news {w : World} {B : Nat} {e : TypeId} {n size : Nat} {v : Value} {xs : List Value} (h : w.ownsRow B e size v n xs) : v = .slice none 0 0 ∧ n = 0 ∧ xs = [] ∨ ∃ g cap, v = .slice (some ⟨g, 0, none⟩) n cap ∧ B ≤ g ∧ g < w.heap.size ∧ ∀ j u, xs[j]? = some u → w.cell? ((⟨g, 0, none⟩ : Addr).add j) = some u := by
  rcases h.2 with ⟨rfl, rfl⟩ | ⟨g, cap, cur, rfl, hb, hh, r⟩
  · exact .inl ⟨rfl, rfl, List.eq_nil_of_length_eq_zero (by simpa using h.1)⟩
  · exact .inr ⟨g, cap, rfl, hb, (Array.getElem?_eq_some_iff.1 hh).1, fun j u hj => h.cells (g := g) rfl j u hj⟩
theorem names_one (l : List St.En) : ∀ u ∈ names l, u.oneCell' = true := by
  intro u hu
  obtain ⟨x, _, rfl⟩ := List.mem_map.1 hu
  rfl
theorem names_len (l : List St.En) : (names l).length = l.length := by unfold names; simp
set_option maxRecDepth 20000 in
set_option maxHeartbeats 1000000 in
theorem nclone_any (B : Nat) (v : Value) (l : List St.En) (w : World) (hc : w.ownsRow B 9 1 v l.length (names l)) (hl : l.length ≤ 1000000) :
    Calls Try.prog 32 #[v] w fun e w' => ∃ v, e = .returned v ∧ w'.ownsRow w.heap.size 9 1 v l.length (names l) ∧ Below w.heap.size w w' := by
  obtain ⟨i0, hi0, hz0, hz1, hz2⟩ := info_parts info_string
  have q24 : ∀ (w : World) (a : Option Addr) (n c n' c' : Nat), (binOp .eql 47 (.slice a n c) (.slice none n' c')).run Try.prog w = .ok (.bool a.isNone) w := eql_strs
  rcases own_news hc with ⟨rfl, hn, hx⟩ | ⟨g, cap, rfl, hB, hg, hcell⟩
  · rw [hn, hx]
    clear hn hx hc
    go_enter Try.func32, Try.ntmps32
    go_wp2_with fail
    go_ret
    exact ⟨_, rfl, World.ownsRow_nil _ _ _ _, Below.refl _ _⟩
  · have HC := Lib.hid hcell
    clear hcell hc
    go_enter Try.func32, Try.ntmps32
    go_wp2_with (at_builtin; refine wpList_append_own _ rfl _ _ _ rfl w.heap.size 9 i0 _ 1 16 Try.underlying47 hi0 hz0 hz1 hz2 rfl (by omega) _ _ _ rfl (World.ownsRow_made w #[] 0 (Nat.le_refl _) (Nat.zero_le _) rfl) ⟨g, 0, none⟩ l.length cap (names l) rfl ?qc1 ?qc2 ?qc3 ?qc4 ?qc5 ?qc6 ?_)
    case qc1 => rw [names_len]; omega
    case qc2 =>
      intro j u hj
      exact Lib.cell?_alloc_some _ (HC.out j u hj)
    case qc3 => exact names_one l
    case qc4 => unfold maxLen; omega
    case qc5 => omega
    case qc6 => simp
    intro v' w1 hown hgrow hnil
    go_wp2_with fail
    go_ret
    exact ⟨_, rfl, by simpa using hown, ((Below.refl _ w).alloc (Nat.le_refl _) _).grown hgrow (by simp) (by intro k hk; simp [Value.ownBlock] at hk; omega)⟩

/-! ### maps.Clone -/
theorem eql_map (w : World) (r : Option Nat) : (binOp .eql 59 (.map r) (.map none)).run Try.prog w = .ok (.bool r.isNone) w := run_eql_map_nil w _ _ _ r Try.underlying59
theorem call_clone (args : Array Value) (w : World) : (callFunc 35 args).run Try.prog w = ((Extern.MapsClone.clone args).run Try.prog w).andThen fun v w' => .ok (.value v) w' :=
  run_callFunc_extern Try.func35 (by kernel_rfl) (by kernel_rfl) (by kernel_rfl) (by kernel_rfl) args w
set_option maxRecDepth 20000 in
set_option maxHeartbeats 1000000 in
theorem mclone_any (m : Nat) (l : List St.En) (w : World) (h : MapIs w m l) :
    Calls Try.prog 31 #[.map (some m)] w fun e w' => e = .returned (.map (some w.heap.size)) ∧ MapIs w' w.heap.size l ∧ Below w.heap.size w w' := by
  have hq := fun w => eql_map w (some m)
  have H := Lib.hid h
  clear h
  go_enter Try.func31, Try.ntmps31
  go_wp2_with fail
  rw [call_clone, run_maps_clone_sl w 59 H.out]
  simp only [Result.andThen]
  rw [Oper.upon_value]
  go_wp2_with fail
  rw [run_typeAssert_map_sl _ _ _ _ _ _ Try.underlying59]
  simp only [Result.andThen]
  rw [Oper.upon_value]
  go_wp2_with fail
  go_ret
  exact ⟨rfl, (MapKept.heap_alloc w _).1, (Below.refl _ w).alloc (Nat.le_refl _) _⟩
end Go.Proofs.Ytcianlgkfkccoaa
