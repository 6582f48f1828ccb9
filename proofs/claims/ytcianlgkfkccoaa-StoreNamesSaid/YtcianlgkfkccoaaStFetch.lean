/-
  The walk of fetch.
-/
import Derived.Test.YtcianlgkfkccoaaStClone
import Derived.Outline
namespace Go.Proofs.Ytcianlgkfkccoaa
set_option linter.unusedSimpArgs false
set_option linter.unusedVariables false
open Go Go.RowKit

theorem toList_inj {a b : ByteArray} (h : a.toList = b.toList) : a = b := by
  rw [ByteArray.toList_eq, ByteArray.toList_eq] at h
  exact eq_bytes (by rw [h])
theorem eq_true {a b : ByteArray} (h : a = b) : (a.toList == b.toList) = true := by rw [h]; exact beq_self_eq_true _
theorem eq_false {a b : ByteArray} (h : a ≠ b) : (a.toList == b.toList) = false := by rw [beq_eq_false_iff_ne]; exact fun e => h (toList_inj e)
theorem below_put {a w : World} (h : Below a.heap.size a w) (o : Nat) (u : Value) : Below a.heap.size a (w.setCell ⟨a.heap.size, o, none⟩ u) := h.setCell (Nat.le_refl _) u
namespace St
theorem first_hit : ∀ (fs : List (ByteArray × ByteArray)) (n : ByteArray) (k : Nat), k < fs.length → (∀ j, j < k → (fs.getD j (⟨#[]⟩, ⟨#[]⟩)).1 ≠ n) → (fs.getD k (⟨#[]⟩, ⟨#[]⟩)).1 = n → first fs n = some (fs.getD k (⟨#[]⟩, ⟨#[]⟩)).2
  | [], n, k, h, _, _ => by simp at h
  | f :: r, n, 0, _, _, h => by
    have h : f.1 = n := h
    rw [first, if_pos h]; rfl
  | f :: r, n, k + 1, h, hn, h1 => by
    have h0 : f.1 ≠ n := hn 0 (by omega)
    rw [first, if_neg h0]
    exact first_hit r n k (by simpa using h) (fun j hj => hn (j + 1) (by omega)) h1
theorem came_yes {n : ByteArray} {c : Int} {d : ByteArray} (h : (d.size : Int) ≤ c) : came n c (some d) = ⟨n, c, d.size, d⟩ := if_pos h
theorem came_no {n : ByteArray} {c : Int} {d : ByteArray} (h : ¬ (d.size : Int) ≤ c) : came n c (some d) = ⟨n, c, -2, ⟨#[]⟩⟩ := if_neg h
theorem first_miss (fs : List (ByteArray × ByteArray)) (n : ByteArray) (h : ∀ j, j < fs.length → (fs.getD j (⟨#[]⟩, ⟨#[]⟩)).1 ≠ n) : first fs n = none := by
  rw [first_none]
  intro e he
  obtain ⟨j, hj, rfl⟩ := List.getElem_of_mem he
  have := h j hj
  rwa [List.getD_eq_getElem?_getD, List.getElem?_eq_getElem hj] at this
end St

set_option maxRecDepth 20000 in
set_option maxHeartbeats 1000000 in
theorem fetch_any (g : Nat) (A : Option Addr) (fs : List (ByteArray × ByteArray)) (cap : Nat) (n : ByteArray) (c : Int) (w : World) (h1 : w.cell? ⟨g, 1, none⟩ = some (.slice A fs.length cap)) (hF : Files w A fs) (hl : fs.length ≤ 1000000) (hc0 : 0 ≤ c) (hc1 : c ≤ 65536) :
    Calls Try.prog 30 #[.pointer (some ⟨g, 0, none⟩), .string n, .int .i64 c] w fun e w' => e = .returned (resV (St.fetch fs n c)) ∧ Below w.heap.size w w' := by
  have HF := Lib.hid hF
  clear hF
  have hgl := World.block_lt_of_cell? w _ h1
  go_enter Try.func30, Try.ntmps30
  go_wp2_with fail
  go_loopw [14] (fun c wr => ∃ k : Nat, k ≤ fs.length ∧ c = .int .i64 k ∧ Hid (∀ j, j < k → (fs.getD j (⟨#[]⟩, ⟨#[]⟩)).1 ≠ n) ∧ Hid (Below w.heap.size w wr) ∧ Bk wr w.heap.size 67 #[.int .i64 0, .int .i64 0, .string ⟨#[]⟩]) (fun c _ => fs.length - (intOf c).toNat)
  case atStart => exact ⟨0, Nat.zero_le _, rfl, fun j hj => by omega, (Below.refl _ _).alloc (Nat.le_refl _) _, Bk.fresh w _ _⟩
  case round =>
    obtain ⟨k, hk, rfl, hg, hb, hR⟩ := hrel
    have hz := hR.lt
    have r0 := hR.cell 0
    have r1 := hR.cell 1
    have r2 := hR.cell 2
    have z0 := hR.frozen 0
    have z1 := hR.frozen 1
    have z2 := hR.frozen 2
    have HR := Lib.hid hR
    clear hR
    by_cases hlt : k < fs.length
    · obtain ⟨b, o, rfl, hbl, c1, c2⟩ := HF.out.later hb.out k hlt
      by_cases he : (fs.getD k (⟨#[]⟩, ⟨#[]⟩)).1 = n
      · have hf : Hid (St.fetch fs n c = St.came n c (some (fs.getD k (⟨#[]⟩, ⟨#[]⟩)).2)) := by
          show _ = _
          unfold St.fetch
          rw [St.first_hit fs n k hlt hg.out he]
        have n0 := eq_true he
        have HE := Lib.hid he
        clear he
        generalize fs.getD k (⟨#[]⟩, ⟨#[]⟩) = f at *
        obtain ⟨f1, f2⟩ := f
        by_cases hs : (f2.size : Int) ≤ c
        · have n1 : decide (c < (f2.size : Int)) = false := decide_eq_false (by omega)
          have hv : Hid (resV (St.fetch fs n c) = .agg #[.int .i64 c, .int .i64 f2.size, .string f2]) := by show _ = _; rw [hf.out, St.came_yes hs]; rfl
          go_wp2_with fail
          refine bodyPost_ret (v := .agg #[.int .i64 c, .int .i64 f2.size, .string f2]) (by simp [results, Try.results30, go_sem, *]) rfl ⟨by rw [hv.out], ?_⟩
          exact (below_put (below_put (below_put hb.out _ _) _ _) _ _).alloc (by simpa [World.setCell] using hb.out.size) _
        · have n1 : decide (c < (f2.size : Int)) = true := decide_eq_true (by omega)
          have hv : Hid (resV (St.fetch fs n c) = .agg #[.int .i64 c, .int .i64 (-2), .string ⟨#[]⟩]) := by show _ = _; rw [hf.out, St.came_no hs]; rfl
          go_wp2_with fail
          refine bodyPost_ret (v := .agg #[.int .i64 c, .int .i64 (-2), .string ⟨#[]⟩]) (by simp [results, Try.results30, go_sem, *]) rfl ⟨by rw [hv.out], ?_⟩
          exact (below_put (below_put (below_put hb.out _ _) _ _) _ _).alloc (by simpa [World.setCell] using hb.out.size) _
      · have n0 := eq_false he
        have hg2 : Hid (∀ j, j < k + 1 → (fs.getD j (⟨#[]⟩, ⟨#[]⟩)).1 ≠ n) := fun j hj => by
          by_cases e : j = k
          · subst e; exact he
          · exact hg.out j (by omega)
        clear he
        generalize hf : fs.getD k (⟨#[]⟩, ⟨#[]⟩) = f at *
        clear hf
        obtain ⟨f1, f2⟩ := f
        go_wp2_with fail
        go_roundw
        case rel => exact ⟨k + 1, by omega, by go_num, hg2, hb.out.alloc hb.out.size _, HR.out.grow (World.grownBy_alloc wr _ none) (by simp)⟩
        case measure => simp [intOf]; omega
    · have : k = fs.length := by omega
      subst this
      have hv : Hid (resV (St.fetch fs n c) = .agg #[.int .i64 c, .int .i64 (-1), .string ⟨#[]⟩]) := by show _ = _; unfold St.fetch; rw [St.first_miss fs n hg.out]; rfl
      go_wp2_with fail
      refine bodyPost_ret (v := .agg #[.int .i64 c, .int .i64 (-1), .string ⟨#[]⟩]) (by simp [results, Try.results30, go_sem, *]) rfl ⟨by rw [hv.out], ?_⟩
      exact below_put (below_put (below_put hb.out _ _) _ _) _ _
end Go.Proofs.Ytcianlgkfkccoaa
