/-
  Helpers of the statements on names: many, file, none, awake.
-/
import Derived.Test.YtdfbcobicjklhaaNameFns2
import Derived.Test.YtdfbcobicjklhaaNameLaw
import Derived.Test.YtdfbcobicjklhaaBlk
namespace Go.Proofs.Ytdfbcobicjklhaa
set_option linter.unusedSimpArgs false
set_option linter.unusedVariables false
open Go Go.RowKit

theorem made_at (z : Value) (n j : Nat) (h : j < n) : ∃ v, (madeCells #[z] n)[j]? = some v := by
  have : (madeCells #[z] n).size = n := by simp [madeCells]
  exact ⟨_, Array.getElem?_eq_getElem (by omega)⟩
set_option maxHeartbeats 800000 in
theorem many_any (c : UInt8) (n : Nat) (w : World) (hn : n ≤ 100000) :
    Calls Try.prog 23 #[.int .u8 (c.toNat : Int), .int .i64 n] w fun e w' => e = .returned (.string ⟨(List.replicate n c).toArray⟩) ∧ Below w.heap.size w w' := by
  have hmk := run_make_row' (P := Try.prog) 27 5 (.int .u8 0) 1 Try.underlying27 info_u8 rfl .i64 .i64 n (by omega) (by omega)
  have hc := c.toNat_lt
  go_enter Try.func23, Try.ntmps23
  go_wp2_with fail
  go_loopw [6] (fun i wr => ∃ (k : Nat) (cur : Array Value), k ≤ n ∧ i = .int .i64 k ∧ Blk wr w.heap.size 5 cur ∧ cur.size = n ∧ (∀ j, j < k → cur[j]? = some (.int .u8 (c.toNat : Int))) ∧ Below w.heap.size w wr) (fun i _ => n - (intOf i).toNat)
  case atStart => exact ⟨0, _, Nat.zero_le _, rfl, Blk.new _ _ _, by simp [madeCells], fun j hj => by omega, (Below.refl _ _).alloc (Nat.le_refl _) _⟩
  case round =>
    obtain ⟨k, cur, hk, rfl, hB, hz, hj, hb⟩ := hrel
    by_cases hlt : k < n
    · obtain ⟨v, hv⟩ : ∃ v, cur[k]? = some v := ⟨_, Array.getElem?_eq_getElem (by omega)⟩
      have hcell : wr.cell? ⟨w.heap.size, k, none⟩ = some v := (hB.cell k).trans hv
      have hfrz : wr.frozen? ⟨w.heap.size, k, none⟩ = false := hB.frozen k
      have K := Lib.hid (And.intro hB (And.intro hz (And.intro hj hb)))
      clear hB hz hj hb hv
      go_wp2_with fail
      go_roundw
      case rel =>
        refine ⟨k + 1, _, by omega, by go_num, K.out.1.set_ k _, by rw [Array.size_setIfInBounds]; exact K.out.2.1, fun j h => ?_, K.out.2.2.2.setCell (Nat.le_refl _) _⟩
        rw [Array.getElem?_setIfInBounds]
        by_cases e : k = j
        · subst e; rw [if_pos rfl, if_pos (by rw [K.out.2.1]; exact hlt)]
        · rw [if_neg e]; exact K.out.2.2.1 j (by omega)
      case measure => simp [intOf]; omega
    · have hsay : (convert 27 9 (.slice (some ⟨w.heap.size, 0, none⟩) n n)).run Try.prog wr = .ok (.string ⟨(List.replicate n c).toArray⟩) wr := by
        have := hB.say (List.replicate n c) 0 n (fun i hi => by
          rw [List.length_replicate] at hi
          rw [Nat.zero_add, hj i (by omega), List.getElem_replicate])
        rwa [List.length_replicate] at this
      have hb' := Lib.hid hb
      clear hB hz hj hb
      go_wp2_with fail
      go_ret
      exact ⟨rfl, hb'.out⟩

set_option maxHeartbeats 800000 in
theorem lfile_any (a s : ByteArray) (w : World) (ha : a.size ≤ 1000000) (hs : s.size ≤ 1000000) (h : Nm.role a = true) (he : a ++ Nm.sufB = s) :
    Calls Try.prog 25 #[.string a, .string s] w fun e w' => e = .returned (.bool true) ∧ w = w' := by
  subst he
  have h1 : Nm.fileS a = a ++ Nm.sufB := by unfold Nm.fileS; rw [h]; rfl
  have h2 : Nm.fileE a = 0 := by unfold Nm.fileE; rw [h]; rfl
  obtain ⟨_, h3, h4⟩ := Nm.isFile_app a h
  have H := Lib.hid (And.intro h1 (And.intro h2 (And.intro h3 h4)))
  clear h1 h2 h3 h4 h
  generalize a ++ Nm.sufB = s at *
  go_enter Try.func25, Try.ntmps25
  go_wp2_with fail
  refine (file_any a _ ha).mono ?_
  rintro e _ ⟨rfl, rfl⟩
  rw [H.out.1, H.out.2.1]
  go_wp2_with fail
  refine (roleOf_any s _ hs).mono ?_
  rintro e _ ⟨rfl, rfl⟩
  rw [H.out.2.2.1, H.out.2.2.2]
  go_wp2_with fail
  go_ret
  exact ⟨rfl, rfl⟩
theorem none_any (s : ByteArray) (w : World) (hs : s.size ≤ 1000000) (h : Nm.isFile s = false) :
    Calls Try.prog 26 #[.string s] w fun e w' => e = .returned (.bool true) ∧ w = w' := by
  have h3 : Nm.roleS s = ByteArray.empty := by unfold Nm.roleS; rw [h]; rfl
  have h4 : Nm.roleE s = 3 := by unfold Nm.roleE; rw [h]; rfl
  have H := Lib.hid (And.intro h3 h4)
  clear h3 h4 h
  go_enter Try.func26, Try.ntmps26
  go_wp2_with fail
  refine (roleOf_any s _ hs).mono ?_
  rintro e _ ⟨rfl, rfl⟩
  rw [H.out.1, H.out.2]
  go_wp2_with fail
  go_ret
  exact ⟨rfl, rfl⟩
end Go.Proofs.Ytdfbcobicjklhaa
