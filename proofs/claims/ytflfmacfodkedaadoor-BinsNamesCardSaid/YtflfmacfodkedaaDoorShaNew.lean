/-
  The walks of sha.New, (*sha.Hash).Len, (*sha.Hash).Copy.
-/
import Derived.Test.YtflfmacfodkedaaDoorShaWrite
import Derived.Deep.WholeRow
namespace Go.Proofs.YtflfmacfodkedaaDoor
set_option linter.unusedSimpArgs false
set_option linter.unusedVariables false
open Go Go.RowKit

/-- The cells of a hash that nobody began. -/
def zeroH : Array Value := #[.bool false, .int .u32 0, .int .u32 0, .int .u32 0, .int .u32 0, .int .u32 0, .int .u32 0, .int .u32 0, .int .u32 0, .int .u8 0, .int .u8 0, .int .u8 0, .int .u8 0, .int .u8 0, .int .u8 0, .int .u8 0, .int .u8 0, .int .u8 0, .int .u8 0, .int .u8 0, .int .u8 0, .int .u8 0, .int .u8 0, .int .u8 0, .int .u8 0, .int .u8 0, .int .u8 0, .int .u8 0, .int .u8 0, .int .u8 0, .int .u8 0, .int .u8 0, .int .u8 0, .int .u8 0, .int .u8 0, .int .u8 0, .int .u8 0, .int .u8 0, .int .u8 0, .int .u8 0, .int .u8 0, .int .u8 0, .int .u8 0, .int .u8 0, .int .u8 0, .int .u8 0, .int .u8 0, .int .u8 0, .int .u8 0, .int .u8 0, .int .u8 0, .int .u8 0, .int .u8 0, .int .u8 0, .int .u8 0, .int .u8 0, .int .u8 0, .int .u8 0, .int .u8 0, .int .u8 0, .int .u8 0, .int .u8 0, .int .u8 0, .int .u8 0, .int .u8 0, .int .u8 0, .int .u8 0, .int .u8 0, .int .u8 0, .int .u8 0, .int .u8 0, .int .u8 0, .int .u8 0, .int .i64 0]
theorem zeroH_size : zeroH.size = 74 := rfl
theorem hash_info : (Tryd.prog.info? 86).map (fun i => (i.zero, i.size)) = some (some (.agg zeroH), 74) := by kernel_rfl
theorem hash_zero (w : World) : (zeroValue 86).run Tryd.prog w = .ok (.agg zeroH) w := (zero_of_info hash_info).1 w
theorem hash_size : (Tryd.prog.info? 86).map (·.size) = some 74 := (zero_of_info hash_info).2
def newH : Array Value := #[.bool true, vU 0x6a09e667, vU 0xbb67ae85, vU 0x3c6ef372, vU 0xa54ff53a, vU 0x510e527f, vU 0x9b05688c, vU 0x1f83d9ab, vU 0x5be0cd19, .int .u8 0, .int .u8 0, .int .u8 0, .int .u8 0, .int .u8 0, .int .u8 0, .int .u8 0, .int .u8 0, .int .u8 0, .int .u8 0, .int .u8 0, .int .u8 0, .int .u8 0, .int .u8 0, .int .u8 0, .int .u8 0, .int .u8 0, .int .u8 0, .int .u8 0, .int .u8 0, .int .u8 0, .int .u8 0, .int .u8 0, .int .u8 0, .int .u8 0, .int .u8 0, .int .u8 0, .int .u8 0, .int .u8 0, .int .u8 0, .int .u8 0, .int .u8 0, .int .u8 0, .int .u8 0, .int .u8 0, .int .u8 0, .int .u8 0, .int .u8 0, .int .u8 0, .int .u8 0, .int .u8 0, .int .u8 0, .int .u8 0, .int .u8 0, .int .u8 0, .int .u8 0, .int .u8 0, .int .u8 0, .int .u8 0, .int .u8 0, .int .u8 0, .int .u8 0, .int .u8 0, .int .u8 0, .int .u8 0, .int .u8 0, .int .u8 0, .int .u8 0, .int .u8 0, .int .u8 0, .int .u8 0, .int .u8 0, .int .u8 0, .int .u8 0, .int .i64 0]
theorem newH_part : (newH.toList.drop 9).take 64 = List.replicate 64 (Value.int .u8 0) := rfl
theorem newH_hc : HC newH Sh.s0 (List.replicate 64 0) 0 where
  size := rfl
  begun := rfl
  state := fun j hj => by
    rcases j with _ | _ | _ | _ | _ | _ | _ | _ | j
    all_goals first | rfl | omega
  part := fun j hj => by
    rw [← Array.getElem?_toList, ← List.getElem?_drop, show (newH.toList.drop 9)[j]? = ((newH.toList.drop 9).take 64)[j]? by rw [List.getElem?_take, if_pos hj], newH_part, List.getElem?_replicate, if_pos hj, List.getD_eq_getElem?_getD, List.getElem?_replicate, if_pos hj]
    rfl
  len := rfl
theorem newH_mid : Mid newH [] (List.replicate 64 0) 0 := ⟨newH_hc, by simp, by simp, by simp⟩
set_option maxRecDepth 20000 in
set_option maxHeartbeats 1000000 in
theorem new_any (w : World) (hT : Tb w) : Calls Tryd.prog 53 #[] w fun e w' => e = .returned (.pointer (some ⟨w.heap.size, 0, none⟩)) ∧ Below w.heap.size w w' ∧ w'.heap.size = w.heap.size + 1 ∧ Held w' w.heap.size [] := by
  have i0 : w.cell? ⟨1, 0, none⟩ = some (vU 0x6a09e667) := hT.ini 0 (by omega)
  have i1 : w.cell? ⟨1, 1, none⟩ = some (vU 0xbb67ae85) := hT.ini 1 (by omega)
  have i2 : w.cell? ⟨1, 2, none⟩ = some (vU 0x3c6ef372) := hT.ini 2 (by omega)
  have i3 : w.cell? ⟨1, 3, none⟩ = some (vU 0xa54ff53a) := hT.ini 3 (by omega)
  have i4 : w.cell? ⟨1, 4, none⟩ = some (vU 0x510e527f) := hT.ini 4 (by omega)
  have i5 : w.cell? ⟨1, 5, none⟩ = some (vU 0x9b05688c) := hT.ini 5 (by omega)
  have i6 : w.cell? ⟨1, 6, none⟩ = some (vU 0x1f83d9ab) := hT.ini 6 (by omega)
  have i7 : w.cell? ⟨1, 7, none⟩ = some (vU 0x5be0cd19) := hT.ini 7 (by omega)
  have hz := hash_zero
  unfold zeroH at hz
  go_enter Tryd.func53, Tryd.ntmps53
  go_wp2_with fail
  go_ret
  exact ⟨rfl, (Below.refl _ _).alloc (Nat.le_refl _) _, by simp, newH, _, Bk.fresh w _ newH, newH_mid⟩
theorem fits_hc {cs : Array Value} {s : Sh.St} {p : List Nat} {n : Nat} (h : HC cs s p n) : cs.all (·.oneCell') = true := by
  refine Array.all_eq_true_iff_forall_mem.2 fun v hv => ?_
  obtain ⟨j, hj, e⟩ := Array.mem_iff_getElem?.1 hv |>.elim fun j e => (⟨j, (Array.getElem?_eq_some_iff.1 e).1, e⟩ : ∃ j, ∃ _ : j < cs.size, cs[j]? = some v)
  rw [h.size] at hj
  by_cases h0 : j = 0
  · subst h0; rw [h.begun] at e; cases e; rfl
  · by_cases h1 : j < 9
    · obtain ⟨i, rfl⟩ : ∃ i, j = 1 + i := ⟨j - 1, by omega⟩
      rw [h.state i (by omega)] at e; cases e; rfl
    · by_cases h2 : j < 73
      · obtain ⟨i, rfl⟩ : ∃ i, j = 9 + i := ⟨j - 9, by omega⟩
        rw [h.part i (by omega)] at e; cases e; rfl
      · obtain rfl : j = 73 := by omega
        rw [h.len] at e; cases e; rfl
end Go.Proofs.YtflfmacfodkedaaDoor
