/-
  The walks of First and Any, the program's and the document's; the examples of the statements on patterns.
-/
import Derived.Test.YtcglfpgniifedaaGlobRMatch
import Derived.Test.YtcglfpgniifedaaArgs
namespace Go.Proofs.Ytcglfpgniifedaa
set_option linter.unusedSimpArgs false
set_option linter.unusedVariables false
open Go Go.RowKit

/-- The first pattern of a list that matches, and whether there is one. -/
def Gl.fstB (s : ByteArray) (ls : List ByteArray) : Bool := (ls.findIdx? fun p => Gl.mt p s).isSome
def Gl.fstN (s : ByteArray) (ls : List ByteArray) : Int := ((ls.findIdx? fun p => Gl.mt p s).getD 0 : Nat)
theorem Gl.fst_yes {ls : List ByteArray} {s : ByteArray} {k : Nat} (hk : k < ls.length) (h : ∀ j, j < k → Gl.mt (ls.getD j ByteArray.empty) s = false) (hm : Gl.mt (ls.getD k ByteArray.empty) s = true) : Gl.fstN s ls = k ∧ Gl.fstB s ls = true := by
  have e : ls.findIdx? (fun p => Gl.mt p s) = some k := by
    rw [List.findIdx?_eq_some_iff_getElem]
    refine ⟨hk, by simpa [hk] using hm, fun j hj => ?_⟩
    have := h j hj
    have hj' : j < ls.length := by omega
    simpa [hj'] using this
  unfold Gl.fstN Gl.fstB
  rw [e]
  exact ⟨rfl, rfl⟩
theorem Gl.fst_no {ls : List ByteArray} {s : ByteArray} (h : ∀ j, j < ls.length → Gl.mt (ls.getD j ByteArray.empty) s = false) : Gl.fstN s ls = 0 ∧ Gl.fstB s ls = false := by
  have e : ls.findIdx? (fun p => Gl.mt p s) = none := by
    rw [List.findIdx?_eq_none_iff]
    intro p hp
    obtain ⟨j, hj, rfl⟩ := List.getElem_of_mem hp
    have := h j hj
    simpa [hj] using this
  unfold Gl.fstN Gl.fstB
  rw [e]
  exact ⟨rfl, rfl⟩
/-- A block of strings, as an argument. -/
theorem lit_cells {w : World} {g : Nat} (ls : List ByteArray) (t : TypeId) (h : Bk w g t (ls.map Value.string).toArray) : Strs w (some ⟨g, 0, none⟩) ls := by
  intro i hi
  refine ⟨_, rfl, h.lt, ?_⟩
  have e : (⟨g, 0, none⟩ : Addr).add i = ⟨g, i, none⟩ := by
    unfold Addr.add
    split
    · rename_i h; rw [h]
    · simp
  rw [e, h.cell]
  simp [hi]


set_option maxHeartbeats 1000000 in
theorem first_any (ls : List ByteArray) (A : Option Addr) (cap : Nat) (s : ByteArray) (w : World) (hc : Strs w A ls)
    (hz : ∀ i, i < ls.length → (ls.getD i ByteArray.empty).size ≤ 1000000) (hs : s.size ≤ 1000000) (hl : ls.length ≤ 1000000) :
    Calls Try.prog 14 #[.slice A ls.length cap, .string s] w fun e w' => e = .returned (.tuple #[.int .i64 (Gl.fstN s ls), .bool (Gl.fstB s ls)]) ∧ Below w.heap.size w w' := by
  have hs' : s.size ≤ maxLen := by unfold maxLen; omega
  have HC := Lib.hid hc
  have HZ := Lib.hid hz
  clear hc hz
  go_enter Try.func14, Try.ntmps14
  go_wp2
  go_loopw [10] (fun i wr => ∃ k : Nat, k ≤ ls.length ∧ i = .int .i64 k ∧ Hid (∀ j, j < k → Gl.mt (ls.getD j ByteArray.empty) s = false) ∧ Below w.heap.size w wr) (fun i _ => ls.length - (intOf i).toNat)
  case atStart => exact ⟨0, Nat.zero_le _, rfl, fun j hj => absurd hj (by omega), Below.refl _ _⟩
  case round =>
    obtain ⟨k, hk, rfl, hno, hb⟩ := hrel
    have hB := Lib.hid hb
    clear hb
    by_cases hlt : k < ls.length
    · obtain ⟨a, rfl, hab, hc⟩ := HC.out k hlt
      obtain ⟨p, hp⟩ : ∃ p, p = ls.getD k ByteArray.empty := ⟨_, rfl⟩
      have h1 : wr.cell? (a.add k) = some (.string p) := by
        rw [hp, ← hc]
        exact hB.out.cell (by rw [show (a.add k).block = a.block by unfold Addr.add; split <;> rfl]; exact hab)
      have hpz : p.size ≤ maxLen := by rw [hp]; have := HZ.out k hlt; unfold maxLen; omega
      cases hm : Gl.mt p s with
      | true =>
        have hd := Lib.hid (Gl.fst_yes hlt hno.out (by rw [← hp]; exact hm))
        have M := Lib.hid hm
        clear hm hp hc
        go_wp2_with fail
        refine (gmatch_any p s _ hpz hs').mono ?_
        rintro e w1 ⟨rfl, hb1⟩
        rw [M.out]
        replace hB := Lib.hid (keep_trans hB.out hb1)
        clear hb1
        go_wp2_with fail
        go_ret2
        exact ⟨ret_ib hd.out.1.symm hd.out.2.symm, hB.out⟩
      | false =>
        have hn : Hid (∀ j, j < k + 1 → Gl.mt (ls.getD j ByteArray.empty) s = false) := fun j hj => by
          by_cases e : j = k
          · rw [e, ← hp]; exact hm
          · exact hno.out j (by omega)
        have M := Lib.hid hm
        clear hm hp hc
        go_wp2_with fail
        refine (gmatch_any p s _ hpz hs').mono ?_
        rintro e w1 ⟨rfl, hb1⟩
        rw [M.out]
        replace hB := Lib.hid (keep_trans hB.out hb1)
        clear hb1
        go_wp2_with fail
        go_roundw
        case rel => exact ⟨k + 1, by omega, by go_num, hn, hB.out⟩
        case measure => simp [intOf]; omega
    · have hd := Lib.hid (Gl.fst_no (ls := ls) (s := s) fun j hj => hno.out j (by omega))
      go_wp2_with fail
      go_ret2
      exact ⟨ret_ib hd.out.1.symm hd.out.2.symm, hB.out⟩


set_option maxHeartbeats 1000000 in
theorem rfirst_any (ls : List ByteArray) (A : Option Addr) (cap : Nat) (s : ByteArray) (w : World) (hc : Strs w A ls)
    (hz : ∀ i, i < ls.length → (ls.getD i ByteArray.empty).size ≤ 1000000) (hs : s.size ≤ 1000000) (hl : ls.length ≤ 1000000) :
    Calls Try.prog 15 #[.slice A ls.length cap, .string s] w fun e w' => e = .returned (.tuple #[.int .i64 (Gl.fstN s ls), .bool (Gl.fstB s ls)]) ∧ Below w.heap.size w w' := by
  have hs' : s.size ≤ 1000000 := by exact hs
  have HC := Lib.hid hc
  have HZ := Lib.hid hz
  clear hc hz
  go_enter Try.func15, Try.ntmps15
  go_wp2
  go_loopw [6] (fun i wr => ∃ k : Nat, k ≤ ls.length ∧ i = .int .i64 k ∧ Hid (∀ j, j < k → Gl.mt (ls.getD j ByteArray.empty) s = false) ∧ Below w.heap.size w wr) (fun i _ => ls.length - (intOf i).toNat)
  case atStart => exact ⟨0, Nat.zero_le _, rfl, fun j hj => absurd hj (by omega), Below.refl _ _⟩
  case round =>
    obtain ⟨k, hk, rfl, hno, hb⟩ := hrel
    have hB := Lib.hid hb
    clear hb
    by_cases hlt : k < ls.length
    · obtain ⟨a, rfl, hab, hc⟩ := HC.out k hlt
      obtain ⟨p, hp⟩ : ∃ p, p = ls.getD k ByteArray.empty := ⟨_, rfl⟩
      have h1 : wr.cell? (a.add k) = some (.string p) := by
        rw [hp, ← hc]
        exact hB.out.cell (by rw [show (a.add k).block = a.block by unfold Addr.add; split <;> rfl]; exact hab)
      have hpz : p.size ≤ 1000000 := by rw [hp]; have := HZ.out k hlt; exact this
      cases hm : Gl.mt p s with
      | true =>
        have hd := Lib.hid (Gl.fst_yes hlt hno.out (by rw [← hp]; exact hm))
        have M := Lib.hid hm
        clear hm hp hc
        go_wp2_with fail
        refine (rmatch_any p s _ hpz hs').mono ?_
        rintro e w1 ⟨rfl, hb1⟩
        rw [M.out]
        replace hB := Lib.hid (keep_trans hB.out hb1)
        clear hb1
        go_wp2_with fail
        go_ret2
        exact ⟨ret_ib hd.out.1.symm hd.out.2.symm, hB.out⟩
      | false =>
        have hn : Hid (∀ j, j < k + 1 → Gl.mt (ls.getD j ByteArray.empty) s = false) := fun j hj => by
          by_cases e : j = k
          · rw [e, ← hp]; exact hm
          · exact hno.out j (by omega)
        have M := Lib.hid hm
        clear hm hp hc
        go_wp2_with fail
        refine (rmatch_any p s _ hpz hs').mono ?_
        rintro e w1 ⟨rfl, hb1⟩
        rw [M.out]
        replace hB := Lib.hid (keep_trans hB.out hb1)
        clear hb1
        go_wp2_with fail
        go_roundw
        case rel => exact ⟨k + 1, by omega, by go_num, hn, hB.out⟩
        case measure => simp [intOf]; omega
    · have hd := Lib.hid (Gl.fst_no (ls := ls) (s := s) fun j hj => hno.out j (by omega))
      go_wp2_with fail
      go_ret2
      exact ⟨ret_ib hd.out.1.symm hd.out.2.symm, hB.out⟩


set_option maxHeartbeats 1000000 in
theorem any_any (ls : List ByteArray) (A : Option Addr) (cap : Nat) (s : ByteArray) (w : World) (hc : Strs w A ls)
    (hz : ∀ i, i < ls.length → (ls.getD i ByteArray.empty).size ≤ 1000000) (hs : s.size ≤ 1000000) (hl : ls.length ≤ 1000000) :
    Calls Try.prog 16 #[.slice A ls.length cap, .string s] w fun e w' => e = .returned (.bool (Gl.fstB s ls)) ∧ Below w.heap.size w w' := by
  have C := Lib.hid (first_any ls A cap s w hc hz hs hl)
  clear hc hz
  go_enter Try.func16, Try.ntmps16
  go_wp2_with fail
  refine C.out.mono ?_
  rintro e w1 ⟨rfl, hb1⟩
  go_wp2_with fail
  go_ret
  exact ⟨rfl, hb1⟩

theorem gawake_f (g : Nat) (w : World) (h : Bk w g 9 (([⟨#[42, 47, 120]⟩, ⟨#[97, 47, 42]⟩, ⟨#[97, 47, 120]⟩] : List ByteArray).map Value.string).toArray) : Calls Try.prog 14 #[.slice (some ⟨g, 0, none⟩) 3 3, .string ⟨#[97, 47, 120]⟩] w fun e w' => e = .returned (.tuple #[.int .i64 0, .bool true]) ∧ Below w.heap.size w w' := by
  have := first_any ([⟨#[42, 47, 120]⟩, ⟨#[97, 47, 42]⟩, ⟨#[97, 47, 120]⟩] : List ByteArray) (some ⟨g, 0, none⟩) 3 ⟨#[97, 47, 120]⟩ w (lit_cells _ _ h) (by decide) (by decide) (by decide)
  rwa [show Gl.fstN ⟨#[97, 47, 120]⟩ ([⟨#[42, 47, 120]⟩, ⟨#[97, 47, 42]⟩, ⟨#[97, 47, 120]⟩] : List ByteArray) = 0 by decide +kernel, show Gl.fstB ⟨#[97, 47, 120]⟩ ([⟨#[42, 47, 120]⟩, ⟨#[97, 47, 42]⟩, ⟨#[97, 47, 120]⟩] : List ByteArray) = true by decide +kernel] at this
theorem gawake_a (g : Nat) (w : World) (h : Bk w g 9 (([⟨#[42, 47, 120]⟩, ⟨#[97, 47, 42]⟩] : List ByteArray).map Value.string).toArray) : Calls Try.prog 16 #[.slice (some ⟨g, 0, none⟩) 2 2, .string ⟨#[98]⟩] w fun e w' => e = .returned (.bool false) ∧ Below w.heap.size w w' := by
  have := any_any ([⟨#[42, 47, 120]⟩, ⟨#[97, 47, 42]⟩] : List ByteArray) (some ⟨g, 0, none⟩) 2 ⟨#[98]⟩ w (lit_cells _ _ h) (by decide) (by decide) (by decide)
  rwa [show Gl.fstB ⟨#[98]⟩ ([⟨#[42, 47, 120]⟩, ⟨#[97, 47, 42]⟩] : List ByteArray) = false by decide +kernel] at this
theorem gawake_c1 (w : World) : Calls Try.prog 12 #[.string ⟨#[97, 47, 42, 46, 116, 120, 116]⟩, .string ⟨#[97, 47, 98, 46, 116, 120, 116]⟩] w fun e w' => e = .returned (.bool true) ∧ Below w.heap.size w w' := by
  have := gmatch_any ⟨#[97, 47, 42, 46, 116, 120, 116]⟩ ⟨#[97, 47, 98, 46, 116, 120, 116]⟩ w (by decide) (by decide)
  rwa [show Gl.mt ⟨#[97, 47, 42, 46, 116, 120, 116]⟩ ⟨#[97, 47, 98, 46, 116, 120, 116]⟩ = true by decide +kernel] at this
theorem gawake_c2 (w : World) : Calls Try.prog 12 #[.string ⟨#[97, 47, 42, 46, 116, 120, 116]⟩, .string ⟨#[97, 47, 98, 47, 99, 46, 116, 120, 116]⟩] w fun e w' => e = .returned (.bool false) ∧ Below w.heap.size w w' := by
  have := gmatch_any ⟨#[97, 47, 42, 46, 116, 120, 116]⟩ ⟨#[97, 47, 98, 47, 99, 46, 116, 120, 116]⟩ w (by decide) (by decide)
  rwa [show Gl.mt ⟨#[97, 47, 42, 46, 116, 120, 116]⟩ ⟨#[97, 47, 98, 47, 99, 46, 116, 120, 116]⟩ = false by decide +kernel] at this
theorem gawake_c3 (w : World) : Calls Try.prog 12 #[.string ⟨#[42, 97, 42, 98]⟩, .string ⟨#[120, 97, 120, 98, 120, 98]⟩] w fun e w' => e = .returned (.bool true) ∧ Below w.heap.size w w' := by
  have := gmatch_any ⟨#[42, 97, 42, 98]⟩ ⟨#[120, 97, 120, 98, 120, 98]⟩ w (by decide) (by decide)
  rwa [show Gl.mt ⟨#[42, 97, 42, 98]⟩ ⟨#[120, 97, 120, 98, 120, 98]⟩ = true by decide +kernel] at this
theorem gawake_c4 (w : World) : Calls Try.prog 12 #[.string ⟨#[97, 63, 99]⟩, .string ⟨#[97, 98, 99]⟩] w fun e w' => e = .returned (.bool true) ∧ Below w.heap.size w w' := by
  have := gmatch_any ⟨#[97, 63, 99]⟩ ⟨#[97, 98, 99]⟩ w (by decide) (by decide)
  rwa [show Gl.mt ⟨#[97, 63, 99]⟩ ⟨#[97, 98, 99]⟩ = true by decide +kernel] at this
theorem gawake_c5 (w : World) : Calls Try.prog 12 #[.string ⟨#[63, 63]⟩, .string ⟨#[97, 47]⟩] w fun e w' => e = .returned (.bool false) ∧ Below w.heap.size w w' := by
  have := gmatch_any ⟨#[63, 63]⟩ ⟨#[97, 47]⟩ w (by decide) (by decide)
  rwa [show Gl.mt ⟨#[63, 63]⟩ ⟨#[97, 47]⟩ = false by decide +kernel] at this

set_option maxHeartbeats 1000000 in
theorem gawake_any (w : World) :
    Calls Try.prog 11 #[] w fun e w' => e = .returned (.bool true) ∧ Below w.heap.size w w' := by
  have hB : Hid (Below w.heap.size w w) := Below.refl _ _
  go_enter Try.func11, Try.ntmps11
  go_wp2_with fail
  refine (gawake_f _ _ (Bk.fresh w _ _)).mono ?_
  rintro e w1 ⟨rfl, hb1⟩
  replace hB := Lib.hid (keep_trans ((Below.refl _ _).alloc (Nat.le_refl _) _) hb1)
  clear hb1
  go_wp2_with fail
  refine (gawake_c1 _).mono ?_
  rintro e w1 ⟨rfl, hb1⟩
  replace hB := Lib.hid (keep_trans hB.out hb1)
  clear hb1
  go_wp2_with fail
  refine (gawake_c2 _).mono ?_
  rintro e w1 ⟨rfl, hb1⟩
  replace hB := Lib.hid (keep_trans hB.out hb1)
  clear hb1
  go_wp2_with fail
  refine (gawake_c3 _).mono ?_
  rintro e w1 ⟨rfl, hb1⟩
  replace hB := Lib.hid (keep_trans hB.out hb1)
  clear hb1
  go_wp2_with fail
  refine (gawake_c4 _).mono ?_
  rintro e w1 ⟨rfl, hb1⟩
  replace hB := Lib.hid (keep_trans hB.out hb1)
  clear hb1
  go_wp2_with fail
  refine (gawake_c5 _).mono ?_
  rintro e w1 ⟨rfl, hb1⟩
  replace hB := Lib.hid (keep_trans hB.out hb1)
  clear hb1
  go_wp2_with fail
  refine (gawake_a _ _ (Bk.fresh _ _ _)).mono ?_
  rintro e w2 ⟨rfl, hb2⟩
  replace hB := Lib.hid ((hB.out.alloc hB.out.size _).trans (hb2.mono (by have := hB.out.size; simp; omega)))
  clear hb2
  go_wp2_with fail
  go_ret
  exact ⟨rfl, hB.out⟩
end Go.Proofs.Ytcglfpgniifedaa
