/-
  The walks of package bins, and of the document's words beside it: Prefixed.
-/
import Derived.Test.YtflfmacfodkedaaDoorBinsFns2
namespace Go.Proofs.YtflfmacfodkedaaDoor
set_option linter.unusedSimpArgs false
set_option linter.unusedVariables false
open Go Go.RowKit
attribute [local irreducible] Sh.sha shaS

set_option maxRecDepth 20000 in
set_option maxHeartbeats 1000000 in
theorem bPrefixed_any (ls : List ByteArray) (A : Option Addr) (cap : Nat) (path : ByteArray) (w : World) (hT : Tb w) (hD : Digs w) (hc : Strs w A ls) (hz : ∀ i, i < ls.length → (ls.getD i ByteArray.empty).size ≤ maxLen) (hl : ls.length ≤ maxLen) (hs : path.size ≤ 1099511627776) :
    Calls Tryd.prog 16 #[.slice A ls.length cap, .string path] w fun e w' => e = .returned (.bool (Bn.prd ls path)) ∧ Below w.heap.size w w' := by
  have hd := Bn.dig_size path
  have hl2 : ls.length ≤ 9223372036854775807 := by unfold maxLen at hl; omega
  have HC := Lib.hid hc
  have HZ := Lib.hid hz
  clear hc hz
  go_enter Tryd.func16, Tryd.ntmps16
  go_wp2_with fail
  refine (digest_any path _ hT hD hs).mono ?_
  rintro e w1 ⟨rfl, hb⟩
  rw [show Hx.enc (shaS path) = Bn.dig path from rfl]
  have hB1 := Lib.hid hb
  clear hb
  have hYes : Hid (∀ k, k < ls.length → (Bn.isP (ls.getD k ByteArray.empty) && hasPre (Bn.dig path) (ls.getD k ByteArray.empty)) = true → Bn.prd ls path = true) := fun k => Bn.prd_yes
  have hNo := Lib.hid (@Bn.prd_no ls path)
  generalize Bn.dig path = d at *
  go_wp2_with fail
  go_loop [12] (fun i => ∃ k : Nat, k ≤ ls.length ∧ i = .int .i64 k ∧ Hid (∀ j, j < k → (Bn.isP (ls.getD j ByteArray.empty) && hasPre d (ls.getD j ByteArray.empty)) = false)) (fun i => ls.length - (intOf i).toNat)
  case atStart => exact ⟨0, Nat.zero_le _, rfl, fun j hj => absurd hj (by omega)⟩
  case round =>
    obtain ⟨k, hk, rfl, hno⟩ := hrel
    by_cases hlt : k < ls.length
    · obtain ⟨a, rfl, hab, hc⟩ := HC.out k hlt
      have hyk := Lib.hid (hYes.out k hlt)
      have hpz := HZ.out k hlt
      have hnk : Hid (∀ b, (Bn.isP (ls.getD k ByteArray.empty) && hasPre d (ls.getD k ByteArray.empty)) = b → b = false → ∀ j, j < k + 1 → (Bn.isP (ls.getD j ByteArray.empty) && hasPre d (ls.getD j ByteArray.empty)) = false) := fun b hb hb2 j hj => by
        by_cases e : j = k
        · rw [e, hb, hb2]
        · exact hno.out j (by omega)
      generalize ls.getD k ByteArray.empty = p at *
      have h1 : w1.cell? (a.add k) = some (.string p) := (hB1.out.cell (by rw [add_block]; exact hab)).trans hc
      clear hc
      cases hi : Bn.isP p with
      | false =>
        have hn2 := Lib.hid (hnk.out false (by rw [hi]; rfl) rfl)
        go_wp2_with fail
        refine (bIs_any p _ hpz).mono ?_
        rintro e _ ⟨rfl, rfl⟩
        rw [hi]
        go_wp2_with fail
        go_round
        case rel => exact ⟨k + 1, by omega, by go_num, hn2⟩
        case measure => simp [intOf]; omega
      | true =>
        cases hp : hasPre d p with
        | false =>
          have hn2 := Lib.hid (hnk.out false (by rw [hi, hp]; rfl) rfl)
          go_wp2_with fail
          refine (bIs_any p _ hpz).mono ?_
          rintro e _ ⟨rfl, rfl⟩
          rw [hi]
          go_wp2_with fail
          refine (hasPrefix_any d p _ (by rw [hd]; unfold maxLen; omega) hpz).mono ?_
          rintro e _ ⟨rfl, rfl⟩
          rw [hp]
          go_wp2_with fail
          go_round
          case rel => exact ⟨k + 1, by omega, by go_num, hn2⟩
          case measure => simp [intOf]; omega
        | true =>
          have hr := Lib.hid (hyk.out (by rw [hi, hp]; rfl))
          go_wp2_with fail
          refine (bIs_any p _ hpz).mono ?_
          rintro e _ ⟨rfl, rfl⟩
          rw [hi]
          go_wp2_with fail
          refine (hasPrefix_any d p _ (by rw [hd]; unfold maxLen; omega) hpz).mono ?_
          rintro e _ ⟨rfl, rfl⟩
          rw [hp]
          go_wp2_with fail
          go_ret
          exact ⟨ret_b hr.out.symm, hB1.out⟩
    · have hr := Lib.hid (hNo.out fun j hj => hno.out j (by omega))
      go_wp2_with fail
      go_ret
      exact ⟨ret_b hr.out.symm, hB1.out⟩
set_option maxRecDepth 20000 in
set_option maxHeartbeats 1000000 in
theorem rPrefixed_any (ls : List ByteArray) (A : Option Addr) (cap : Nat) (path : ByteArray) (w : World)  (hc : Strs w A ls) (hz : ∀ i, i < ls.length → (ls.getD i ByteArray.empty).size ≤ maxLen) (hl : ls.length ≤ maxLen) (hs : path.size ≤ 1099511627776) :
    Calls Tryd.prog 17 #[.slice A ls.length cap, .string path] w fun e w' => e = .returned (.bool (Bn.prd ls path)) ∧ Below w.heap.size w w' := by
  have hd := Bn.dig_size path
  have hl2 : ls.length ≤ 9223372036854775807 := by unfold maxLen at hl; omega
  have HC := Lib.hid hc
  have HZ := Lib.hid hz
  clear hc hz
  go_enter Tryd.func17, Tryd.ntmps17
  go_wp2_with fail
  refine (rdigest_any path _ hs).mono ?_
  rintro e w1 ⟨rfl, hb⟩
  rw [show Hx.enc (shaS path) = Bn.dig path from rfl]
  have hB1 := Lib.hid hb
  clear hb
  have hYes : Hid (∀ k, k < ls.length → (Bn.isP (ls.getD k ByteArray.empty) && hasPre (Bn.dig path) (ls.getD k ByteArray.empty)) = true → Bn.prd ls path = true) := fun k => Bn.prd_yes
  have hNo := Lib.hid (@Bn.prd_no ls path)
  generalize Bn.dig path = d at *
  go_wp2_with fail
  go_loopw [6] (fun i wr => ∃ k : Nat, k ≤ ls.length ∧ i = .int .i64 k ∧ Hid (∀ j, j < k → (Bn.isP (ls.getD j ByteArray.empty) && hasPre d (ls.getD j ByteArray.empty)) = false) ∧ Hid (Below w.heap.size w wr)) (fun i _ => ls.length - (intOf i).toNat)
  case atStart => exact ⟨0, Nat.zero_le _, rfl, (fun j hj => absurd hj (by omega)), hB1⟩
  case round =>
    obtain ⟨k, hk, rfl, hno, hR⟩ := hrel
    by_cases hlt : k < ls.length
    · obtain ⟨a, rfl, hab, hc⟩ := HC.out k hlt
      have hyk := Lib.hid (hYes.out k hlt)
      have hpz := HZ.out k hlt
      have hnk : Hid (∀ b, (Bn.isP (ls.getD k ByteArray.empty) && hasPre d (ls.getD k ByteArray.empty)) = b → b = false → ∀ j, j < k + 1 → (Bn.isP (ls.getD j ByteArray.empty) && hasPre d (ls.getD j ByteArray.empty)) = false) := fun b hb hb2 j hj => by
        by_cases e : j = k
        · rw [e, hb, hb2]
        · exact hno.out j (by omega)
      generalize ls.getD k ByteArray.empty = p at *
      have h1 : wr.cell? (a.add k) = some (.string p) := (hR.out.cell (by rw [add_block]; exact hab)).trans hc
      clear hc
      have T : Hid (∀ W, Calls Tryd.prog 13 #[.string p] W fun e w' => e = .returned (.bool (Bn.isP p)) ∧ w' = W) := fun W => (rbIs_any p W hpz).mono fun e w' h => ⟨h.1, h.2.symm⟩
      cases hi : Bn.isP p with
      | false =>
        have hn2 := Lib.hid (hnk.out false (by rw [hi]; rfl) rfl)
        rw [hi] at T
        go_wp2_with fail
        go_quiet ((go_at_call 13; exact Calls.quiet_of_same (T.out _)))
        obtain ⟨wq, hwq⟩ : ∃ wq : World, wq = wr.drewN nq := ⟨_, rfl⟩
        have hR2 : Hid (Below w.heap.size w wq) := by rw [hwq]; exact Lib.hid (below_drawn hR.out nq)
        rw [← hwq]
        clear hwq
        go_wp2_with fail
        go_roundw
        case rel => exact ⟨k + 1, by omega, by go_num, hn2, hR2⟩
        case measure => simp [intOf]; omega
      | true =>
        rw [hi] at T
        have hp64 : p.size ≤ 64 := by
          unfold Bn.isP at hi
          simp only [Bool.and_eq_true, decide_eq_true_eq] at hi
          exact hi.1.2
        have he : hasPre d p = ((d.extract 0 p.size).toList == p.toList) := by
          unfold hasPre
          rw [decide_eq_true (by omega)]
          rfl
        cases hp : ((d.extract 0 p.size).toList == p.toList) with
        | false =>
          have hn2 := Lib.hid (hnk.out false (by rw [hi, he, hp]; rfl) rfl)
          clear he
          go_wp2_with fail
          go_quiet ((go_at_call 13; exact Calls.quiet_of_same (T.out _)))
          obtain ⟨wq, hwq⟩ : ∃ wq : World, wq = wr.drewN nq := ⟨_, rfl⟩
          have hR2 : Hid (Below w.heap.size w wq) := by rw [hwq]; exact Lib.hid (below_drawn hR.out nq)
          rw [← hwq]
          clear hwq
          go_wp2_with fail
          go_roundw
          case rel => exact ⟨k + 1, by omega, by go_num, hn2, hR2⟩
          case measure => simp [intOf]; omega
        | true =>
          have hr := Lib.hid (hyk.out (by rw [hi, he, hp]; rfl))
          clear he
          go_wp2_with fail
          go_quiet ((go_at_call 13; exact Calls.quiet_of_same (T.out _)))
          obtain ⟨wq, hwq⟩ : ∃ wq : World, wq = wr.drewN nq := ⟨_, rfl⟩
          have hR2 : Hid (Below w.heap.size w wq) := by rw [hwq]; exact Lib.hid (below_drawn hR.out nq)
          rw [← hwq]
          clear hwq
          go_wp2_with fail
          go_ret
          exact ⟨ret_b hr.out.symm, hR2.out⟩
    · have hr := Lib.hid (hNo.out fun j hj => hno.out j (by omega))
      go_wp2_with fail
      go_ret
      exact ⟨ret_b hr.out.symm, hR.out⟩
end Go.Proofs.YtflfmacfodkedaaDoor
