/-
  The statement NameBytes, walked: it returns true.
-/
import Derived.Test.YtdfbcobicjklhaaNameAwake
import Derived.Deep.QuietTactic
import Derived.OpenShut
namespace Go.Proofs.Ytdfbcobicjklhaa
set_option linter.unusedSimpArgs false
set_option linter.unusedVariables false
open Go Go.RowKit

theorem one_u8 (c : UInt8) (w : World) (g : Nat) (hc : w.cell? ⟨g, 0, none⟩ = some (.int .u8 (c.toNat : Int))) :
    (convert 27 9 (.slice (some ⟨g, 0, none⟩) 1 1)).run Try.prog w = .ok (.string (Nm.oneB c)) w := by
  have := run_convert_bytes_arg (P := Try.prog) w 27 5 Try.underlying27 Try.underlying5 g 0 1 1 [(c.toNat : Int)] rfl (fun i hi => by
    obtain rfl : i = 0 := by omega
    simpa using hc) 9 Try.underlying9
  simpa [strOfNums, Nm.oneB] using this

theorem flipw {P : Program} {f : FuncId} {args : Array Value} {w : World} {v : Value} (h : Calls P f args w fun e w' => e = .returned v ∧ w = w') : Calls P f args w fun e w' => e = .returned v ∧ w' = w := h.mono fun _ _ ⟨a, b⟩ => ⟨a, b.symm⟩

set_option maxHeartbeats 2000000 in
theorem nameBytes_walk0 (s : ByteArray) (at_ : Int) (c : UInt8) (w : World) (hs : s.size ≤ maxLen) :
    Calls Try.prog 7 #[.string s, .int .i64 at_, .int .u8 (c.toNat : Int)] w fun e w' => e = .returned (.bool true) ∧ Below w.heap.size w w' := by
  have hB : Hid (Below w.heap.size w w) := Below.refl _ _
  by_cases h : 3000 < s.size
  · go_enter Try.func7, Try.ntmps7
    go_wp2_with fail
    refine (nawake_any _).mono ?_
    rintro e w1 ⟨rfl, hb1⟩
    replace hB := Lib.hid (keep_trans hB.out hb1)
    clear hb1
    go_wp2_with fail
    go_ret
    exact ⟨rfl, hB.out⟩
  cases hr : Nm.role s with
  | false =>
    have e1 := Lib.hid hr
    clear hr
    go_enter Try.func7, Try.ntmps7
    go_wp2_with fail
    refine (role_any s _ hs).mono ?_
    rintro e _ ⟨rfl, rfl⟩
    rw [e1.out]
    go_wp2_with fail
    refine (nawake_any _).mono ?_
    rintro e w1 ⟨rfl, hb1⟩
    replace hB := Lib.hid (keep_trans hB.out hb1)
    clear hb1
    go_wp2_with fail
    go_ret
    exact ⟨rfl, hB.out⟩
  | true =>
    have hz := ((Nm.role_iff s).1 hr).1
    have hz1 : (s.size : Int) ≠ 0 := by omega
    have e1 := Lib.hid hr
    obtain ⟨k, hk, hke⟩ := place_of at_ s.size (by omega) (by omega)
    by_cases hk0 : k = 0
    · have e2 := Nm.role_first s c hr
      have e3 := Nm.role_front s hr 1 (by omega) hz
      have h1 : (Nm.oneB c ++ s.extract 1 s.size).size ≤ maxLen := by rw [ByteArray.size_append, ByteArray.size_extract, Nm.oneB_size]; unfold maxLen; omega
      have h2 : (Nm.oneB c).size ≤ maxLen := by rw [Nm.oneB_size]; unfold maxLen; omega
      have h3 : (s.extract 0 1).size ≤ maxLen := by rw [ByteArray.size_extract]; unfold maxLen; omega
      have n5 : ((k : Int) == 0) = true := beq_iff_eq.2 (by omega)
      have z1 := Nm.oneB_size c
      generalize hone : Nm.oneB c = one at *
      have E2 := Lib.hid e2
      have E3 := Lib.hid e3
      have hc1 := hone
      clear e2 e3 hr
      go_enter Try.func7, Try.ntmps7
      go_wp2_with fail
      refine (role_any s _ hs).mono ?_
      rintro e _ ⟨rfl, rfl⟩
      rw [e1.out]
      go_wp2_with fail
      refine (nawake_any _).mono ?_
      rintro e w1 ⟨rfl, hb1⟩
      have hcv : (convert 27 9 (.slice (some ⟨w1.heap.size, 0, none⟩) 1 1)).run Try.prog (w1.alloc (.cells #[.int .u8 (c.toNat : Int)] 5)) = .ok (.string one) (w1.alloc (.cells #[.int .u8 (c.toNat : Int)] 5)) := hone ▸ one_u8 c (w1.alloc (.cells #[.int .u8 (c.toNat : Int)] 5)) w1.heap.size (World.cell?_alloc_mark w1 _ _ (0, 0) 0)
      replace hB := Lib.hid (keep_trans (keep_trans hB.out hb1) ((Below.refl w1.heap.size w1).alloc (Nat.le_refl _) (.cells #[.int .u8 (c.toNat : Int)] 5)))
      clear hb1 hone hc1
      go_wp2_with fail
      refine (role_any _ _ h1).mono ?_
      rintro e _ ⟨rfl, rfl⟩
      rw [E2.out]
      go_wp2_with fail
      refine (role_any _ _ h2).mono ?_
      rintro e _ ⟨rfl, rfl⟩
      go_wp2_with fail
      refine (role_any _ _ h3).mono ?_
      rintro e _ ⟨rfl, rfl⟩
      rw [E3.out]
      go_wp2_with fail
      go_ret
      exact ⟨rfl, hB.out⟩
    · have e2 := Nm.role_within s c k hr (by omega) hk
      have e3 := Nm.role_front s hr k (by omega) (by omega)
      have e4 := Nm.role_a (Nm.oneB c) (Nm.oneB_size c)
      rw [Nm.oneB_b] at e4
      have h1 : (s.extract 0 k ++ Nm.oneB c ++ s.extract (k + 1) s.size).size ≤ maxLen := by rw [ByteArray.size_append, ByteArray.size_append, ByteArray.size_extract, ByteArray.size_extract, Nm.oneB_size]; unfold maxLen; omega
      have h2 : ((⟨#[97]⟩ : ByteArray) ++ Nm.oneB c).size ≤ maxLen := by rw [ByteArray.size_append, Nm.oneB_size]; show 1 + 1 ≤ _; unfold maxLen; omega
      have h3 : (s.extract 0 k).size ≤ maxLen := by rw [ByteArray.size_extract]; unfold maxLen; omega
      have n5 : ((k : Int) == 0) = false := beq_eq_false_iff_ne.2 (by omega)
      have n6 : (0 : Int) ≤ (k : Int) + 1 := by omega
      have n8 : (k : Int) ≤ (s.size : Int) := by omega
      have n9 : (0 : Int) ≤ (k : Int) := by omega
      have n7 : (k : Int) + 1 ≤ (s.size : Int) := by omega
      have z1 := Nm.oneB_size c
      generalize hone : Nm.oneB c = one at *
      generalize hP : Nm.part c.toNat = P at *
      have c1 : ∀ w, Calls Try.prog 12 #[.string (s.extract 0 k)] w fun e w' => e = .returned (.bool true) ∧ w = w' := fun w => e3 ▸ role_any _ w h3
      have c2 : ∀ w, Calls Try.prog 12 #[.string (s.extract 0 k ++ one ++ s.extract (k + 1) s.size)] w fun e w' => e = .returned (.bool P) ∧ w = w' := fun w => e2 ▸ role_any _ w h1
      have c3 : ∀ w, Calls Try.prog 12 #[.string ((⟨#[97]⟩ : ByteArray) ++ one)] w fun e w' => e = .returned (.bool P) ∧ w = w' := fun w => (show Nm.role ((⟨#[97]⟩ : ByteArray) ++ one) = P from e4) ▸ role_any _ w h2
      have hc1 := hone
      clear e2 e3 e4 hr hP
      go_enter Try.func7, Try.ntmps7
      go_wp2_with fail
      refine (role_any s _ hs).mono ?_
      rintro e _ ⟨rfl, rfl⟩
      rw [e1.out]
      go_wp2_with fail
      refine (nawake_any _).mono ?_
      rintro e w1 ⟨rfl, hb1⟩
      have hcv : (convert 27 9 (.slice (some ⟨w1.heap.size, 0, none⟩) 1 1)).run Try.prog (w1.alloc (.cells #[.int .u8 (c.toNat : Int)] 5)) = .ok (.string one) (w1.alloc (.cells #[.int .u8 (c.toNat : Int)] 5)) := hone ▸ one_u8 c (w1.alloc (.cells #[.int .u8 (c.toNat : Int)] 5)) w1.heap.size (World.cell?_alloc_mark w1 _ _ (0, 0) 0)
      replace hB := Lib.hid (keep_trans (keep_trans hB.out hb1) ((Below.refl w1.heap.size w1).alloc (Nat.le_refl _) (.cells #[.int .u8 (c.toNat : Int)] 5)))
      clear hb1 hone hc1
      go_wp2_with fail
      rw [hke]
      go_quiet ((go_at_call 12; first | with_reducible exact Calls.quiet_of_same (flipw (c1 _)) | with_reducible exact Calls.quiet_of_same (flipw (c2 _)) | with_reducible exact Calls.quiet_of_same (flipw (c3 _))))
      go_wp2_with fail
      go_ret
      exact ⟨rfl, below_drewN hB.out _⟩
theorem nameBytes_walk (s : ByteArray) (at_ : Int) (c : Int) (w : World) (hs : s.size ≤ maxLen) (hc : (Lit.int .u8 c).wf = true) :
    Calls Try.prog 7 #[.string s, .int .i64 at_, .int .u8 c] w fun e w' => e = .returned (.bool true) ∧ Below w.heap.size w w' := by
  have hb := bounds_u8 hc
  obtain ⟨n, rfl⟩ := Int.eq_ofNat_of_zero_le hb.1
  have e : ((UInt8.ofNat n).toNat : Int) = (n : Int) := by rw [UInt8.toNat_ofNat', Nat.mod_eq_of_lt (by omega)]
  have := nameBytes_walk0 s at_ (UInt8.ofNat n) w hs
  rwa [e] at this
end Go.Proofs.Ytdfbcobicjklhaa
