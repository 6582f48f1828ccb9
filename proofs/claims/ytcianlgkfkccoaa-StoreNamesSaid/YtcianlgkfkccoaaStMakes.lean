/-
  The statement StoreMakes, walked: it returns true.
-/
import Derived.Test.YtcianlgkfkccoaaStRef
namespace Go.Proofs.Ytcianlgkfkccoaa
set_option linter.unusedSimpArgs false
set_option linter.unusedVariables false
open Go Go.RowKit

namespace St
theorem few_len {fs : List (ByteArray × ByteArray)} (h : fewB fs = true) : fs.length ≤ 40 := by
  unfold fewB at h
  simp only [Bool.and_eq_true, decide_eq_true_eq] at h
  exact h.1
theorem few_name {fs : List (ByteArray × ByteArray)} (h : fewB fs = true) (i : Nat) (hi : i < fs.length) : (fs.getD i (⟨#[]⟩, ⟨#[]⟩)).1.size ≤ 300 := by
  unfold fewB at h
  rw [Bool.and_eq_true] at h
  have := all_at (⟨#[]⟩, ⟨#[]⟩) h.2 hi
  unfold okF at this
  rw [Bool.and_eq_true] at this
  exact of_decide_eq_true this.1
theorem few_data {fs : List (ByteArray × ByteArray)} (h : fewB fs = true) (i : Nat) (hi : i < fs.length) : (fs.getD i (⟨#[]⟩, ⟨#[]⟩)).2.size ≤ 2000 := by
  unfold fewB at h
  rw [Bool.and_eq_true] at h
  have := all_at (⟨#[]⟩, ⟨#[]⟩) h.2 hi
  unfold okF at this
  rw [Bool.and_eq_true] at this
  exact of_decide_eq_true this.2
theorem ask_len {qs : List (ByteArray × Int)} (h : askB qs = true) : qs.length ≤ 40 := by
  unfold askB at h
  rw [Bool.and_eq_true] at h
  exact of_decide_eq_true h.1
theorem ask_name {qs : List (ByteArray × Int)} (h : askB qs = true) (i : Nat) (hi : i < qs.length) : (qs.getD i (⟨#[]⟩, 0)).1.size ≤ 300 := by
  unfold askB at h
  rw [Bool.and_eq_true] at h
  have := all_at (⟨#[]⟩, 0) h.2 hi
  unfold okA at this
  exact of_decide_eq_true this
end St

set_option maxRecDepth 100000 in
set_option maxHeartbeats 4000000 in
theorem storeMakes_walk (repo : ByteArray) (fs : List (ByteArray × ByteArray)) (A : Option Addr) (cap : Nat) (w : World) (hs : repo.size ≤ maxLen) (hF : Files w A fs) (hm : fs.length ≤ maxLen) :
    Calls Try.prog 8 #[.string repo, .slice A fs.length cap] w fun e w' => e = .returned (.bool true) ∧ Below w.heap.size w w' := by
  have HF := Lib.hid hF
  clear hF
  have hs' := hs
  unfold maxLen at hs'
  by_cases h3 : 300 < repo.size
  · have n1 : decide (300 < (repo.size : Int)) = true := decide_eq_true (by omega)
    go_enter Try.func8, Try.ntmps8
    go_wp2_with fail
    refine (awake_any _).mono ?_
    rintro e w' ⟨rfl, hb⟩
    have HB := Lib.hid hb
    clear hb
    go_wp2_with fail
    go_ret
    exact ⟨rfl, HB.out⟩
  have n1 : decide (300 < (repo.size : Int)) = false := decide_eq_false (by omega)
  cases hfew : St.fewB fs with
  | false =>
    have HW := Lib.hid hfew
    clear hfew
    go_enter Try.func8, Try.ntmps8
    go_wp2_with fail
    refine (few_any A fs cap _ HF.out hm).mono ?_
    rintro e w' ⟨rfl, rfl⟩
    rw [HW.out]
    go_wp2_with fail
    refine (awake_any _).mono ?_
    rintro e w' ⟨rfl, hb⟩
    have HB := Lib.hid hb
    clear hb
    go_wp2_with fail
    go_ret
    exact ⟨rfl, HB.out⟩
  | true =>
    have hl := St.few_len hfew
    have HD := Lib.hid (St.few_data hfew)
    have HW := Lib.hid hfew
    clear hfew
    cases hr : Nm.role repo with
    | false =>
      have HR := Lib.hid hr
      clear hr
      go_enter Try.func8, Try.ntmps8
      go_wp2_with fail
      refine (few_any A fs cap _ HF.out hm).mono ?_
      rintro e w' ⟨rfl, rfl⟩
      rw [HW.out]
      go_wp2_with fail
      refine (new_form repo A fs.length cap _ hs HR.out).mono ?_
      rintro e w' ⟨rfl, rfl⟩
      go_wp2_with fail
      refine (rnew_form repo A fs.length cap _ hs HR.out).mono ?_
      rintro e w' ⟨rfl, rfl⟩
      go_wp2_with fail
      refine (get_nil _ _ _).mono ?_
      rintro e w' ⟨rfl, rfl⟩
      go_wp2_with fail
      refine (awake_any _).mono ?_
      rintro e w' ⟨rfl, hb⟩
      have HB := Lib.hid hb
      clear hb
      go_wp2_with fail
      go_ret
      exact ⟨rfl, HB.out⟩
    | true =>
      have HR := Lib.hid hr
      clear hr
      have e0 : (repo.toList == repo.toList) = true := beq_self_eq_true _
      go_enter Try.func8, Try.ntmps8
      go_wp2_with fail
      refine (few_any A fs cap _ HF.out hm).mono ?_
      rintro e w' ⟨rfl, rfl⟩
      rw [HW.out]
      go_wp2_with fail
      refine (new_ok repo A fs cap _ hs HR.out HF.out (by omega) (fun i hi => Nat.le_trans (HD.out i hi) (by omega))).mono ?_
      rintro e w1 ⟨g, rfl, hf, hb⟩
      have H := Lib.hid (One.made (Below.refl _ w) hf hb)
      have HF1 := Lib.hid (HF.out.later hb)
      clear hf hb
      go_wp2_with fail
      refine (rnew_ok repo A fs cap _ hs HR.out HF1.out (by omega) (fun i hi => Nat.le_trans (HD.out i hi) (by omega))).mono ?_
      rintro e w2 ⟨r, rfl, hf, hb⟩
      have H := Lib.hid (H.out.later hb)
      clear hf hb
      go_wp2_with fail
      refine (one_repo H.out).mono ?_
      rintro e w' ⟨rfl, rfl⟩
      go_wp2_with fail
      refine (one_fetched H.out (by simp)).mono ?_
      rintro e w3 ⟨v, rfl, hown, hb⟩
      have H := Lib.hid (H.out.later hb)
      obtain ⟨B, c, rfl, _⟩ := Fets.of_own hown
      clear hown hb
      go_wp2_with fail
      refine (awake_any _).mono ?_
      rintro e w4 ⟨rfl, hb⟩
      have HB := Lib.hid (H.out.later hb).1
      clear hb
      go_wp2_with fail
      go_ret
      exact ⟨rfl, HB.out⟩
end Go.Proofs.Ytcianlgkfkccoaa
