/-
  The statement StoreCap, walked: it returns true.
-/
import Derived.Test.YtcianlgkfkccoaaStTwo
namespace Go.Proofs.Ytcianlgkfkccoaa
set_option linter.unusedSimpArgs false
set_option linter.unusedVariables false
open Go Go.RowKit

set_option maxRecDepth 100000 in
set_option maxHeartbeats 1000000 in
theorem cap_out0 (fs : List (ByteArray × ByteArray)) (A : Option Addr) (cap : Nat) (file : ByteArray) (most more : Int) (w : World) (hF : Files w A fs) (hm : fs.length ≤ maxLen) (hf : St.fewB fs = false) :
    Calls Try.prog 5 #[.slice A fs.length cap, .string file, .int .i64 most, .int .i64 more] w fun e w' => e = .returned (.bool true) ∧ Below w.heap.size w w' := by
  have HF := Lib.hid hF
  have HW := Lib.hid hf
  clear hF hf
  go_enter Try.func5, Try.ntmps5
  go_wp2_with fail
  refine (few_any A fs cap _ HF.out hm).mono ?_
  rintro e w' ⟨rfl, rfl⟩
  rw [HW.out]
  go_wp2_with fail
  refine (awake_any _).mono ?_
  rintro e w' ⟨rfl, hb⟩
  have HB := Lib.hid hb
  clear hb
  go_wp2_with fail
  go_ret
  exact ⟨rfl, HB.out⟩
set_option maxRecDepth 100000 in
set_option maxHeartbeats 1000000 in
theorem cap_out1 (fs : List (ByteArray × ByteArray)) (A : Option Addr) (cap : Nat) (file : ByteArray) (most more : Int) (w : World) (hF : Files w A fs) (hm : fs.length ≤ maxLen) (hf : St.fewB fs = true) (c1 : 300 < file.size) :
    Calls Try.prog 5 #[.slice A fs.length cap, .string file, .int .i64 most, .int .i64 more] w fun e w' => e = .returned (.bool true) ∧ Below w.heap.size w w' := by
  have HF := Lib.hid hF
  have HW := Lib.hid hf
  clear hF hf
  have d1 : decide (300 < (file.size : Int)) = true := decide_eq_true (by omega)
  go_enter Try.func5, Try.ntmps5
  go_wp2_with fail
  refine (few_any A fs cap _ HF.out hm).mono ?_
  rintro e w' ⟨rfl, rfl⟩
  rw [HW.out]
  go_wp2_with fail
  refine (awake_any _).mono ?_
  rintro e w' ⟨rfl, hb⟩
  have HB := Lib.hid hb
  clear hb
  go_wp2_with fail
  go_ret
  exact ⟨rfl, HB.out⟩
set_option maxRecDepth 100000 in
set_option maxHeartbeats 1000000 in
theorem cap_out2 (fs : List (ByteArray × ByteArray)) (A : Option Addr) (cap : Nat) (file : ByteArray) (most more : Int) (w : World) (hF : Files w A fs) (hm : fs.length ≤ maxLen) (hf : St.fewB fs = true) (c1 : ¬ (300 < file.size)) (c2 : most < 0) :
    Calls Try.prog 5 #[.slice A fs.length cap, .string file, .int .i64 most, .int .i64 more] w fun e w' => e = .returned (.bool true) ∧ Below w.heap.size w w' := by
  have HF := Lib.hid hF
  have HW := Lib.hid hf
  clear hF hf
  have d1 : decide (300 < (file.size : Int)) = false := decide_eq_false (by omega)
  have d2 : decide (most < 0) = true := decide_eq_true (by omega)
  go_enter Try.func5, Try.ntmps5
  go_wp2_with fail
  refine (few_any A fs cap _ HF.out hm).mono ?_
  rintro e w' ⟨rfl, rfl⟩
  rw [HW.out]
  go_wp2_with fail
  refine (awake_any _).mono ?_
  rintro e w' ⟨rfl, hb⟩
  have HB := Lib.hid hb
  clear hb
  go_wp2_with fail
  go_ret
  exact ⟨rfl, HB.out⟩
set_option maxRecDepth 100000 in
set_option maxHeartbeats 1000000 in
theorem cap_out3 (fs : List (ByteArray × ByteArray)) (A : Option Addr) (cap : Nat) (file : ByteArray) (most more : Int) (w : World) (hF : Files w A fs) (hm : fs.length ≤ maxLen) (hf : St.fewB fs = true) (c1 : ¬ (300 < file.size)) (c2 : ¬ (most < 0)) (c3 : more < most) :
    Calls Try.prog 5 #[.slice A fs.length cap, .string file, .int .i64 most, .int .i64 more] w fun e w' => e = .returned (.bool true) ∧ Below w.heap.size w w' := by
  have HF := Lib.hid hF
  have HW := Lib.hid hf
  clear hF hf
  have d1 : decide (300 < (file.size : Int)) = false := decide_eq_false (by omega)
  have d2 : decide (most < 0) = false := decide_eq_false (by omega)
  have d3 : decide (more < most) = true := decide_eq_true (by omega)
  go_enter Try.func5, Try.ntmps5
  go_wp2_with fail
  refine (few_any A fs cap _ HF.out hm).mono ?_
  rintro e w' ⟨rfl, rfl⟩
  rw [HW.out]
  go_wp2_with fail
  refine (awake_any _).mono ?_
  rintro e w' ⟨rfl, hb⟩
  have HB := Lib.hid hb
  clear hb
  go_wp2_with fail
  go_ret
  exact ⟨rfl, HB.out⟩
set_option maxRecDepth 100000 in
set_option maxHeartbeats 1000000 in
theorem cap_out4 (fs : List (ByteArray × ByteArray)) (A : Option Addr) (cap : Nat) (file : ByteArray) (most more : Int) (w : World) (hF : Files w A fs) (hm : fs.length ≤ maxLen) (hf : St.fewB fs = true) (c1 : ¬ (300 < file.size)) (c2 : ¬ (most < 0)) (c3 : ¬ (more < most)) (c4 : 65536 < more) :
    Calls Try.prog 5 #[.slice A fs.length cap, .string file, .int .i64 most, .int .i64 more] w fun e w' => e = .returned (.bool true) ∧ Below w.heap.size w w' := by
  have HF := Lib.hid hF
  have HW := Lib.hid hf
  clear hF hf
  have d1 : decide (300 < (file.size : Int)) = false := decide_eq_false (by omega)
  have d2 : decide (most < 0) = false := decide_eq_false (by omega)
  have d3 : decide (more < most) = false := decide_eq_false (by omega)
  have d4 : decide (65536 < more) = true := decide_eq_true (by omega)
  go_enter Try.func5, Try.ntmps5
  go_wp2_with fail
  refine (few_any A fs cap _ HF.out hm).mono ?_
  rintro e w' ⟨rfl, rfl⟩
  rw [HW.out]
  go_wp2_with fail
  refine (awake_any _).mono ?_
  rintro e w' ⟨rfl, hb⟩
  have HB := Lib.hid hb
  clear hb
  go_wp2_with fail
  go_ret
  exact ⟨rfl, HB.out⟩

theorem first_at (fs : List (ByteArray × ByteArray)) (n : ByteArray) (k : Nat) (hk : k < fs.length) (hn : (fs.getD k (⟨#[]⟩, ⟨#[]⟩)).1 = n) (hno : ∀ j, j < k → (fs.getD j (⟨#[]⟩, ⟨#[]⟩)).1 ≠ n) : St.first fs n = some (fs.getD k (⟨#[]⟩, ⟨#[]⟩)).2 := St.first_hit fs n k hk hno hn
/-- Where the first file of a name is, of those from k on. -/
def FromK (fs : List (ByteArray × ByteArray)) (n : ByteArray) (k : Nat) (at_ : Value) : Prop :=
  (at_ = .int .i64 (-1) ∧ ∀ j, k ≤ j → j < fs.length → (fs.getD j (⟨#[]⟩, ⟨#[]⟩)).1 ≠ n) ∨
  ∃ j : Nat, k ≤ j ∧ j < fs.length ∧ at_ = .int .i64 j ∧ (fs.getD j (⟨#[]⟩, ⟨#[]⟩)).1 = n ∧ ∀ i, k ≤ i → i < j → (fs.getD i (⟨#[]⟩, ⟨#[]⟩)).1 ≠ n
theorem FromK.form {fs : List (ByteArray × ByteArray)} {n : ByteArray} {k : Nat} {v : Value} (h : FromK fs n k v) : ∃ z : Int, v = .int .i64 z := by
  rcases h with ⟨h, _⟩ | ⟨j, _, _, h, _⟩ <;> exact ⟨_, h⟩
theorem FromK.miss {fs : List (ByteArray × ByteArray)} {n : ByteArray} {k : Nat} {v : Value} (h : FromK fs n (k + 1) v) (hn : (fs.getD k (⟨#[]⟩, ⟨#[]⟩)).1 ≠ n) : FromK fs n k v := by
  rcases h with ⟨h, h1⟩ | ⟨j, h1, h2, h3, h4, h5⟩
  · refine .inl ⟨h, fun j a b => ?_⟩
    by_cases e : j = k
    · rw [e]; exact hn
    · exact h1 j (by omega) b
  · refine .inr ⟨j, by omega, h2, h3, h4, fun i a b => ?_⟩
    by_cases e : i = k
    · rw [e]; exact hn
    · exact h5 i (by omega) b
theorem FromK.hit {fs : List (ByteArray × ByteArray)} {n : ByteArray} {k : Nat} (hk : k < fs.length) (hn : (fs.getD k (⟨#[]⟩, ⟨#[]⟩)).1 = n) : FromK fs n k (.int .i64 k) := .inr ⟨k, Nat.le_refl _, hk, rfl, hn, fun i a b => by omega⟩
theorem ans_nil (fs : List (ByteArray × ByteArray)) (n : ByteArray) (c : Int) : St.ans fs [] n c = St.came n c (St.first fs n) := rfl

set_option maxRecDepth 100000 in
set_option maxHeartbeats 4000000 in
theorem cap_in (fs : List (ByteArray × ByteArray)) (A : Option Addr) (cap : Nat) (file : ByteArray) (most more : Int) (w : World) (hF : Files w A fs) (hm : fs.length ≤ maxLen) (hf : St.fewB fs = true) (c1 : ¬ (300 < file.size)) (c2 : ¬ (most < 0)) (c3 : ¬ (more < most)) (c4 : ¬ (65536 < more)) :
    Calls Try.prog 5 #[.slice A fs.length cap, .string file, .int .i64 most, .int .i64 more] w fun e w' => e = .returned (.bool true) ∧ Below w.heap.size w w' := by
  have hl := St.few_len hf
  have HD := Lib.hid (St.few_data hf)
  have HF := Lib.hid hF
  have HW := Lib.hid hf
  clear hF hf
  have d1 : decide (300 < (file.size : Int)) = false := decide_eq_false (by omega)
  have d2 : decide (most < 0) = false := decide_eq_false (by omega)
  have d3 : decide (more < most) = false := decide_eq_false (by omega)
  have d4 : decide (65536 < more) = false := decide_eq_false (by omega)
  obtain ⟨x, hx⟩ : ∃ x, x = St.ans fs [] file most := ⟨_, rfl⟩
  obtain ⟨y, hy⟩ : ∃ y, y = St.ans fs [] file more := ⟨_, rfl⟩
  have V1 : Hid (getV fs [] file most = .tuple #[.string x.data, .int .i64 x.size, .int .i64 0]) := by
    show _ = _
    rw [hx]; exact getV_ok (decide_eq_false (by omega))
  have V2 : Hid (getV fs [] file more = .tuple #[.string y.data, .int .i64 y.size, .int .i64 0]) := by
    show _ = _
    rw [hy]; exact getV_ok (decide_eq_false (by omega))
  have HX := Lib.hid hx
  have HY := Lib.hid hy
  clear hx hy
  go_enter Try.func5, Try.ntmps5
  go_wp2_with fail
  refine (few_any A fs cap _ HF.out hm).mono ?_
  rintro e w' ⟨rfl, rfl⟩
  rw [HW.out]
  go_wp2_with fail
  refine (awake_any _).mono ?_
  rintro e w1 ⟨rfl, hb⟩
  have HF1 := Lib.hid (HF.out.later hb)
  have HB := Lib.hid hb
  clear hb
  go_wp2_with fail
  refine (new_ok ⟨#[114]⟩ A fs cap _ (by decide) role_r HF1.out (by omega) (fun i hi => Nat.le_trans (HD.out i hi) (by omega))).mono ?_
  rintro e w2 ⟨g, rfl, hf, hb⟩
  have H := Lib.hid (One.made HB.out hf hb)
  have HF2 := Lib.hid (HF1.out.later hb)
  clear hf hb HF1 HB
  go_wp2_with fail
  refine (new_ok ⟨#[114]⟩ A fs cap _ (by decide) role_r HF2.out (by omega) (fun i hi => Nat.le_trans (HD.out i hi) (by omega))).mono ?_
  rintro e w3 ⟨g', rfl, hf, hb⟩
  have H := Lib.hid (Two.made H.out hf hb)
  have HF3 := Lib.hid (HF2.out.later hb)
  clear hf hb HF2
  go_wp2_with fail
  refine (two_get H.out file most (by omega) (by simp) (by omega)).mono ?_
  rintro e w4 ⟨rfl, h⟩
  have H := Lib.hid h
  clear h
  rw [V1.out]
  go_wp2_with fail
  refine (two_get2 H.out file more (by omega) (by simp) (by omega)).mono ?_
  rintro e w5 ⟨rfl, h⟩
  have HB := Lib.hid h.1
  have HF5 := Lib.hid (HF.out.later h.1)
  clear h H HF HF3
  rw [V2.out]
  go_wp2_with fail
  go_loop [19, 20] (fun v i => ∃ k : Nat, k ≤ fs.length ∧ i = .int .i64 ((k : Int) - 1) ∧ Hid (FromK fs file k v)) (fun _ i => (intOf i + 1).toNat)
  case atStart => exact ⟨fs.length, Nat.le_refl _, rfl, .inl ⟨rfl, fun j a b => by omega⟩⟩
  case round =>
    obtain ⟨k, hk, rfl, hK⟩ := hrel
    cases k with
    | zero =>
      have i0 : ((0 : Nat) : Int) - 1 = -1 := by omega
      rw [i0]
      clear i0
      rcases hK.out with ⟨rfl, hno⟩ | ⟨j, _, hj, rfl, hn, hno⟩
      · have hf1 := St.first_miss fs file (fun j hj => hno j (Nat.zero_le _) hj)
        obtain rfl : x = ⟨file, most, -1, ⟨#[]⟩⟩ := by rw [HX.out, ans_nil, hf1]; rfl
        obtain rfl : y = ⟨file, more, -1, ⟨#[]⟩⟩ := by rw [HY.out, ans_nil, hf1]; rfl
        clear hf1 hno hK
        go_wp2_with fail
        go_ret
        exact ⟨rfl, HB.out⟩
      · have hf1 := first_at fs file j hj hn (fun i hi => hno i (Nat.zero_le _) hi)
        obtain ⟨b, o, rfl, hbl, a0, a1⟩ := HF5.out j hj
        have b0 : (0 : Int) ≤ (j : Int) := by omega
        have b1 : (j : Int) < (fs.length : Int) := by omega
        generalize fs.getD j (⟨#[]⟩, ⟨#[]⟩) = f at *
        obtain ⟨f1, d⟩ := f
        by_cases hs : (d.size : Int) ≤ most
        · obtain rfl : x = ⟨file, most, d.size, d⟩ := by rw [HX.out, ans_nil, hf1]; exact St.came_yes hs
          obtain rfl : y = ⟨file, more, d.size, d⟩ := by rw [HY.out, ans_nil, hf1]; exact St.came_yes (show (d.size : Int) ≤ more by omega)
          have q1 : decide (most < (d.size : Int)) = false := decide_eq_false (by omega)
          have q2 : decide ((d.size : Int) ≤ most) = true := decide_eq_true hs
          have q3 : (d.toList == d.toList) = true := beq_self_eq_true _
          have q4 : ((d.size : Int) == (d.size : Int)) = true := beq_self_eq_true _
          clear hf1 hno hK hn a0
          go_wp2_with fail
          go_ret
          exact ⟨rfl, HB.out⟩
        · obtain rfl : x = ⟨file, most, -2, ⟨#[]⟩⟩ := by rw [HX.out, ans_nil, hf1]; exact St.came_no hs
          have q1 : decide (most < (d.size : Int)) = true := decide_eq_true (by omega)
          have q2 : decide ((d.size : Int) ≤ most) = false := decide_eq_false hs
          clear hf1 hno hK hn a0
          go_wp2_with fail
          go_ret
          exact ⟨rfl, HB.out⟩
    | succ k =>
      have i1 : ((k + 1 : Nat) : Int) - 1 = (k : Int) := by omega
      rw [i1]
      clear i1
      obtain ⟨b, o, rfl, hbl, a0, a1⟩ := HF5.out k (by omega)
      have hkl : (k : Int) < (fs.length : Int) := by omega
      by_cases he : (fs.getD k (⟨#[]⟩, ⟨#[]⟩)).1 = file
      · have hK2 : Hid (FromK fs file k (.int .i64 k)) := FromK.hit (by omega) he
        have n0 := eq_true he
        clear he hK a1
        generalize fs.getD k (⟨#[]⟩, ⟨#[]⟩) = f at *
        obtain ⟨f1, f2⟩ := f
        go_wp2_with fail
        go_round
        case rel => exact ⟨k, by omega, rfl, hK2⟩
        case measure => simp [intOf]
      · have hK2 : Hid (FromK fs file k u19) := hK.out.miss he
        have n0 := eq_false he
        clear he hK a1
        generalize fs.getD k (⟨#[]⟩, ⟨#[]⟩) = f at *
        obtain ⟨f1, f2⟩ := f
        go_wp2_with fail
        go_round
        case rel => exact ⟨k, by omega, rfl, hK2⟩
        case measure => simp [intOf]
theorem storeCap_walk (fs : List (ByteArray × ByteArray)) (A : Option Addr) (cap : Nat) (file : ByteArray) (most more : Int) (w : World) (hF : Files w A fs) (hm : fs.length ≤ maxLen) (hs : file.size ≤ maxLen) :
    Calls Try.prog 5 #[.slice A fs.length cap, .string file, .int .i64 most, .int .i64 more] w fun e w' => e = .returned (.bool true) ∧ Below w.heap.size w w' := by
  cases hf : St.fewB fs with
  | false => exact cap_out0 fs A cap file most more w hF hm hf
  | true =>
    by_cases c1 : 300 < file.size
    · exact cap_out1 fs A cap file most more w hF hm hf c1
    by_cases c2 : most < 0
    · exact cap_out2 fs A cap file most more w hF hm hf c1 c2
    by_cases c3 : more < most
    · exact cap_out3 fs A cap file most more w hF hm hf c1 c2 c3
    by_cases c4 : 65536 < more
    · exact cap_out4 fs A cap file most more w hF hm hf c1 c2 c3 c4
    exact cap_in fs A cap file most more w hF hm hf c1 c2 c3 c4
end Go.Proofs.Ytcianlgkfkccoaa
