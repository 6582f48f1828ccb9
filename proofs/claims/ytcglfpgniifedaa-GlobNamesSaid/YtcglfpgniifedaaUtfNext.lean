/-
  The walks of package legateref04: Next, Len.
-/
import Derived.Test.YtcglfpgniifedaaUtfBegins
namespace Go.Proofs.Ytcglfpgniifedaa
set_option linter.unusedSimpArgs false
set_option linter.unusedVariables false
open Go Go.RowKit

/-- What Next tells of a place: whether a rune begins there, and then how many bytes it has. -/
def NextPost (s : ByteArray) (i : Nat) (w : World) (e : Ending) (w' : World) : Prop :=
  (∃ r n ee : Int, e = .returned (.tuple #[.int .i64 r, .int .i64 n, .int .i64 ee]) ∧ (Uf.okAt s i = true → n = Uf.wid s i ∧ ee = 0) ∧ (Uf.okAt s i = false → ee ≠ 0)) ∧ Below w.heap.size w w'

set_option maxRecDepth 100000 in
set_option maxHeartbeats 2000000 in
theorem next_2 (s : ByteArray) (i : Nat) (w : World) (hs : s.size ≤ 1000000) (hi : i < s.size) (c1 : 192 ≤ s[i].toNat) (c2 : s[i].toNat < 224) :
    Calls Try.prog 27 #[.string s, .int .i64 i] w (NextPost s i w) := by
  have hbi := Uf.b_at s i hi
  have hz : Uf.size (Uf.b s i) = 2 := by rw [hbi]; unfold Uf.size; rw [if_neg (by omega), if_pos (by omega)]
  have hok := Lib.hid (Uf.ok_goes s i hi (by rw [hbi]; omega) (by rw [hbi]; omega))
  have hz := Lib.hid hz
  have hwid : Hid (Uf.okAt s i = true → Uf.wid s i = 2) := fun h => by rw [(Uf.ok_wid s i h).1]; exact hz.out
  clear hbi
  have hsz' : (s.size : Int) ≤ 1000000 := by omega
  have d0 : decide ((i : Int) < 0) = false := decide_eq_false (by omega)
  have d1 : decide ((s[i].toNat : Int) < 128) = false := decide_eq_false (by omega)
  have d2 : decide ((s[i].toNat : Int) < 192) = false := decide_eq_false (by omega)
  have d3 : decide (247 < (s[i].toNat : Int)) = false := decide_eq_false (by omega)
  have d6 : decide (s.size < i) = false := decide_eq_false (by omega)
  have d7 : ((i : Int) == (s.size : Int)) = false := by rw [beq_eq_false_iff_ne]; omega
  have d4 : decide ((s[i].toNat : Int) < 224) = true := decide_eq_true (by omega)
  go_enter Try.func27, Try.ntmps27
  go_wp2_with fail
  go_loopw [9] (fun c wr => ∃ n : Nat, 1 ≤ n ∧ n ≤ 2 + 1 ∧ c = .int .i64 n ∧ Hid (∀ m, 1 ≤ m → m < n → Uf.goes s i m) ∧ Below w.heap.size w wr) (fun c _ => 2 + 1 - (intOf c).toNat)
  case atStart => exact ⟨1, by omega, by omega, rfl, fun m a b => by omega, Below.refl _ _⟩
  case round =>
    obtain ⟨n, n1, n2, rfl, hg, hb⟩ := hrel
    have hb' := Lib.hid hb
    clear hb
    have n1' : (1 : Int) ≤ n := by omega
    by_cases hn : n ≤ 2
    · by_cases hl : i + n ≤ s.size
      · have hl' : (i : Int) + (n : Int) ≤ (s.size : Int) := by omega
        have hw1 : IntKind.i64.wrap ((i : Int) + (n : Int)) = (i : Int) + (n : Int) := IntWalk.i64_in _ ⟨by omega, by omega⟩
        have hw2 : ((i : Int) + (n : Int)).toNat = i + n := by omega
        have e1 : (s.extract i (i + n)).size = n := by rw [ByteArray.size_extract]; omega
        have e2 : Hid (Uf.bg (Uf.b (s.extract i (i + n))) 2 n = Uf.bg (fun m => Uf.b s (i + m)) 2 n) := Uf.bg_congr _ _ 2 n (by omega) (fun m hm => Uf.b_extract s i (i + n) m hl (by omega))
        have z1 : 1 ≤ (s.extract i (i + n)).size := by rw [e1]; exact n1
        have z2 : (s.extract i (i + n)).size ≤ 4 := by rw [e1]; omega
        have e1 := Lib.hid e1
        cases hv : Uf.bg (fun m => Uf.b s (i + m)) 2 n with
        | true =>
          have hv' := Lib.hid hv
          have hst : Hid (∀ m, 1 ≤ m → m < n + 1 → Uf.goes s i m) := fun m a b => by
            by_cases hm : m = n
            · subst hm; exact ⟨hl, by rw [hz.out]; exact hv'.out⟩
            · exact hg.out m a (by omega)
          clear hv
          go_wp2_with fail
          refine (begins_2 (s.extract i (i + n)) _ z1 z2).mono ?_
          rintro e w5 ⟨rfl, hb5⟩
          have hb5' := Lib.hid (keep_trans hb'.out hb5)
          clear hb5
          rw [e1.out, e2.out, hv'.out]
          go_wp2_with fail
          go_roundw
          case rel =>
            exact ⟨n + 1, by omega, by omega, by go_num, hst, hb5'.out⟩
          case measure => simp [intOf]; omega
        | false =>
          have hv' := Lib.hid hv
          have hno : Hid (Uf.okAt s i = false) := by
            show _ = _
            cases ho : Uf.okAt s i with
            | false => rfl
            | true =>
              have := ((hok.out.1 ho) n n1 (by rw [hz.out]; exact hn)).2
              rw [hz.out, hv'.out] at this
              cases this
          clear hv
          go_wp2_with fail
          refine (begins_2 (s.extract i (i + n)) _ z1 z2).mono ?_
          rintro e w5 ⟨rfl, hb5⟩
          have hb5' := Lib.hid (keep_trans hb'.out hb5)
          clear hb5
          rw [e1.out, e2.out, hv'.out]
          go_wp2_with fail
          go_ret3
          exact ⟨⟨_, _, _, rfl, fun h => by (rw [hno.out] at h; cases h), fun _ => by decide⟩, hb5'.out⟩
      · have hno : Hid (Uf.okAt s i = false) := by
          show _ = _
          cases ho : Uf.okAt s i with
          | false => rfl
          | true => exact absurd ((hok.out.1 ho) n n1 (by rw [hz.out]; exact hn)).1 hl
        go_wp2_with fail
        go_ret3
        exact ⟨⟨_, _, _, rfl, fun h => by (rw [hno.out] at h; cases h), fun _ => by decide⟩, hb'.out⟩
    · have hn3 : (n : Int) = 3 := by omega
      rw [hn3]
      clear hn3
      have hyes : Hid (Uf.okAt s i = true) := hok.out.2 fun m a b => hg.out m a (by rw [hz.out] at b; omega)
      have hend := (hg.out 2 (by omega) (by omega)).1
      have hend' : (i : Int) + 2 ≤ s.size := by omega
      go_wp2_with fail
      have hbs := Lib.hid (hb'.out.alloc hb'.out.size (.cells #[.int .i64 0, .int .i64 0, .int .i64 192, .int .i64 224, .int .i64 240] 3))
      go_loopw [10, 11] (fun r c wx => ∃ (k : Nat) (q : Int), k ≤ 2 ∧ 1 ≤ k ∧ r = .int .i64 q ∧ c = .int .i64 k ∧ Below w.heap.size w wx) (fun _ c _ => 2 - (intOf c).toNat)
      case atStart => exact ⟨1, _, by omega, by omega, rfl, rfl, hbs.out⟩
      case round =>
        obtain ⟨k, q, k1, k2, rfl, rfl, hbk⟩ := hrel
        have hbk' := Lib.hid hbk
        clear hbk
        have k2' : (1 : Int) ≤ k := by omega
        by_cases hk : k < 2
        · go_wp2_with fail
          go_roundw
          case rel =>
            exact ⟨k + 1, _, by omega, by omega, rfl, by go_num, hbk'.out⟩
          case measure => simp [intOf]; omega
        · go_wp2_with fail
          go_ret3
          exact ⟨⟨_, _, _, rfl, fun h => ⟨by rw [hwid.out h]; rfl, rfl⟩, fun h => by (rw [hyes.out] at h; cases h)⟩, hbk'.out⟩

set_option maxRecDepth 100000 in
set_option maxHeartbeats 2000000 in
theorem next_3 (s : ByteArray) (i : Nat) (w : World) (hs : s.size ≤ 1000000) (hi : i < s.size) (c1 : 224 ≤ s[i].toNat) (c2 : s[i].toNat < 240) :
    Calls Try.prog 27 #[.string s, .int .i64 i] w (NextPost s i w) := by
  have hbi := Uf.b_at s i hi
  have hz : Uf.size (Uf.b s i) = 3 := by rw [hbi]; unfold Uf.size; rw [if_neg (by omega), if_neg (by omega), if_pos (by omega)]
  have hok := Lib.hid (Uf.ok_goes s i hi (by rw [hbi]; omega) (by rw [hbi]; omega))
  have hz := Lib.hid hz
  have hwid : Hid (Uf.okAt s i = true → Uf.wid s i = 3) := fun h => by rw [(Uf.ok_wid s i h).1]; exact hz.out
  clear hbi
  have hsz' : (s.size : Int) ≤ 1000000 := by omega
  have d0 : decide ((i : Int) < 0) = false := decide_eq_false (by omega)
  have d1 : decide ((s[i].toNat : Int) < 128) = false := decide_eq_false (by omega)
  have d2 : decide ((s[i].toNat : Int) < 192) = false := decide_eq_false (by omega)
  have d3 : decide (247 < (s[i].toNat : Int)) = false := decide_eq_false (by omega)
  have d6 : decide (s.size < i) = false := decide_eq_false (by omega)
  have d7 : ((i : Int) == (s.size : Int)) = false := by rw [beq_eq_false_iff_ne]; omega
  have d4 : decide ((s[i].toNat : Int) < 224) = false := decide_eq_false (by omega)
  have d5 : decide ((s[i].toNat : Int) < 240) = true := decide_eq_true (by omega)
  go_enter Try.func27, Try.ntmps27
  go_wp2_with fail
  go_loopw [9] (fun c wr => ∃ n : Nat, 1 ≤ n ∧ n ≤ 3 + 1 ∧ c = .int .i64 n ∧ Hid (∀ m, 1 ≤ m → m < n → Uf.goes s i m) ∧ Below w.heap.size w wr) (fun c _ => 3 + 1 - (intOf c).toNat)
  case atStart => exact ⟨1, by omega, by omega, rfl, fun m a b => by omega, Below.refl _ _⟩
  case round =>
    obtain ⟨n, n1, n2, rfl, hg, hb⟩ := hrel
    have hb' := Lib.hid hb
    clear hb
    have n1' : (1 : Int) ≤ n := by omega
    by_cases hn : n ≤ 3
    · by_cases hl : i + n ≤ s.size
      · have hl' : (i : Int) + (n : Int) ≤ (s.size : Int) := by omega
        have hw1 : IntKind.i64.wrap ((i : Int) + (n : Int)) = (i : Int) + (n : Int) := IntWalk.i64_in _ ⟨by omega, by omega⟩
        have hw2 : ((i : Int) + (n : Int)).toNat = i + n := by omega
        have e1 : (s.extract i (i + n)).size = n := by rw [ByteArray.size_extract]; omega
        have e2 : Hid (Uf.bg (Uf.b (s.extract i (i + n))) 3 n = Uf.bg (fun m => Uf.b s (i + m)) 3 n) := Uf.bg_congr _ _ 3 n (by omega) (fun m hm => Uf.b_extract s i (i + n) m hl (by omega))
        have z1 : 1 ≤ (s.extract i (i + n)).size := by rw [e1]; exact n1
        have z2 : (s.extract i (i + n)).size ≤ 4 := by rw [e1]; omega
        have e1 := Lib.hid e1
        cases hv : Uf.bg (fun m => Uf.b s (i + m)) 3 n with
        | true =>
          have hv' := Lib.hid hv
          have hst : Hid (∀ m, 1 ≤ m → m < n + 1 → Uf.goes s i m) := fun m a b => by
            by_cases hm : m = n
            · subst hm; exact ⟨hl, by rw [hz.out]; exact hv'.out⟩
            · exact hg.out m a (by omega)
          clear hv
          go_wp2_with fail
          refine (begins_3 (s.extract i (i + n)) _ z1 z2).mono ?_
          rintro e w5 ⟨rfl, hb5⟩
          have hb5' := Lib.hid (keep_trans hb'.out hb5)
          clear hb5
          rw [e1.out, e2.out, hv'.out]
          go_wp2_with fail
          go_roundw
          case rel =>
            exact ⟨n + 1, by omega, by omega, by go_num, hst, hb5'.out⟩
          case measure => simp [intOf]; omega
        | false =>
          have hv' := Lib.hid hv
          have hno : Hid (Uf.okAt s i = false) := by
            show _ = _
            cases ho : Uf.okAt s i with
            | false => rfl
            | true =>
              have := ((hok.out.1 ho) n n1 (by rw [hz.out]; exact hn)).2
              rw [hz.out, hv'.out] at this
              cases this
          clear hv
          go_wp2_with fail
          refine (begins_3 (s.extract i (i + n)) _ z1 z2).mono ?_
          rintro e w5 ⟨rfl, hb5⟩
          have hb5' := Lib.hid (keep_trans hb'.out hb5)
          clear hb5
          rw [e1.out, e2.out, hv'.out]
          go_wp2_with fail
          go_ret3
          exact ⟨⟨_, _, _, rfl, fun h => by (rw [hno.out] at h; cases h), fun _ => by decide⟩, hb5'.out⟩
      · have hno : Hid (Uf.okAt s i = false) := by
          show _ = _
          cases ho : Uf.okAt s i with
          | false => rfl
          | true => exact absurd ((hok.out.1 ho) n n1 (by rw [hz.out]; exact hn)).1 hl
        go_wp2_with fail
        go_ret3
        exact ⟨⟨_, _, _, rfl, fun h => by (rw [hno.out] at h; cases h), fun _ => by decide⟩, hb'.out⟩
    · have hn3 : (n : Int) = 4 := by omega
      rw [hn3]
      clear hn3
      have hyes : Hid (Uf.okAt s i = true) := hok.out.2 fun m a b => hg.out m a (by rw [hz.out] at b; omega)
      have hend := (hg.out 3 (by omega) (by omega)).1
      have hend' : (i : Int) + 3 ≤ s.size := by omega
      go_wp2_with fail
      have hbs := Lib.hid (hb'.out.alloc hb'.out.size (.cells #[.int .i64 0, .int .i64 0, .int .i64 192, .int .i64 224, .int .i64 240] 3))
      go_loopw [10, 11] (fun r c wx => ∃ (k : Nat) (q : Int), k ≤ 3 ∧ 1 ≤ k ∧ r = .int .i64 q ∧ c = .int .i64 k ∧ Below w.heap.size w wx) (fun _ c _ => 3 - (intOf c).toNat)
      case atStart => exact ⟨1, _, by omega, by omega, rfl, rfl, hbs.out⟩
      case round =>
        obtain ⟨k, q, k1, k2, rfl, rfl, hbk⟩ := hrel
        have hbk' := Lib.hid hbk
        clear hbk
        have k2' : (1 : Int) ≤ k := by omega
        by_cases hk : k < 3
        · go_wp2_with fail
          go_roundw
          case rel =>
            exact ⟨k + 1, _, by omega, by omega, rfl, by go_num, hbk'.out⟩
          case measure => simp [intOf]; omega
        · go_wp2_with fail
          go_ret3
          exact ⟨⟨_, _, _, rfl, fun h => ⟨by rw [hwid.out h]; rfl, rfl⟩, fun h => by (rw [hyes.out] at h; cases h)⟩, hbk'.out⟩

set_option maxRecDepth 100000 in
set_option maxHeartbeats 2000000 in
theorem next_4 (s : ByteArray) (i : Nat) (w : World) (hs : s.size ≤ 1000000) (hi : i < s.size) (c1 : 240 ≤ s[i].toNat) (c2 : s[i].toNat < 248) :
    Calls Try.prog 27 #[.string s, .int .i64 i] w (NextPost s i w) := by
  have hbi := Uf.b_at s i hi
  have hz : Uf.size (Uf.b s i) = 4 := by rw [hbi]; unfold Uf.size; rw [if_neg (by omega), if_neg (by omega), if_neg (by omega)]
  have hok := Lib.hid (Uf.ok_goes s i hi (by rw [hbi]; omega) (by rw [hbi]; omega))
  have hz := Lib.hid hz
  have hwid : Hid (Uf.okAt s i = true → Uf.wid s i = 4) := fun h => by rw [(Uf.ok_wid s i h).1]; exact hz.out
  clear hbi
  have hsz' : (s.size : Int) ≤ 1000000 := by omega
  have d0 : decide ((i : Int) < 0) = false := decide_eq_false (by omega)
  have d1 : decide ((s[i].toNat : Int) < 128) = false := decide_eq_false (by omega)
  have d2 : decide ((s[i].toNat : Int) < 192) = false := decide_eq_false (by omega)
  have d3 : decide (247 < (s[i].toNat : Int)) = false := decide_eq_false (by omega)
  have d6 : decide (s.size < i) = false := decide_eq_false (by omega)
  have d7 : ((i : Int) == (s.size : Int)) = false := by rw [beq_eq_false_iff_ne]; omega
  have d4 : decide ((s[i].toNat : Int) < 224) = false := decide_eq_false (by omega)
  have d5 : decide ((s[i].toNat : Int) < 240) = false := decide_eq_false (by omega)
  go_enter Try.func27, Try.ntmps27
  go_wp2_with fail
  go_loopw [9] (fun c wr => ∃ n : Nat, 1 ≤ n ∧ n ≤ 4 + 1 ∧ c = .int .i64 n ∧ Hid (∀ m, 1 ≤ m → m < n → Uf.goes s i m) ∧ Below w.heap.size w wr) (fun c _ => 4 + 1 - (intOf c).toNat)
  case atStart => exact ⟨1, by omega, by omega, rfl, fun m a b => by omega, Below.refl _ _⟩
  case round =>
    obtain ⟨n, n1, n2, rfl, hg, hb⟩ := hrel
    have hb' := Lib.hid hb
    clear hb
    have n1' : (1 : Int) ≤ n := by omega
    by_cases hn : n ≤ 4
    · by_cases hl : i + n ≤ s.size
      · have hl' : (i : Int) + (n : Int) ≤ (s.size : Int) := by omega
        have hw1 : IntKind.i64.wrap ((i : Int) + (n : Int)) = (i : Int) + (n : Int) := IntWalk.i64_in _ ⟨by omega, by omega⟩
        have hw2 : ((i : Int) + (n : Int)).toNat = i + n := by omega
        have e1 : (s.extract i (i + n)).size = n := by rw [ByteArray.size_extract]; omega
        have e2 : Hid (Uf.bg (Uf.b (s.extract i (i + n))) 4 n = Uf.bg (fun m => Uf.b s (i + m)) 4 n) := Uf.bg_congr _ _ 4 n (by omega) (fun m hm => Uf.b_extract s i (i + n) m hl (by omega))
        have z1 : 1 ≤ (s.extract i (i + n)).size := by rw [e1]; exact n1
        have z2 : (s.extract i (i + n)).size ≤ 4 := by rw [e1]; omega
        have e1 := Lib.hid e1
        cases hv : Uf.bg (fun m => Uf.b s (i + m)) 4 n with
        | true =>
          have hv' := Lib.hid hv
          have hst : Hid (∀ m, 1 ≤ m → m < n + 1 → Uf.goes s i m) := fun m a b => by
            by_cases hm : m = n
            · subst hm; exact ⟨hl, by rw [hz.out]; exact hv'.out⟩
            · exact hg.out m a (by omega)
          clear hv
          go_wp2_with fail
          refine (begins_4 (s.extract i (i + n)) _ z1 z2).mono ?_
          rintro e w5 ⟨rfl, hb5⟩
          have hb5' := Lib.hid (keep_trans hb'.out hb5)
          clear hb5
          rw [e1.out, e2.out, hv'.out]
          go_wp2_with fail
          go_roundw
          case rel =>
            exact ⟨n + 1, by omega, by omega, by go_num, hst, hb5'.out⟩
          case measure => simp [intOf]; omega
        | false =>
          have hv' := Lib.hid hv
          have hno : Hid (Uf.okAt s i = false) := by
            show _ = _
            cases ho : Uf.okAt s i with
            | false => rfl
            | true =>
              have := ((hok.out.1 ho) n n1 (by rw [hz.out]; exact hn)).2
              rw [hz.out, hv'.out] at this
              cases this
          clear hv
          go_wp2_with fail
          refine (begins_4 (s.extract i (i + n)) _ z1 z2).mono ?_
          rintro e w5 ⟨rfl, hb5⟩
          have hb5' := Lib.hid (keep_trans hb'.out hb5)
          clear hb5
          rw [e1.out, e2.out, hv'.out]
          go_wp2_with fail
          go_ret3
          exact ⟨⟨_, _, _, rfl, fun h => by (rw [hno.out] at h; cases h), fun _ => by decide⟩, hb5'.out⟩
      · have hno : Hid (Uf.okAt s i = false) := by
          show _ = _
          cases ho : Uf.okAt s i with
          | false => rfl
          | true => exact absurd ((hok.out.1 ho) n n1 (by rw [hz.out]; exact hn)).1 hl
        go_wp2_with fail
        go_ret3
        exact ⟨⟨_, _, _, rfl, fun h => by (rw [hno.out] at h; cases h), fun _ => by decide⟩, hb'.out⟩
    · have hn3 : (n : Int) = 5 := by omega
      rw [hn3]
      clear hn3
      have hyes : Hid (Uf.okAt s i = true) := hok.out.2 fun m a b => hg.out m a (by rw [hz.out] at b; omega)
      have hend := (hg.out 4 (by omega) (by omega)).1
      have hend' : (i : Int) + 4 ≤ s.size := by omega
      go_wp2_with fail
      have hbs := Lib.hid (hb'.out.alloc hb'.out.size (.cells #[.int .i64 0, .int .i64 0, .int .i64 192, .int .i64 224, .int .i64 240] 3))
      go_loopw [10, 11] (fun r c wx => ∃ (k : Nat) (q : Int), k ≤ 4 ∧ 1 ≤ k ∧ r = .int .i64 q ∧ c = .int .i64 k ∧ Below w.heap.size w wx) (fun _ c _ => 4 - (intOf c).toNat)
      case atStart => exact ⟨1, _, by omega, by omega, rfl, rfl, hbs.out⟩
      case round =>
        obtain ⟨k, q, k1, k2, rfl, rfl, hbk⟩ := hrel
        have hbk' := Lib.hid hbk
        clear hbk
        have k2' : (1 : Int) ≤ k := by omega
        by_cases hk : k < 4
        · go_wp2_with fail
          go_roundw
          case rel =>
            exact ⟨k + 1, _, by omega, by omega, rfl, by go_num, hbk'.out⟩
          case measure => simp [intOf]; omega
        · go_wp2_with fail
          go_ret3
          exact ⟨⟨_, _, _, rfl, fun h => ⟨by rw [hwid.out h]; rfl, rfl⟩, fun h => by (rw [hyes.out] at h; cases h)⟩, hbk'.out⟩

set_option maxRecDepth 100000 in
set_option maxHeartbeats 800000 in
theorem next_low (s : ByteArray) (i : Nat) (w : World) (hs : s.size ≤ 1000000) (hi : i < s.size) (c1 : s[i].toNat < 128) :
    Calls Try.prog 27 #[.string s, .int .i64 i] w (NextPost s i w) := by
  have hbi := Uf.b_at s i hi
  have hok := Lib.hid (Uf.ok_low s i (by rw [hbi]; exact c1))
  clear hbi
  go_enter Try.func27, Try.ntmps27
  go_wp2_with fail
  go_ret3
  exact ⟨⟨_, _, _, rfl, fun _ => ⟨by rw [hok.out.2.1]; rfl, rfl⟩, fun h => by (rw [hok.out.1] at h; cases h)⟩, Below.refl _ _⟩
set_option maxRecDepth 100000 in
set_option maxHeartbeats 800000 in
theorem next_bad (s : ByteArray) (i : Nat) (w : World) (hs : s.size ≤ 1000000) (hi : i < s.size) (c1 : 128 ≤ s[i].toNat) (c2 : s[i].toNat < 192 ∨ 247 < s[i].toNat) :
    Calls Try.prog 27 #[.string s, .int .i64 i] w (NextPost s i w) := by
  have hbi := Uf.b_at s i hi
  have hno : Hid (Uf.okAt s i = false) := by
    show _ = _
    cases ho : Uf.okAt s i with
    | false => rfl
    | true => have := (Uf.ok_wid s i ho).2; rw [hbi] at this; omega
  clear hbi
  rcases c2 with c2 | c2
  · go_enter Try.func27, Try.ntmps27
    go_wp2_with fail
    go_ret3
    exact ⟨⟨_, _, _, rfl, fun h => by (rw [hno.out] at h; cases h), fun _ => by decide⟩, Below.refl _ _⟩
  · have c3 : ¬ s[i].toNat < 192 := by omega
    go_enter Try.func27, Try.ntmps27
    go_wp2_with fail
    go_ret3
    exact ⟨⟨_, _, _, rfl, fun h => by (rw [hno.out] at h; cases h), fun _ => by decide⟩, Below.refl _ _⟩
theorem next_any (s : ByteArray) (i : Nat) (w : World) (hs : s.size ≤ 1000000) (hi : i < s.size) :
    Calls Try.prog 27 #[.string s, .int .i64 i] w (NextPost s i w) := by
  have hc : s[i].toNat < 128 ∨ (128 ≤ s[i].toNat ∧ (s[i].toNat < 192 ∨ 247 < s[i].toNat)) ∨ (192 ≤ s[i].toNat ∧ s[i].toNat < 224) ∨ (224 ≤ s[i].toNat ∧ s[i].toNat < 240) ∨ (240 ≤ s[i].toNat ∧ s[i].toNat < 248) := by omega
  rcases hc with h | ⟨h, h'⟩ | ⟨h, h'⟩ | ⟨h, h'⟩ | ⟨h, h'⟩
  · exact next_low s i w hs hi h
  · exact next_bad s i w hs hi h h'
  · exact next_2 s i w hs hi h h'
  · exact next_3 s i w hs hi h h'
  · exact next_4 s i w hs hi h h'

set_option maxRecDepth 100000 in
set_option maxHeartbeats 1000000 in
theorem rlen_any (s : ByteArray) (w : World) (hs : s.size ≤ 1000000) :
    Calls Try.prog 24 #[.string s] w fun e w' => e = .returned (.tuple #[.int .i64 (Uf.countV s), .bool (Uf.valid s)]) ∧ Below w.heap.size w w' := by
  have hs' := hs
  go_enter Try.func24, Try.ntmps24
  go_wp2_with fail
  go_loopw [4, 5] (fun n c wr => ∃ pos k : Nat, n = .int .i64 k ∧ c = .int .i64 pos ∧ k ≤ pos ∧ pos ≤ s.size ∧ Hid (Uf.At s pos k) ∧ Below w.heap.size w wr) (fun _ c _ => s.size - (intOf c).toNat)
  case atStart => exact ⟨0, 0, rfl, rfl, Nat.le_refl _, Nat.zero_le _, Uf.At.start s, Below.refl _ _⟩
  case round =>
    obtain ⟨pos, k, rfl, rfl, hk, hk2, ha, hb⟩ := hrel
    have hb' := Lib.hid hb
    clear hb
    by_cases hp : pos < s.size
    · have hwd := Uf.wid_pos s pos hp
      have hle := Lib.hid (Uf.At.le hk hp)
      cases ho : Uf.okAt s pos with
      | true =>
        have hst := Lib.hid (ha.out.step hp ho)
        have hw := Uf.wid_le s pos hp ho
        go_wp2_with fail
        refine (next_any s pos _ hs' hp).mono ?_
        rintro e w5 ⟨⟨r, n, ee, rfl, q1, q2⟩, hb5⟩
        obtain ⟨rfl, rfl⟩ := q1 ho
        clear q1 q2 ho
        have hb5' := Lib.hid (keep_trans hb'.out hb5)
        clear hb5
        go_wp2_with fail
        go_roundw
        case rel => exact ⟨pos + Uf.wid s pos, k + 1, by go_num, by go_num, hle.out, hw, hst, hb5'.out⟩
        case measure => simp [intOf]; omega
      | false =>
        have hbad := Lib.hid (ha.out.bad hp ho)
        go_wp2_with fail
        refine (next_any s pos _ hs' hp).mono ?_
        rintro e w5 ⟨⟨r, n, ee, rfl, q1, q2⟩, hb5⟩
        have q3 := q2 ho
        have q4 : (ee != 0) = true := by rw [bne_iff_ne]; exact q3
        clear q1 q2 q3 ho
        have hb5' := Lib.hid (keep_trans hb'.out hb5)
        clear hb5
        go_wp2_with fail
        go_ret2
        exact ⟨ret_ib hbad.out.2.symm hbad.out.1.symm, hb5'.out⟩
    · have hd := Lib.hid (ha.out.done (by omega))
      go_wp2_with fail
      go_ret2
      exact ⟨ret_ib hd.out.2.symm hd.out.1.symm, hb'.out⟩
end Go.Proofs.Ytcglfpgniifedaa
