/-
  The statement GlobStar, walked: it returns true.
-/
import Derived.Test.YtcglfpgniifedaaGlobLaws2
import Derived.Deep.CutBlock
import Derived.Deep.CutRange
import Derived.Deep.DeepCutAuto
import Derived.Deep.LoopGhost
namespace Go.Proofs.Ytcglfpgniifedaa
set_option linter.unusedSimpArgs false
set_option linter.unusedVariables false
open Go Go.RowKit

/-- An x. -/
abbrev xB : ByteArray := ⟨#[120]⟩
theorem x_text : Uf.valid xB = true ∧ Uf.runes xB = [120] := Uf.one_low 120 (by decide)
theorem path_x {r : ByteArray} (h : Nm.path (xB ++ r) = true) : Uf.valid r = true := by
  have := Gl.path_valid h
  rwa [Uf.app_valid x_text.1] at this
theorem path_rx {r : ByteArray} (hv : Uf.valid r = true) (hz : r.size ≤ 200) (h0 : 0 < r.size → Uf.b r 0 ≠ 47) : Nm.path (r ++ xB) = true ∧ ∃ P, Uf.runes (r ++ xB) = P ++ [120] := by
  obtain ⟨a1, a2⟩ := Uf.runes_app hv x_text.1
  have hx : xB.size = 1 := rfl
  refine ⟨Gl.path_mk (by rw [ByteArray.size_append]; omega) (by rw [ByteArray.size_append]; omega) ?_ a1, _, by rw [a2, x_text.2]⟩
  by_cases hr : 0 < r.size
  · rw [Nm.b_app_left r xB 0 hr]; exact h0 hr
  · have := Nm.b_app_right r xB 0 (by decide)
    rw [show r.size + 0 = 0 by omega] at this
    rw [this]
    decide
/-- Does one of two texts begin with a slash? -/
def Slashed (r t : ByteArray) : Bool := decide (0 < r.size ∧ Uf.b r 0 = 47) || decide (0 < t.size ∧ Uf.b t 0 = 47)


set_option maxRecDepth 100000 in
set_option maxHeartbeats 4000000 in
theorem globStar_walk (r t : ByteArray) (w : World) (hr : r.size ≤ maxLen) (ht : t.size ≤ maxLen) :
    Calls Try.prog 8 #[.string r, .string t] w fun e w' => e = .returned (.bool true) ∧ Below w.heap.size w w' := by
  have hB : Hid (Below w.heap.size w w) := Below.refl _ _
  by_cases h1 : 200 < r.size
  · go_enter Try.func8, Try.ntmps8
    go_wp2_with fail
    refine (gawake_any _).mono ?_
    rintro e w1 ⟨rfl, hb1⟩
    replace hB := Lib.hid (keep_trans hB.out hb1)
    clear hb1
    go_wp2_with fail
    go_ret
    exact ⟨rfl, hB.out⟩
  by_cases h2 : 200 < t.size
  · go_enter Try.func8, Try.ntmps8
    go_wp2_with fail
    refine (gawake_any _).mono ?_
    rintro e w1 ⟨rfl, hb1⟩
    replace hB := Lib.hid (keep_trans hB.out hb1)
    clear hb1
    go_wp2_with fail
    go_ret
    exact ⟨rfl, hB.out⟩
  have zx : (⟨#[120]⟩ : ByteArray).size = 1 := rfl
  have zp : (⟨#[120]⟩ ++ r : ByteArray).size ≤ maxLen := by rw [ByteArray.size_append]; unfold maxLen; omega
  have zs : (⟨#[120]⟩ ++ t : ByteArray).size ≤ maxLen := by rw [ByteArray.size_append]; unfold maxLen; omega
  cases hp : Nm.path (⟨#[120]⟩ ++ r : ByteArray) with
  | false =>
    have C0 := Lib.hid (is_says hp zp)
    clear hp zx zp zs
    go_enter Try.func8, Try.ntmps8
    go_wp2_with fail
    refine (gawake_any _).mono ?_
    rintro e w1 ⟨rfl, hb1⟩
    replace hB := Lib.hid (keep_trans hB.out hb1)
    clear hb1
    go_wp2_with fail
    refine (C0.out _).mono ?_
    rintro e w1 ⟨rfl, hb1⟩
    replace hB := Lib.hid (keep_trans hB.out hb1)
    clear hb1
    go_wp2_with fail
    go_ret
    exact ⟨rfl, hB.out⟩
  | true =>
    cases hs : Nm.path (⟨#[120]⟩ ++ t : ByteArray) with
    | false =>
      have C0 := Lib.hid (is_says hp zp)
      have C1 := Lib.hid (is_says hs zs)
      clear hp hs zx zp zs
      go_enter Try.func8, Try.ntmps8
      go_wp2_with fail
      refine (gawake_any _).mono ?_
      rintro e w1 ⟨rfl, hb1⟩
      replace hB := Lib.hid (keep_trans hB.out hb1)
      clear hb1
      go_wp2_with fail
      refine (C0.out _).mono ?_
      rintro e w1 ⟨rfl, hb1⟩
      replace hB := Lib.hid (keep_trans hB.out hb1)
      clear hb1
      go_wp2_with fail
      refine (C1.out _).mono ?_
      rintro e w1 ⟨rfl, hb1⟩
      replace hB := Lib.hid (keep_trans hB.out hb1)
      clear hb1
      go_wp2_with fail
      go_ret
      exact ⟨rfl, hB.out⟩
    | true =>
      have C0 := Lib.hid (is_says hp zp)
      have C1 := Lib.hid (is_says hs zs)
      go_enter Try.func8, Try.ntmps8
      go_wp2_with fail
      refine (gawake_any _).mono ?_
      rintro e w1 ⟨rfl, hb1⟩
      replace hB := Lib.hid (keep_trans hB.out hb1)
      clear hb1
      go_wp2_with fail
      refine (C0.out _).mono ?_
      rintro e w1 ⟨rfl, hb1⟩
      replace hB := Lib.hid (keep_trans hB.out hb1)
      clear hb1
      go_wp2_with fail
      refine (C1.out _).mono ?_
      rintro e w1 ⟨rfl, hb1⟩
      replace hB := Lib.hid (keep_trans hB.out hb1)
      clear hb1
      have zsn : (⟨#[120]⟩ ++ t : ByteArray).size = 1 + t.size := by rw [ByteArray.size_append]; omega
      have hend := Gl.mt_end hp hs (by have := path_size hp; rw [ByteArray.size_append]; omega) (by rw [Nm.b_app_left (⟨#[120]⟩ : ByteArray) r 0 (by decide)]; decide)
      have hpv := path_x hp
      have htv := path_x hs
      have hp120 : Nm.path (⟨#[120]⟩ ++ r : ByteArray) = true := hp
      have hs120 : Nm.path (⟨#[120]⟩ ++ t : ByteArray) = true := hs
      have hcl : (⟨#[120]⟩ ++ t : ByteArray).size ≤ 201 := by rw [zsn]; omega
      have hcp : (⟨#[120]⟩ ++ r : ByteArray).size ≤ 201 := by rw [ByteArray.size_append]; omega
      clear zsn C0 C1
      generalize (⟨#[120]⟩ ++ r : ByteArray) = p at *
      generalize (⟨#[120]⟩ ++ t : ByteArray) = s at *
      have hend := Lib.hid hend
      have hp120 := Lib.hid hp120
      have hs120 := Lib.hid hs120
      have hpv := Lib.hid hpv
      have htv := Lib.hid htv
      clear hp hs
      go_upto_block 0 with fail
      go_cut [7, 8] from 37 to 54 (fun v i wx => v = .bool (Gl.dn p s s.size) ∧ (∃ x : Int, i = .int .i64 x) ∧ Hid (Below w.heap.size w wx))
      case first =>
        go_wp2_with fail
        go_loopw [7, 8] (fun v i wr => ∃ k : Nat, k ≤ s.size ∧ i = .int .i64 k ∧ (∃ b : Bool, v = .bool b ∧ Hid (Gl.dn p s s.size = (b || Gl.dn p s k))) ∧ Hid (Below w.heap.size w wr)) (fun _ i _ => (intOf i).toNat)
        case atStart => exact ⟨s.size, Nat.le_refl _, rfl, ⟨false, rfl, rfl⟩, hB⟩
        case round =>
          clear hB
          obtain ⟨k, hk, rfl, ⟨b, rfl, hd⟩, hB⟩ := hrel
          cases b with
          | true =>
            have hd2 : Hid (Gl.dn p s s.size = true) := by have := hd.out; rw [Bool.true_or] at this; exact this
            by_cases h1 : 1 ≤ k
            · go_wp2_with fail
              go_meet
              exact ⟨by rw [hd2.out], ⟨_, rfl⟩, hB⟩
            · go_wp2_with fail
              go_meet
              exact ⟨by rw [hd2.out], ⟨_, rfl⟩, hB⟩
          | false =>
            cases k with
            | zero =>
              have hd2 : Hid (Gl.dn p s s.size = false) := hd
              go_wp2_with fail
              go_meet
              exact ⟨by rw [hd2.out], ⟨_, rfl⟩, hB⟩
            | succ j =>
              have hj : j < s.size := by omega
              have zc : (s.extract 0 (j + 1)).size ≤ maxLen := by rw [ByteArray.size_extract]; unfold maxLen; omega
              have hdd : Hid (Gl.dn p s s.size = (Gl.mt p (s.extract 0 (j + 1)) || (Uf.b s j != 47 && Gl.dn p s j))) := by have := hd.out; rw [Bool.false_or, Gl.dn] at this; exact this
              have hbyte := s[j].toNat_lt
              have hbj := Uf.b_at s j hj
              cases hm : Gl.mt p (s.extract 0 (j + 1)) with
              | true =>
                have C := Lib.hid (gm_says hm zp zc)
                have hd2 : Hid (Gl.dn p s s.size = true) := by have := hdd.out; rw [hm, Bool.true_or] at this; exact this
                clear hm hbj
                by_cases h47 : s[j].toNat = 47
                · have n1 : ((s[j].toNat : Int) == 47) = true := by rw [beq_iff_eq]; omega
                  clear h47
                  go_wp2_with fail
                  refine (C.out _).mono ?_
                  rintro e w1 ⟨rfl, hb1⟩
                  replace hB := Lib.hid (keep_trans hB.out hb1)
                  clear hb1
                  go_wp2_with fail
                  go_meet
                  exact ⟨by rw [hd2.out], ⟨_, rfl⟩, hB⟩
                · have n1 : ((s[j].toNat : Int) == 47) = false := by rw [beq_eq_false_iff_ne]; omega
                  clear h47
                  go_wp2_with fail
                  refine (C.out _).mono ?_
                  rintro e w1 ⟨rfl, hb1⟩
                  replace hB := Lib.hid (keep_trans hB.out hb1)
                  clear hb1
                  go_wp2_with fail
                  go_roundw
                  case rel => exact ⟨j, by omega, rfl, ⟨true, rfl, by rw [Bool.true_or]; exact hd2.out⟩, hB⟩
                  case measure => simp [intOf]
              | false =>
                have C := Lib.hid (gm_says hm zp zc)
                by_cases h47 : s[j].toNat = 47
                · have n1 : ((s[j].toNat : Int) == 47) = true := by rw [beq_iff_eq]; omega
                  have hd2 : Hid (Gl.dn p s s.size = false) := by have := hdd.out; rw [hm, hbj, h47] at this; exact this
                  clear h47 hm hbj
                  go_wp2_with fail
                  refine (C.out _).mono ?_
                  rintro e w1 ⟨rfl, hb1⟩
                  replace hB := Lib.hid (keep_trans hB.out hb1)
                  clear hb1
                  go_wp2_with fail
                  go_meet
                  exact ⟨by rw [hd2.out], ⟨_, rfl⟩, hB⟩
                · have n1 : ((s[j].toNat : Int) == 47) = false := by rw [beq_eq_false_iff_ne]; omega
                  have hd2 : Hid (Gl.dn p s s.size = (false || Gl.dn p s j)) := by have := hdd.out; rw [hm, hbj, bne_iff_ne.2 h47, Bool.true_and] at this; exact this
                  clear h47 hm hbj
                  go_wp2_with fail
                  refine (C.out _).mono ?_
                  rintro e w1 ⟨rfl, hb1⟩
                  replace hB := Lib.hid (keep_trans hB.out hb1)
                  clear hb1
                  go_wp2_with fail
                  go_roundw
                  case rel => exact ⟨j, by omega, rfl, ⟨false, rfl, hd2⟩, hB⟩
                  case measure => simp [intOf]
      case rest =>
        clear hB
        obtain ⟨rfl, ⟨x8, rfl⟩, hB⟩ := hcut
        have C := Lib.hid (gm_says hend.out (by rw [ByteArray.size_append]; show p.size + 1 ≤ maxLen; have := path_size hp120.out; unfold maxLen; omega) zs)
        go_wp2_with fail
        refine (C.out _).mono ?_
        rintro e w1 ⟨rfl, hb1⟩
        replace hB := Lib.hid (keep_trans hB.out hb1)
        clear hb1
        go_upto_region 15 with fail
        go_cut [80] from 65 to 80 (fun v wx => v = .bool (Slashed r t) ∧ wx = w1)
        case first =>
          by_cases hr0 : r.size = 0
          · obtain ⟨e1, e2⟩ := empty_of_size hr0
            have f1 : decide (0 < r.size ∧ Uf.b r 0 = 47) = false := decide_eq_false (by omega)
            by_cases ht0 : t.size = 0
            · obtain ⟨e3, e4⟩ := empty_of_size ht0
              have hv : Hid (Slashed r t = false) := by
                have f2 : decide (0 < t.size ∧ Uf.b t 0 = 47) = false := decide_eq_false (by omega)
                show _ = _
                unfold Slashed; rw [f1, f2]; rfl
              clear f1
              go_wp2_with fail
              go_meet
              exact ⟨by rw [hv.out], rfl⟩
            · obtain ⟨e3, e4⟩ := full_of_size ht0
              have htp : 0 < t.size := by omega
              have hbt := Uf.b_at t 0 htp
              by_cases h47 : t[0].toNat = 47
              · have hv : Hid (Slashed r t = true) := by
                  have f2 : decide (0 < t.size ∧ Uf.b t 0 = 47) = true := decide_eq_true (by omega)
                  show _ = _
                  unfold Slashed; rw [f1, f2]; rfl
                have n1 : ((t[0].toNat : Int) == 47) = true := by rw [beq_iff_eq]; omega
                clear f1 h47 hbt
                go_wp2_with fail
                go_meet
                exact ⟨by rw [hv.out], rfl⟩
              · have hv : Hid (Slashed r t = false) := by
                  have f2 : decide (0 < t.size ∧ Uf.b t 0 = 47) = false := decide_eq_false (by omega)
                  show _ = _
                  unfold Slashed; rw [f1, f2]; rfl
                have n1 : ((t[0].toNat : Int) == 47) = false := by rw [beq_eq_false_iff_ne]; omega
                clear f1 h47 hbt
                go_wp2_with fail
                go_meet
                exact ⟨by rw [hv.out], rfl⟩
          · obtain ⟨e1, e2⟩ := full_of_size hr0
            have hrp : 0 < r.size := by omega
            have hbr := Uf.b_at r 0 hrp
            by_cases h47 : r[0].toNat = 47
            · have hv : Hid (Slashed r t = true) := by
                have f2 : decide (0 < r.size ∧ Uf.b r 0 = 47) = true := decide_eq_true (by omega)
                show _ = _
                unfold Slashed; rw [f2]; rfl
              have n1 : ((r[0].toNat : Int) == 47) = true := by rw [beq_iff_eq]; omega
              clear h47 hbr
              go_wp2_with fail
              go_meet
              exact ⟨by rw [hv.out], rfl⟩
            · have f1 : decide (0 < r.size ∧ Uf.b r 0 = 47) = false := decide_eq_false (by omega)
              have n0 : ((r[0].toNat : Int) == 47) = false := by rw [beq_eq_false_iff_ne]; omega
              clear h47 hbr
              by_cases ht0 : t.size = 0
              · obtain ⟨e3, e4⟩ := empty_of_size ht0
                have hv : Hid (Slashed r t = false) := by
                  have f2 : decide (0 < t.size ∧ Uf.b t 0 = 47) = false := decide_eq_false (by omega)
                  show _ = _
                  unfold Slashed; rw [f1, f2]; rfl
                clear f1
                go_wp2_with fail
                go_meet
                exact ⟨by rw [hv.out], rfl⟩
              · obtain ⟨e3, e4⟩ := full_of_size ht0
                have htp : 0 < t.size := by omega
                have hbt := Uf.b_at t 0 htp
                by_cases h47 : t[0].toNat = 47
                · have hv : Hid (Slashed r t = true) := by
                    have f2 : decide (0 < t.size ∧ Uf.b t 0 = 47) = true := decide_eq_true (by omega)
                    show _ = _
                    unfold Slashed; rw [f1, f2]; rfl
                  have n1 : ((t[0].toNat : Int) == 47) = true := by rw [beq_iff_eq]; omega
                  clear f1 h47 hbt
                  go_wp2_with fail
                  go_meet
                  exact ⟨by rw [hv.out], rfl⟩
                · have hv : Hid (Slashed r t = false) := by
                    have f2 : decide (0 < t.size ∧ Uf.b t 0 = 47) = false := decide_eq_false (by omega)
                    show _ = _
                    unfold Slashed; rw [f1, f2]; rfl
                  have n1 : ((t[0].toNat : Int) == 47) = false := by rw [beq_eq_false_iff_ne]; omega
                  clear f1 h47 hbt
                  go_wp2_with fail
                  go_meet
                  exact ⟨by rw [hv.out], rfl⟩
        case rest =>
          clear C
          obtain ⟨rfl, rfl⟩ := hcut
          cases hsl : Slashed r t with
          | true =>
            go_wp2_with fail
            go_ret
            exact ⟨rfl, hB.out⟩
          | false =>
            have hsl2 := hsl
            unfold Slashed at hsl2
            rw [Bool.or_eq_false_iff, decide_eq_false_iff_not, decide_eq_false_iff_not] at hsl2
            obtain ⟨q1, q2⟩ := path_rx hpv.out (by omega) (fun h e => hsl2.1 ⟨h, e⟩)
            obtain ⟨q3, q4⟩ := path_rx htv.out (by omega) (fun h e => hsl2.2 ⟨h, e⟩)
            have q1' : Nm.path (r ++ ⟨#[120]⟩ : ByteArray) = true := q1
            have q3' : Nm.path (t ++ ⟨#[120]⟩ : ByteArray) = true := q3
            have zr : (r ++ ⟨#[120]⟩ : ByteArray).size = r.size + 1 := by rw [ByteArray.size_append]; rfl
            have zt : (t ++ ⟨#[120]⟩ : ByteArray).size = t.size + 1 := by rw [ByteArray.size_append]; rfl
            have hbeg := Gl.mt_begin q1' q3' (by omega) q2
            have z3 : (r ++ ⟨#[120]⟩ : ByteArray).size ≤ maxLen := by unfold maxLen; omega
            have z4 : (t ++ ⟨#[120]⟩ : ByteArray).size ≤ maxLen := by unfold maxLen; omega
            have z7 : (r ++ ⟨#[120]⟩ : ByteArray).size ≤ 201 := by omega
            have z5 : (t ++ ⟨#[120]⟩ : ByteArray).size ≤ 201 := by omega
            have z6 : (⟨#[42]⟩ ++ (r ++ ⟨#[120]⟩) : ByteArray).size ≤ maxLen := by rw [ByteArray.size_append, zr]; show 1 + (r.size + 1) ≤ maxLen; unfold maxLen; omega
            clear hsl hsl2 q1 q2 q3 q4 q1' q3' zr zt hend hp120 hs120 hpv htv zp zs hcl
            generalize hpe : (r ++ ⟨#[120]⟩ : ByteArray) = p2 at *
            generalize hse : (t ++ ⟨#[120]⟩ : ByteArray) = s2 at *
            clear hpe hse
            have hbeg := Lib.hid hbeg
            go_wp2_with fail
            go_loopw [7, 9] (fun v i wr => ∃ k : Nat, k ≤ s2.size ∧ i = .int .i64 k ∧ (∃ b : Bool, v = .bool b ∧ Hid (Gl.up p2 s2 s2.size 0 = (b || Gl.up p2 s2 (s2.size - k) k))) ∧ Hid (Below w.heap.size w wr)) (fun _ i _ => s2.size - (intOf i).toNat)
            case atStart => exact ⟨0, Nat.zero_le _, rfl, ⟨false, rfl, rfl⟩, hB⟩
            case round =>
              clear hB
              obtain ⟨k, hk, rfl, ⟨b, rfl, hd⟩, hB⟩ := hrel
              cases b with
              | true =>
                have hd2 : Hid (Gl.up p2 s2 s2.size 0 = true) := by have := hd.out; rw [Bool.true_or] at this; exact this
                by_cases h1 : k < s2.size
                · go_wp2_with fail
                  have C2 := Lib.hid (gm_says (hbeg.out.trans hd2.out) z6 z4)
                  refine (C2.out _).mono ?_
                  rintro e w1 ⟨rfl, hb1⟩
                  replace hB := Lib.hid (keep_trans hB.out hb1)
                  clear hb1
                  go_wp2_with fail
                  go_ret
                  exact ⟨rfl, hB.out⟩
                · go_wp2_with fail
                  have C2 := Lib.hid (gm_says (hbeg.out.trans hd2.out) z6 z4)
                  refine (C2.out _).mono ?_
                  rintro e w1 ⟨rfl, hb1⟩
                  replace hB := Lib.hid (keep_trans hB.out hb1)
                  clear hb1
                  go_wp2_with fail
                  go_ret
                  exact ⟨rfl, hB.out⟩
              | false =>
                by_cases h1 : k < s2.size
                · obtain ⟨f, hf⟩ : ∃ f, s2.size - k = f + 1 := ⟨s2.size - k - 1, by omega⟩
                  have hf2 : f = s2.size - (k + 1) := by omega
                  have zc : (s2.extract k s2.size).size ≤ maxLen := by rw [ByteArray.size_extract]; unfold maxLen; omega
                  have hdd : Hid (Gl.up p2 s2 s2.size 0 = (((decide (Uf.b s2 k < 128) || decide (192 ≤ Uf.b s2 k)) && Gl.mt p2 (s2.extract k s2.size)) || (Uf.b s2 k != 47 && Gl.up p2 s2 (s2.size - (k + 1)) (k + 1)))) := by have := hd.out; rw [Bool.false_or, hf, Gl.up, hf2] at this; exact this
                  have hbyte := s2[k].toNat_lt
                  have hbk := Uf.b_at s2 k h1
                  clear hf hf2
                  by_cases hpl : s2[k].toNat < 128 ∨ 192 ≤ s2[k].toNat
                  · have hpd : (decide (Uf.b s2 k < 128) || decide (192 ≤ Uf.b s2 k)) = true := by rw [hbk]; simp; omega
                    have PC : Hid (∀ W, Calls Try.prog 19 #[.int .u8 (s2[k].toNat : Int)] W fun e w' => e = .returned (.bool true) ∧ W = w') := fun W => by
                      have := plain_any s2[k].toNat W s2[k].toNat_lt
                      rwa [show (decide (s2[k].toNat < 128) || decide (192 ≤ s2[k].toNat)) = true by simp; omega] at this
                    cases hm : Gl.mt p2 (s2.extract k s2.size) with
                    | true =>
                      by_cases h47 : s2[k].toNat = 47
                      · have n1 : ((s2[k].toNat : Int) == 47) = true := by rw [beq_iff_eq]; omega
                        have hd2 : Hid (Gl.up p2 s2 s2.size 0 = true) := by show _ = _; rw [hdd.out, hm, hpd]; rfl
                        have CM := Lib.hid (gm_says hm z3 zc)
                        clear hdd hpd hbk h47 hpl hm
                        go_wp2_with fail
                        refine (PC.out _).mono ?_
                        rintro e _ ⟨rfl, rfl⟩
                        go_wp2_with fail
                        refine (CM.out _).mono ?_
                        rintro e w1 ⟨rfl, hb1⟩
                        replace hB := Lib.hid (keep_trans hB.out hb1)
                        clear hb1
                        go_wp2_with fail
                        have C2 := Lib.hid (gm_says (hbeg.out.trans hd2.out) z6 z4)
                        refine (C2.out _).mono ?_
                        rintro e w1 ⟨rfl, hb1⟩
                        replace hB := Lib.hid (keep_trans hB.out hb1)
                        clear hb1
                        go_wp2_with fail
                        go_ret
                        exact ⟨rfl, hB.out⟩
                      · have n1 : ((s2[k].toNat : Int) == 47) = false := by rw [beq_eq_false_iff_ne]; omega
                        have hd2 : Hid (Gl.up p2 s2 s2.size 0 = true) := by show _ = _; rw [hdd.out, hm, hpd]; rfl
                        have CM := Lib.hid (gm_says hm z3 zc)
                        clear hdd hpd hbk h47 hpl hm
                        go_wp2_with fail
                        refine (PC.out _).mono ?_
                        rintro e _ ⟨rfl, rfl⟩
                        go_wp2_with fail
                        refine (CM.out _).mono ?_
                        rintro e w1 ⟨rfl, hb1⟩
                        replace hB := Lib.hid (keep_trans hB.out hb1)
                        clear hb1
                        go_wp2_with fail
                        go_roundw
                        case rel => exact ⟨k + 1, by omega, by go_num, ⟨true, rfl, by rw [Bool.true_or]; exact hd2.out⟩, hB⟩
                        case measure => simp [intOf]; omega
                    | false =>
                      by_cases h47 : s2[k].toNat = 47
                      · have n1 : ((s2[k].toNat : Int) == 47) = true := by rw [beq_iff_eq]; omega
                        have hd2 : Hid (Gl.up p2 s2 s2.size 0 = false) := by show _ = _; rw [hdd.out, hm, Bool.and_false, hbk, h47]; rfl
                        have CM := Lib.hid (gm_says hm z3 zc)
                        clear hdd hpd hbk h47 hpl hm
                        go_wp2_with fail
                        refine (PC.out _).mono ?_
                        rintro e _ ⟨rfl, rfl⟩
                        go_wp2_with fail
                        refine (CM.out _).mono ?_
                        rintro e w1 ⟨rfl, hb1⟩
                        replace hB := Lib.hid (keep_trans hB.out hb1)
                        clear hb1
                        go_wp2_with fail
                        have C2 := Lib.hid (gm_says (hbeg.out.trans hd2.out) z6 z4)
                        refine (C2.out _).mono ?_
                        rintro e w1 ⟨rfl, hb1⟩
                        replace hB := Lib.hid (keep_trans hB.out hb1)
                        clear hb1
                        go_wp2_with fail
                        go_ret
                        exact ⟨rfl, hB.out⟩
                      · have n1 : ((s2[k].toNat : Int) == 47) = false := by rw [beq_eq_false_iff_ne]; omega
                        have hd2 : Hid (Gl.up p2 s2 s2.size 0 = (false || Gl.up p2 s2 (s2.size - (k + 1)) (k + 1))) := by show _ = _; rw [hdd.out, hm, Bool.and_false, hbk, bne_iff_ne.2 h47, Bool.true_and]
                        have CM := Lib.hid (gm_says hm z3 zc)
                        clear hdd hpd hbk h47 hpl hm
                        go_wp2_with fail
                        refine (PC.out _).mono ?_
                        rintro e _ ⟨rfl, rfl⟩
                        go_wp2_with fail
                        refine (CM.out _).mono ?_
                        rintro e w1 ⟨rfl, hb1⟩
                        replace hB := Lib.hid (keep_trans hB.out hb1)
                        clear hb1
                        go_wp2_with fail
                        go_roundw
                        case rel => exact ⟨k + 1, by omega, by go_num, ⟨false, rfl, hd2⟩, hB⟩
                        case measure => simp [intOf]; omega
                  · have hpd : (decide (Uf.b s2 k < 128) || decide (192 ≤ Uf.b s2 k)) = false := by rw [hbk]; simp; omega
                    have h47 : s2[k].toNat ≠ 47 := by omega
                    have PC : Hid (∀ W, Calls Try.prog 19 #[.int .u8 (s2[k].toNat : Int)] W fun e w' => e = .returned (.bool false) ∧ W = w') := fun W => by
                      have := plain_any s2[k].toNat W s2[k].toNat_lt
                      rwa [show (decide (s2[k].toNat < 128) || decide (192 ≤ s2[k].toNat)) = false by simp; omega] at this
                    have n1 : ((s2[k].toNat : Int) == 47) = false := by rw [beq_eq_false_iff_ne]; omega
                    have hd2 : Hid (Gl.up p2 s2 s2.size 0 = (false || Gl.up p2 s2 (s2.size - (k + 1)) (k + 1))) := by show _ = _; rw [hdd.out, hpd, Bool.false_and, hbk, bne_iff_ne.2 h47, Bool.true_and]
                    clear hdd hpd hbk h47 hpl
                    go_wp2_with fail
                    refine (PC.out _).mono ?_
                    rintro e _ ⟨rfl, rfl⟩
                    go_wp2_with fail
                    go_roundw
                    case rel => exact ⟨k + 1, by omega, by go_num, ⟨false, rfl, hd2⟩, hB⟩
                    case measure => simp [intOf]; omega
                · have hd2 : Hid (Gl.up p2 s2 s2.size 0 = false) := by have := hd.out; rw [Bool.false_or, show s2.size - k = 0 by omega] at this; exact this
                  go_wp2_with fail
                  have C2 := Lib.hid (gm_says (hbeg.out.trans hd2.out) z6 z4)
                  refine (C2.out _).mono ?_
                  rintro e w1 ⟨rfl, hb1⟩
                  replace hB := Lib.hid (keep_trans hB.out hb1)
                  clear hb1
                  go_wp2_with fail
                  go_ret
                  exact ⟨rfl, hB.out⟩
end Go.Proofs.Ytcglfpgniifedaa
