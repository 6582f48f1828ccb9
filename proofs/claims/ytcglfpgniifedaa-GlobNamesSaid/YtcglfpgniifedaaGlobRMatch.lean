/-
  The walk of the document's Match: all places at once.
-/
import Derived.Test.YtcglfpgniifedaaGlobMatch
namespace Go.Proofs.Ytcglfpgniifedaa
set_option linter.unusedSimpArgs false
set_option linter.unusedVariables false
open Go Go.RowKit

theorem Uf.At2.step {p : ByteArray} {pre : List Nat} {pos : Nat} (h : Uf.runes p = pre ++ Uf.row p pos) (hp : pos < p.size) : Uf.runes p = (pre ++ [Uf.rune p pos]) ++ Uf.row p (pos + Uf.wid p pos) := by
  rw [h, Uf.row_step p pos hp, List.append_assoc]; rfl
theorem Uf.At2.done {p : ByteArray} {pre : List Nat} {pos : Nat} (h : Uf.runes p = pre ++ Uf.row p pos) (hp : ¬ pos < p.size) : Uf.runes p = pre := by
  rw [h, Uf.row_end p pos (by omega), List.append_nil]
theorem Uf.At2.len {p : ByteArray} {pre : List Nat} {pos : Nat} (h : Uf.runes p = pre ++ Uf.row p pos) : pre.length ≤ p.size := by
  have := Uf.runes_length p
  rw [h, List.length_append] at this
  omega

set_option maxHeartbeats 1000000 in
theorem rmatch_no (p s : ByteArray) (w : World) (hp : p.size ≤ 1000000) (hs : s.size ≤ 1000000) (h : (Nm.path p && Nm.path s) = false) :
    Calls Try.prog 13 #[.string p, .string s] w fun e w' => e = .returned (.bool (Gl.mt p s)) ∧ Below w.heap.size w w' := by
  have hB : Hid (Below w.heap.size w w) := Below.refl _ _
  have e : Gl.mt p s = false := by unfold Gl.mt; rw [h]; rfl
  rw [e]
  clear e
  cases e1 : Nm.path p with
  | false =>
    have E := Lib.hid e1
    clear e1 h
    go_enter Try.func13, Try.ntmps13
    go_wp2_with fail
    refine (gis_any _ _ hp).mono ?_
    rintro e w1 ⟨rfl, hb1⟩
    rw [E.out]
    replace hB := Lib.hid (keep_trans hB.out hb1)
    clear hb1
    go_wp2_with fail
    go_ret
    exact ⟨rfl, hB.out⟩
  | true =>
    have e2 : Nm.path s = false := by rw [e1] at h; exact h
    have E := Lib.hid e1
    have E2 := Lib.hid e2
    clear e1 e2 h
    go_enter Try.func13, Try.ntmps13
    go_wp2_with fail
    refine (gis_any _ _ hp).mono ?_
    rintro e w1 ⟨rfl, hb1⟩
    rw [E.out]
    replace hB := Lib.hid (keep_trans hB.out hb1)
    clear hb1
    go_wp2_with fail
    refine (gis_any _ _ hs).mono ?_
    rintro e w1 ⟨rfl, hb1⟩
    rw [E2.out]
    replace hB := Lib.hid (keep_trans hB.out hb1)
    clear hb1
    go_wp2_with fail
    go_ret
    exact ⟨rfl, hB.out⟩

set_option maxRecDepth 100000 in
set_option maxHeartbeats 4000000 in
theorem rmatch_yes (p s : ByteArray) (w : World) (hp : p.size ≤ 1000000) (hs : s.size ≤ 1000000) (e1 : Nm.path p = true) (e2 : Nm.path s = true) :
    Calls Try.prog 13 #[.string p, .string s] w fun e w' => e = .returned (.bool (Gl.mt p s)) ∧ Below w.heap.size w w' := by
  have hB : Hid (Below w.heap.size w w) := Below.refl _ _
  have hz1 := path_size e1
  have hz2 := path_size e2
  have R : Hid (Gl.mt p s = Gl.gm (Uf.runes p) (Uf.runes s)) := by
    show _ = _
    unfold Gl.mt; rw [e1, e2]; rfl
  have hl1 := Uf.runes_length p
  have hl2 := Uf.runes_length s
  have hl0 := Uf.runes_pos p (by omega)
  have E := Lib.hid e1
  have E2 := Lib.hid e2
  clear e1 e2
  obtain ⟨i0, hi0, hy0, hy1, hy2⟩ := info_parts info_i32
  go_enter Try.func13, Try.ntmps13
  go_wp2_with fail
  refine (gis_any _ _ hp).mono ?_
  rintro e w1 ⟨rfl, hb1⟩
  rw [E.out]
  replace hB := Lib.hid (keep_trans hB.out hb1)
  clear hb1
  go_wp2_with fail
  refine (gis_any _ _ hs).mono ?_
  rintro e wc ⟨rfl, hb1⟩
  rw [E2.out]
  replace hB := Lib.hid (keep_trans hB.out hb1)
  clear hb1
  go_wp2_with fail
  go_loopw [5] (fun v wr => ∃ (pre : List Nat) (pos : Nat), Hid (Uf.runes p = pre ++ Uf.row p pos) ∧ wr.ownsRow w.heap.size 21 1 v pre.length (pre.map Uf.cellR) ∧ It wr wc.heap.size p pos ∧ Below w.heap.size w wr) (fun _ wr => p.size - wr.iterPos wc.heap.size)
  case atStart => exact ⟨[], 0, rfl, World.ownsRow_nil _ _ _ _, It.begin wc p, hB.out.alloc hB.out.size _⟩
  case round =>
    obtain ⟨pre, pos, hpre, hown, hit, hb⟩ := hrel
    have hpl := Uf.At2.len hpre.out
    have hbs := hB.out.size
    by_cases hpos : pos < p.size
    · have hnx : ∀ ty, (Instr.next (.pointer (some ⟨wc.heap.size, 0, none⟩)) true ty).run Try.prog wr = .ok (.tuple #[.bool true, .int .i64 pos, .int .i32 (Uf.rune p pos : Nat)]) (itTo wr wc.heap.size p (pos + Uf.wid p pos)) := fun ty => hit.next ty hpos
      have hwd := Uf.wid_pos p pos hpos
      have hst := Lib.hid (Uf.At2.step hpre.out hpos)
      have hown' := Lib.hid (hown.kept (to_grown wr wc.heap.size p (pos + Uf.wid p pos)) (.inr (hit.own hown)))
      have hit' := Lib.hid (hit.to (pos + Uf.wid p pos))
      have hb' := Lib.hid (hb.grown (to_grown wr wc.heap.size p (pos + Uf.wid p pos)) (by have := hb.size; omega) (by intro g hg; cases hg; exact hbs))
      have hmu : Hid (wr.iterPos wc.heap.size = pos) := hit.pos
      have hsz0 : w.heap.size ≤ (itTo wr wc.heap.size p (pos + Uf.wid p pos)).heap.size := by rw [to_size]; have := hb.size; omega
      clear hown hit hb
      go_wp2_with (at_builtin; refine wpList_append_own_at _ rfl _ _ _ rfl w.heap.size 21 i0 _ 1 4 Try.underlying37 hi0 hy0 hy1 hy2 rfl (by omega) u5 pre.length _ rfl (hown'.out.alloc _) ⟨(itTo wr wc.heap.size p (pos + Uf.wid p pos)).heap.size, 0, none⟩ 1 1 [Uf.cellR (Uf.rune p pos)] rfl rfl (World.news_of_block (heap_alloc_new _ _)) (by simp [Value.oneCell', Uf.cellR]) (by unfold maxLen; omega) (by omega) (by simp; omega) ?_; intro v2 w2 hown2 hgrow2 _ _)
      have hit2 := Lib.hid ((hit'.out.grow (World.grownBy_alloc _ _ none) (by simp)).grow hgrow2 (fun h => hit'.out.own hown'.out h.symm))
      have hb2 := Lib.hid ((hb'.out.alloc hsz0 _).grown hgrow2 (by simp; omega) (by intro g hg; exact (hown'.out.lt g hg).1))
      have hown2' : Hid (w2.ownsRow w.heap.size 21 1 v2 (pre ++ [Uf.rune p pos]).length ((pre ++ [Uf.rune p pos]).map Uf.cellR)) := by
        show World.ownsRow _ _ _ _ _ _ _
        rw [List.map_append, List.length_append]; exact hown2
      clear hown2 hgrow2
      go_wp2_with fail
      go_roundw
      case rel => exact ⟨pre ++ [Uf.rune p pos], pos + Uf.wid p pos, hst, hown2'.out, hit2.out, hb2.out⟩
      case measure =>
        rw [hmu.out, hit2.out.pos]
        omega
    · have hnx : ∀ ty, (Instr.next (.pointer (some ⟨wc.heap.size, 0, none⟩)) true ty).run Try.prog wr = .ok (.tuple #[.bool false]) wr := fun ty => hit.stop ty hpos
      have hP := Uf.At2.done hpre.out hpos
      subst hP
      obtain ⟨gp, cp, rfl, hgp0, hgp, hcells⟩ : ∃ g cap, u5 = .slice (some ⟨g, 0, none⟩) (Uf.runes p).length cap ∧ w.heap.size ≤ g ∧ g < wr.heap.size ∧ Rs wr g (Uf.runes p) := by
        have h3 := hown
        rcases hown.2 with ⟨rfl, h0⟩ | ⟨g, cap, cur, rfl, h1, h2, _⟩
        · omega
        · refine ⟨g, cap, rfl, h1, (h3.lt g rfl).2, fun k c hk => ?_⟩
          have hkl := (List.getElem?_eq_some_iff.1 hk).1
          have hc := h3.cellAt (g := g) (cap := cap) k (by omega)
          rw [hc]
          simp [hk, Uf.cellR]
      have hcells := Lib.hid hcells
      have hb := Lib.hid hb
      clear hown hit hpre hpl hpos
      go_wp2_with (refine wpList_make_bk _ rfl (.tmp 32) (.tmp 32) 38 rfl 4 (.bool false) 1 Try.underlying38 info_bool rfl .i64 .i64 _ _ ((Uf.runes p).length + 1) rfl rfl (by omega) (by omega) (by omega) (by omega) ?_; intro w2 b2 hb2 hz2 hk2 hg2; have hB2 := Lib.hid (Bools.new hk2); have c0 : w2.cell? ⟨b2, 0, none⟩ = some (.bool false) := hB2.out.cell 0 (Nat.zero_le _); have f0 := hB2.out.frozen 0; have G2 := Lib.hid (And.intro hb2 (And.intro hz2 hg2)); clear hb2 hz2 hk2 hg2)
      have hne : gp ≠ b2 := by have := G2.out.1; omega
      have hwb : w.heap.size ≤ b2 := by have := G2.out.1; have := hb.out.size; omega
      have hp2 : Hid (w2.grownBy (w2.setCell ⟨b2, 0, none⟩ (.bool true)) (some b2)) := one_put (one_refl w2 _) 0 _
      have hR3 := Lib.hid ((hcells.out.grow hgp G2.out.2.2 (by simp)).grow (by have := G2.out.2.2.size; omega) hp2.out (by simpa using hne))
      have hB3 : Hid (Bools (w2.setCell ⟨b2, 0, none⟩ (.bool true)) b2 (Uf.runes p).length (fun j => j == 0)) := hB2.out.put 0 true (fun j _ => by
        by_cases e : 0 = j
        · subst e; rfl
        · rw [if_neg e]; exact beq_eq_false_iff_ne.2 (Ne.symm e))
      have hL2 := Lib.hid ((hb.out.grown G2.out.2.2 hb.out.size (by simp)).grown hp2.out (by have := G2.out.2.2.size; have := hb.out.size; omega) (by intro g hg; cases hg; exact hwb))
      have hs2 : gp < (w2.setCell ⟨b2, 0, none⟩ (.bool true)).heap.size := by have := G2.out.2.2.size; have := hp2.out.size; omega
      clear c0 f0
      refine (on_any (Uf.runes p) (fun j => j == 0) b2 gp cp _ hR3.out hs2 hB3.out hne (by omega)).mono ?_
      rintro e w3 ⟨rfl, hB4, hg3⟩
      have hA : Hid (Bools w3 b2 (Uf.runes p).length (Gl.A (Uf.runes p) [])) := hB4.as (fun j hj => (Gl.on_start (Uf.runes p) j hj).symm)
      have hR4 := Lib.hid (hR3.out.grow hs2 hg3 (by simpa using hne))
      have hL3 := Lib.hid (hL2.out.grown hg3 hL2.out.size (by intro g hg; cases hg; exact hwb))
      have hs3 : gp < w3.heap.size := by have := hg3.size; omega
      have hb23 : b2 < w3.heap.size := hA.out.lt
      have hw3 := hL3.out.size
      clear hB4 hg3 hs2 hb hcells hgp
      go_wp2_with fail
      go_loopw [8] (fun v wy => ∃ (pre : List Nat) (pos h : Nat), Hid (Uf.runes s = pre ++ Uf.row s pos) ∧ v = .slice (some ⟨h, 0, none⟩) ((Uf.runes p).length + 1) ((Uf.runes p).length + 1) ∧ Hid (Bools wy h (Uf.runes p).length (Gl.A (Uf.runes p) pre)) ∧ Hid (It wy w3.heap.size s pos) ∧ Hid (Rs wy gp (Uf.runes p)) ∧ gp ≠ h ∧ h ≠ w3.heap.size ∧ Hid (Below w.heap.size w wy)) (fun _ wy => s.size - wy.iterPos w3.heap.size)
      case atStart => exact ⟨[], 0, b2, rfl, rfl, hA.out.grow (World.grownBy_alloc w3 _ none) (by simp), It.begin w3 s, hR4.out.grow hs3 (World.grownBy_alloc w3 _ none) (by simp), hne, by omega, hL3.out.alloc hw3 _⟩
      case round =>
        clear hA hR4 hL3 hne hwb hb23
        obtain ⟨pre, pos, h, hpre, rfl, hA, hit, hR, hne, hne3, hL⟩ := hrel
        obtain ⟨wy, rfl⟩ : ∃ wy : World, wy = wr := ⟨_, rfl⟩
        by_cases hpos : pos < s.size
        · obtain ⟨r, hr⟩ : ∃ r, r = Uf.rune s pos := ⟨_, rfl⟩
          have hnx : ∀ ty, (Instr.next (.pointer (some ⟨w3.heap.size, 0, none⟩)) true ty).run Try.prog wy = .ok (.tuple #[.bool true, .int .i64 pos, .int .i32 (r : Nat)]) (itTo wy w3.heap.size s (pos + Uf.wid s pos)) := fun ty => by rw [hr]; exact hit.out.next ty hpos
          have hwd := Uf.wid_pos s pos hpos
          have hst : Hid (Uf.runes s = (pre ++ [r]) ++ Uf.row s (pos + Uf.wid s pos)) := by rw [hr]; exact Uf.At2.step hpre.out hpos
          have hmu : Hid (wy.iterPos w3.heap.size = pos) := hit.out.pos
          have hto := Lib.hid (to_grown wy w3.heap.size s (pos + Uf.wid s pos))
          have hlt := hit.out.lt
          have hhl := hA.out.lt
          have hzt : (itTo wy w3.heap.size s (pos + Uf.wid s pos)).heap.size = wy.heap.size := to_size _ _ _ _
          have hZ := Lib.hid hzt
          clear hr hzt
          go_wp2_with (refine wpList_make_bk _ rfl (.tmp 46) (.tmp 46) 38 rfl 4 (.bool false) 1 Try.underlying38 info_bool rfl .i64 .i64 _ _ ((Uf.runes p).length + 1) rfl rfl (by omega) (by omega) (by omega) (by omega) ?_; intro w4 b4 hb4 hz4 hk4 hg4; have hB5 := Lib.hid (Bools.new hk4); have G4 := Lib.hid (And.intro hb4 (And.intro hz4 hg4)); clear hb4 hz4 hk4 hg4)
          have hb4 : b4 = wy.heap.size := G4.out.1.trans hZ.out
          have hA4 := Lib.hid ((hA.out.grow hto.out (by simpa using hne3)).grow G4.out.2.2 (by simp))
          have hit4 := Lib.hid ((hit.out.to (pos + Uf.wid s pos)).grow G4.out.2.2 (by simp))
          have hR4 := Lib.hid ((hR.out.grow (by omega) hto.out (by simp; omega)).grow (by have := hZ.out; omega) G4.out.2.2 (by simp))
          have hL4 := Lib.hid ((hL.out.grown hto.out hL.out.size (by intro g hg; cases hg; exact hw3)).grown G4.out.2.2 (by have := hZ.out; have := hL.out.size; omega) (by simp))
          have hn1 : b4 ≠ w3.heap.size := by omega
          have hn2 : gp ≠ b4 := by omega
          have hn3 : h ≠ b4 := by omega
          have hn4 : w.heap.size ≤ b4 := by omega
          have hs4 : b4 + 1 = w4.heap.size := G4.out.2.1.symm
          have hgp4 : gp < w4.heap.size := by omega
          have hh4 : h < w4.heap.size := by omega
          have hi4 : w3.heap.size < w4.heap.size := by omega
          have hS4 := Lib.hid hs4
          clear hb4 hs4 hA hit hR hL hpre hlt hhl hnx
          go_wp2_with fail
          go_loopw [12] (fun i wx => ∃ k : Nat, k ≤ (Uf.runes p).length ∧ i = .int .i64 k ∧ Hid (Bools wx b4 (Uf.runes p).length (Gl.nxF (Gl.A (Uf.runes p) pre) (Uf.runes p) r k)) ∧ Hid (w4.grownBy wx (some b4))) (fun i _ => (Uf.runes p).length - (intOf i).toNat)
          case atStart => exact ⟨0, Nat.zero_le _, rfl, hB5.out.as fun j _ => Gl.nx_zero _ _ _ _, one_refl _ _⟩
          case round =>
            obtain ⟨k, hk, rfl, hb, hg⟩ := hrel
            obtain ⟨wx, rfl⟩ : ∃ wx : World, wx = wr := ⟨_, rfl⟩
            by_cases hlt : k < (Uf.runes p).length
            · obtain ⟨c, hc⟩ : ∃ c, (Uf.runes p)[k]? = some c := ⟨_, List.getElem?_eq_getElem hlt⟩
              have h1 : wx.cell? ⟨h, k, none⟩ = some (.bool (Gl.A (Uf.runes p) pre k)) := (one_cell hg.out (p := ⟨h, k, none⟩) hh4 (by simpa using hn3)).trans (hA4.out.cell k (by omega))
              have h2 : wx.cell? ⟨gp, k, none⟩ = some (.int .i32 (c : Int)) := (one_cell hg.out (p := ⟨gp, k, none⟩) hgp4 (by simpa using hn2)).trans (hR4.out k c hc)
              cases ho : Gl.A (Uf.runes p) pre k with
              | false =>
                have hn : Hid (Bools wx b4 (Uf.runes p).length (Gl.nxF (Gl.A (Uf.runes p) pre) (Uf.runes p) r (k + 1))) := hb.out.as fun j _ => Gl.nx_out ho j
                rw [ho] at h1
                clear ho hc hb
                go_wp2_with fail
                go_roundw
                case rel => exact ⟨k + 1, by omega, by go_num, hn, hg⟩
                case measure => simp [intOf]; omega
              | true =>
                by_cases h42 : c = 42
                · subst h42
                  by_cases h47 : r = 47
                  · have hn : Hid (Bools wx b4 (Uf.runes p).length (Gl.nxF (Gl.A (Uf.runes p) pre) (Uf.runes p) r (k + 1))) := hb.out.as fun j _ => by
                      rw [Gl.nx_star ho hc, h47]; simp
                    have n3 : ((r : Int) != 47) = false := by rw [bne_eq_false_iff_eq]; omega
                    rw [ho] at h1
                    clear ho hc hb h47
                    go_wp2_with fail
                    go_roundw
                    case rel => exact ⟨k + 1, by omega, by go_num, hn, hg⟩
                    case measure => simp [intOf]; omega
                  · have hn : Hid (Bools (wx.setCell ⟨b4, k, none⟩ (.bool true)) b4 (Uf.runes p).length (Gl.nxF (Gl.A (Uf.runes p) pre) (Uf.runes p) r (k + 1))) := hb.out.put k true fun j _ => by
                      rw [Gl.nx_star ho hc]
                      by_cases e : k = j
                      · subst e; simp [h47]
                      · rw [if_neg e, decide_eq_false (Ne.symm e)]; rfl
                    have n3 : ((r : Int) != 47) = true := by rw [bne_iff_ne]; omega
                    have hcl := hb.out.cell k (by omega)
                    have hfr := hb.out.frozen k
                    have hg' : Hid (w4.grownBy (wx.setCell ⟨b4, k, none⟩ (.bool true)) (some b4)) := one_put hg.out k _
                    rw [ho] at h1
                    clear ho hc hb h47 hg
                    go_wp2_with fail
                    go_roundw
                    case rel => exact ⟨k + 1, by omega, by go_num, hn, hg'⟩
                    case measure => simp [intOf]; omega
                · have n1 : ((c : Int) == 42) = false := by rw [beq_eq_false_iff_ne]; omega
                  have hdoc := Gl.one_doc c r
                  cases hone : Gl.one c r with
                  | false =>
                    have hn : Hid (Bools wx b4 (Uf.runes p).length (Gl.nxF (Gl.A (Uf.runes p) pre) (Uf.runes p) r (k + 1))) := hb.out.as fun j _ => by
                      rw [Gl.nx_one ho hc h42, hone]; simp
                    rw [hone] at hdoc
                    have hd := Bool.or_eq_false_iff.1 hdoc.symm
                    have n4 : ((c : Int) == (r : Int)) = false := by rw [beq_cast]; exact hd.1
                    rw [ho] at h1
                    by_cases h63 : c = 63
                    · have n5 : ((c : Int) == 63) = true := by rw [h63]; rfl
                      have n6 : ((r : Int) != 47) = false := by
                        have := hd.2
                        rw [h63] at this
                        rw [bne_eq_false_iff_eq]
                        simp at this
                        omega
                      clear ho hc hb h42 hdoc hd h63 hone
                      go_wp2_with fail
                      go_roundw
                      case rel => exact ⟨k + 1, by omega, by go_num, hn, hg⟩
                      case measure => simp [intOf]; omega
                    · have n5 : ((c : Int) == 63) = false := by rw [beq_eq_false_iff_ne]; omega
                      clear ho hc hb h42 hdoc hd h63 hone
                      go_wp2_with fail
                      go_roundw
                      case rel => exact ⟨k + 1, by omega, by go_num, hn, hg⟩
                      case measure => simp [intOf]; omega
                  | true =>
                    have hn : Hid (Bools (wx.setCell ⟨b4, k + 1, none⟩ (.bool true)) b4 (Uf.runes p).length (Gl.nxF (Gl.A (Uf.runes p) pre) (Uf.runes p) r (k + 1))) := hb.out.put (k + 1) true fun j _ => by
                      rw [Gl.nx_one ho hc h42, hone]
                      by_cases e : k + 1 = j
                      · subst e; simp
                      · rw [if_neg e, decide_eq_false (Ne.symm e)]; rfl
                    have hcl := hb.out.cell (k + 1) (by omega)
                    have hfr := hb.out.frozen (k + 1)
                    have hg' : Hid (w4.grownBy (wx.setCell ⟨b4, k + 1, none⟩ (.bool true)) (some b4)) := one_put hg.out (k + 1) _
                    rw [hone] at hdoc
                    rw [ho] at h1
                    by_cases hcr : c = r
                    · have n4 : ((c : Int) == (r : Int)) = true := by rw [beq_cast, hcr]; exact beq_self_eq_true r
                      clear ho hc hb h42 hdoc hone hg hcr
                      go_wp2_with fail
                      go_roundw
                      case rel => exact ⟨k + 1, by omega, by go_num, hn, hg'⟩
                      case measure => simp [intOf]; omega
                    · have n4 : ((c : Int) == (r : Int)) = false := by rw [beq_cast]; exact beq_eq_false_iff_ne.2 hcr
                      rw [beq_eq_false_iff_ne.2 hcr, Bool.false_or] at hdoc
                      have hd := Bool.and_eq_true_iff.1 hdoc.symm
                      have n5 : ((c : Int) == 63) = true := by
                        have := beq_iff_eq.1 hd.1
                        rw [this]; rfl
                      have n6 : ((r : Int) != 47) = true := by
                        have := hd.2
                        rw [bne_iff_ne] at this ⊢
                        omega
                      clear ho hc hb h42 hdoc hone hg hcr hd
                      go_wp2_with fail
                      go_roundw
                      case rel => exact ⟨k + 1, by omega, by go_num, hn, hg'⟩
                      case measure => simp [intOf]; omega
            · obtain rfl : k = (Uf.runes p).length := by omega
              have hgs := hg.out.size
              have hR5 := Lib.hid (hR4.out.grow hgp4 hg.out (by simpa using hn2))
              go_wp2_with fail
              refine (on_any (Uf.runes p) _ b4 gp cp _ hR5.out (by omega) hb.out hn2 (by omega)).mono ?_
              rintro e w5 ⟨rfl, hB6, hg5⟩
              have hA6 : Hid (Bools w5 b4 (Uf.runes p).length (Gl.A (Uf.runes p) (pre ++ [r]))) := hB6.as (fun j hj => (Gl.on_step (Uf.runes p) pre r _ (fun _ _ => rfl) j hj).symm)
              have hR6 := Lib.hid (hR5.out.grow (by omega) hg5 (by simpa using hn2))
              have hit6 := Lib.hid ((hit4.out.grow hg.out (by simpa using Ne.symm hn1)).grow hg5 (by simpa using Ne.symm hn1))
              have hL6 := Lib.hid ((hL4.out.grown hg.out hL4.out.size (by intro g hg; cases hg; exact hn4)).grown hg5 (by have := hL4.out.size; omega) (by intro g hg; cases hg; exact hn4))
              clear hB6 hg5 hgs
              go_wp2_with fail
              go_roundw
              case rel => exact ⟨pre ++ [r], pos + Uf.wid s pos, b4, hst, rfl, hA6, hit6, hR6, hn2, hn1, hL6⟩
              case measure =>
                rw [hmu.out, hit6.out.pos]
                omega
        · have hnx : ∀ ty, (Instr.next (.pointer (some ⟨w3.heap.size, 0, none⟩)) true ty).run Try.prog wy = .ok (.tuple #[.bool false]) wy := fun ty => hit.out.stop ty hpos
          have hP2 := Uf.At2.done hpre.out hpos
          have h1 : wy.cell? ⟨h, (Uf.runes p).length, none⟩ = some (.bool (Gl.A (Uf.runes p) pre (Uf.runes p).length)) := hA.out.cell _ (Nat.le_refl _)
          rw [Gl.A_all, ← hP2] at h1
          clear hP2 hpos hpre
          go_wp2_with fail
          go_ret
          exact ⟨ret_b R.out.symm, hL.out⟩

theorem rmatch_any (p s : ByteArray) (w : World) (hp : p.size ≤ 1000000) (hs : s.size ≤ 1000000) :
    Calls Try.prog 13 #[.string p, .string s] w fun e w' => e = .returned (.bool (Gl.mt p s)) ∧ Below w.heap.size w w' := by
  cases h : (Nm.path p && Nm.path s) with
  | false => exact rmatch_no p s w hp hs h
  | true =>
    rw [Bool.and_eq_true] at h
    exact rmatch_yes p s w hp hs h.1 h.2
end Go.Proofs.Ytcglfpgniifedaa
