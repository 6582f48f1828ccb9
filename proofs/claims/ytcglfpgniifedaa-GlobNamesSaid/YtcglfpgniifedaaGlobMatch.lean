/-
  The walks of Match, the program's and the document's.
-/
import Derived.Test.YtcglfpgniifedaaGlobFns
import Derived.Test.YtcglfpgniifedaaGlobRef
import Derived.Test.YtcglfpgniifedaaGlobLaw
import Derived.Deep.AppendLies
namespace Go.Proofs.Ytcglfpgniifedaa
set_option linter.unusedSimpArgs false
set_option linter.unusedVariables false
open Go Go.RowKit

/-- '[]rune(s)': the block is new, and begins with the text's runes. -/
theorem wpList_runes_bk {P : Program} (w : World) {ops : Array Oper} {rest : List Oper} {o : Oper} {a : Act} {Q : Exit → Act → World → Prop}
    (hg : o.guard = none) (x : Operand) (src dst e : TypeId) (hop : o.op = Op.convert src dst x)
    (hs : P.underlying src = some .string) (hd : P.underlying dst = some (.slice e)) (he : P.underlying e = some (.int .i32)) (s : ByteArray) (hx : a.eval x = .string s) (hsz : s.size ≤ 1000000)
    (hK : ∀ w' b cap, b = w.heap.size → Rs w' b (Uf.runes s) → b < w'.heap.size → w.grownBy w' none → wpList P ops Q rest (a.put o.dst (.slice (some ⟨b, 0, none⟩) (Uf.runes s).length cap)) w') :
    wpList P ops Q (o :: rest) a w := by
  refine wpList_plain hg fun K hK' => ?_
  have hl := Uf.runes_length s
  have hr := run_runes_of_string (P := P) w src dst e s hs hd he (by rw [Uf.runesFrom_all, List.size_toArray, List.length_map]; omega)
  have hsize : (((Uf.runes s).map Uf.cellR).toArray).size = (Uf.runes s).length := by simp
  rw [Uf.runesFrom_all, hsize] at hr
  unfold Oper.wp
  simp only [execOp, hop, hx, Sem.run_bind, hr, Result.andThen]
  refine hK' _ _ (hK _ _ _ rfl ?_ (by simp) ((one_draw (one_refl w none) 1).trans (World.grownBy_alloc w.drew _ none)))
  intro k c hk
  have hb := Bk.fresh w.drew e (((Uf.runes s).map Uf.cellR).toArray ++ Array.replicate (grownCap w (Uf.runes s).length 0 e - (Uf.runes s).length) (.int .i32 0))
  rw [show w.heap.size = w.drew.heap.size from rfl, hb.cell]
  have hkl := (List.getElem?_eq_some_iff.1 hk).1
  rw [Array.getElem?_append_left (by simpa using hkl)]
  simp [hk, Uf.cellR]

theorem path_size {s : ByteArray} (h : Nm.path s = true) : 1 ≤ s.size ∧ s.size ≤ 256 := by
  unfold Nm.path at h
  simp only [Bool.and_eq_true, decide_eq_true_eq] at h
  exact ⟨h.1.1.1, h.1.1.2⟩

set_option maxHeartbeats 1000000 in
theorem gmatch_any (p s : ByteArray) (w : World) (hp : p.size ≤ maxLen) (hs : s.size ≤ maxLen) :
    Calls Try.prog 12 #[.string p, .string s] w fun e w' => e = .returned (.bool (Gl.mt p s)) ∧ Below w.heap.size w w' := by
  have hB : Hid (Below w.heap.size w w) := Below.refl _ _
  cases e1 : Nm.path p with
  | false =>
    have e : Gl.mt p s = false := by unfold Gl.mt; rw [e1]; rfl
    rw [e]
    clear e
    have E := Lib.hid e1
    clear e1
    go_enter Try.func12, Try.ntmps12
    go_wp2_with fail
    refine (pattern_any _ _ hp).mono ?_
    rintro e w1 ⟨rfl, hb1⟩
    rw [E.out]
    replace hB := Lib.hid (keep_trans hB.out hb1)
    clear hb1
    go_wp2_with fail
    go_ret
    exact ⟨rfl, hB.out⟩
  | true =>
    cases e2 : Nm.path s with
    | false =>
      have e : Gl.mt p s = false := by unfold Gl.mt; rw [e1, e2]; rfl
      rw [e]
      clear e
      have E := Lib.hid e1
      have E2 := Lib.hid e2
      clear e1 e2
      go_enter Try.func12, Try.ntmps12
      go_wp2_with fail
      refine (pattern_any _ _ hp).mono ?_
      rintro e w1 ⟨rfl, hb1⟩
      rw [E.out]
      replace hB := Lib.hid (keep_trans hB.out hb1)
      clear hb1
      go_wp2_with fail
      refine (path_any _ _ hs).mono ?_
      rintro e w1 ⟨rfl, hb1⟩
      rw [E2.out]
      replace hB := Lib.hid (keep_trans hB.out hb1)
      clear hb1
      go_wp2_with fail
      go_ret
      exact ⟨rfl, hB.out⟩
    | true =>
      have hz1 := path_size e1
      have hz2 := path_size e2
      have R : Hid (Gl.mt p s = Gl.gm (Uf.runes p) (Uf.runes s)) := by
        show _ = _
        unfold Gl.mt; rw [e1, e2]; rfl
      have hl1 := Uf.runes_length p
      have hl2 := Uf.runes_length s
      have E := Lib.hid e1
      have E2 := Lib.hid e2
      clear e1 e2
      go_enter Try.func12, Try.ntmps12
      go_wp2_with fail
      refine (pattern_any _ _ hp).mono ?_
      rintro e w1 ⟨rfl, hb1⟩
      rw [E.out]
      replace hB := Lib.hid (keep_trans hB.out hb1)
      clear hb1
      go_wp2_with fail
      refine (path_any _ _ hs).mono ?_
      rintro e w1 ⟨rfl, hb1⟩
      rw [E2.out]
      replace hB := Lib.hid (keep_trans hB.out hb1)
      clear hb1
      go_wp2_with (first
        | (refine wpList_runes_bk _ rfl (.tmp 13) 9 37 21 rfl Try.underlying9 Try.underlying37 Try.underlying21 p rfl (by omega) ?_; intro w2 b2 c2 hb2 hr2 hlt2 hg2; have H2 := Lib.hid (And.intro hb2 (And.intro hr2 hg2)); clear hb2 hr2 hg2)
        | (refine wpList_runes_bk _ rfl (.tmp 15) 9 37 21 rfl Try.underlying9 Try.underlying37 Try.underlying21 s rfl (by omega) ?_; intro w3 b3 c3 hb3 hr3 hlt3 hg3; have H3 := Lib.hid (And.intro hb3 (And.intro hr3 hg3)); clear hb3 hr3 hg3))
      refine (match_any (Uf.runes p) (Uf.runes s) b2 b3 _ _ _ (H2.out.2.1.grow hlt2 H3.out.2.2 (by simp)) H3.out.2.1 (by omega) (by omega)).mono ?_
      rintro e _ ⟨rfl, nq, rfl⟩
      go_wp2_with fail
      go_ret
      refine ⟨ret_b R.out.symm, below_drawn ?_ nq⟩
      have hsz := hB.out.size
      exact (hB.out.grown H2.out.2.2 hsz (by simp)).grown H3.out.2.2 (Nat.le_trans hsz H2.out.2.2.size) (by simp)
end Go.Proofs.Ytcglfpgniifedaa
