/-
  The walk of Get, where a name is new.
-/
import Derived.Test.YtcianlgkfkccoaaStGet
import Derived.IntWalk
namespace Go.Proofs.Ytcianlgkfkccoaa
set_option linter.unusedSimpArgs false
set_option linter.unusedVariables false
open Go Go.RowKit

theorem names_snoc (l : List St.En) (e : St.En) : names (l ++ [e]) = names l ++ [.string e.name] := by unfold names; simp
theorem own_slice {w : World} {B n : Nat} {e : TypeId} {size : Nat} {v : Value} {xs : List Value} (h : w.ownsRow B e size v n xs) : ∃ a l c, v = .slice a l c := by
  rcases h.2 with ⟨rfl, _⟩ | ⟨g, cap, cur, rfl, _⟩ <;> exact ⟨_, _, _, rfl⟩
/-- An append to another block leaves a block as it is. -/
theorem bk_step {w w' : World} {g : Nat} {t : TypeId} {cs : Array Value} {o : Obj} {v : Value} (h : Bk w g t cs) (hg : (w.alloc o).grownBy w' v.ownBlock) (hne : v.ownBlock ≠ some g) : Bk w' g t cs :=
  (h.grow (World.grownBy_alloc w o none) (by simp)).grow hg (Ne.symm hne)
set_option maxRecDepth 100000 in
set_option maxHeartbeats 4000000 in
theorem get_new (g m : Nat) (A : Option Addr) (fcap : Nat) (ov : Value) (F : Nat → Prop) (repo : ByteArray) (fs : List (ByteArray × ByteArray)) (l : List St.En) (n : ByteArray) (c : Int) (w : World)
    (hP : Parts w g m (.slice A fs.length fcap) ov F repo fs l) (hF : Files w A fs) (hfl : fs.length ≤ 1000000) (hll : l.length ≤ 1000000) (hn : n.size ≤ 1000000) (hlk : St.look l n = none) (hc0 : 0 ≤ c) (hc1 : c ≤ 65536) :
    Calls Try.prog 16 #[.pointer (some ⟨g, 0, none⟩), .string n, .int .i64 c] w fun e w' => e = .returned (.tuple #[.string (St.fetch fs n c).data, .int .i64 (St.fetch fs n c).size, .int .i64 0]) ∧
      ∃ ov' F', Parts w' g m (.slice A fs.length fcap) ov' F' repo fs (l ++ [St.fetch fs n c]) ∧ Keeps F w w' ∧ (∀ b, F' b → F b ∨ w.heap.size ≤ b) := by
  obtain ⟨i0, hi0, hz0, hz1, hz2⟩ := info_parts info_string
  have h2 := hP.row.cell 2
  have hgl := hP.row.lt
  have hml := hP.map.lt
  have HP := Lib.hid hP
  have HF := Lib.hid hF
  have HK := Lib.hid hlk
  clear hP hF hlk
  have hen : Hid ((St.fetch fs n c).name = n) := St.fetch_name fs n c
  have hec : Hid ((St.fetch fs n c).cap = c) := by
    show _ = _
    unfold St.fetch St.came
    split
    · rfl
    · split <;> rfl
  go_enter Try.func16, Try.ntmps16
  go_wp2_with fail
  refine (made_yes g m _ h2).mono ?_
  rintro e w' ⟨rfl, rfl⟩
  go_wp2_with (at_lookup; refine wpList_look_none _ rfl _ _ rfl m l n rfl rfl HP.out.map HP.out.one HP.out.small hn HK.out ?_)
  refine (fetch_any g A fs fcap n c _ (Lib.cell?_alloc_some _ (HP.out.row.cell 1)) (HF.out.later ((Below.refl _ w).alloc (Nat.le_refl _) _)) hfl hc0 hc1).mono ?_
  rintro e w2 ⟨rfl, hb2⟩
  have hR2 : Bk w2 w.heap.size 67 #[.int .i64 0, .int .i64 0, .string ⟨#[]⟩] := (Bk.fresh w _ _).below hb2 (by simp)
  have hB2 := Lib.hid (((Below.refl _ w).alloc (Nat.le_refl _) (.cells #[.int .i64 0, .int .i64 0, .string ⟨#[]⟩] 67)).trans (hb2.mono (by simp)))
  have HP2 := Lib.hid (HP.out.below hB2.out)
  have r0 := hR2.cell 0
  have r1 := hR2.cell 1
  have r2 := hR2.cell 2
  have z0 := hR2.frozen 0
  have z1 := hR2.frozen 1
  have z2 := hR2.frozen 2
  have hrl := hR2.lt
  have HR2 := Lib.hid hR2
  have hnr : Hid (¬ F w.heap.size) := fun hh => Nat.lt_irrefl _ (HP.out.bound _ hh)
  have cg2 := HP2.out.row.cell 2
  have hgne : g ≠ w.heap.size := by omega
  clear hR2 hb2 h2
  unfold resV
  generalize hx : St.fetch fs n c = x at *
  have HX := Lib.hid hx
  clear hx
  go_wp2_with fail
  refine Lex.wp_region_drawn 0 6 (by kernel_rfl) (by kernel_rfl) ?_
  simp only [List.take_succ_cons, List.take_zero, List.drop_succ_cons, List.drop_zero, Lex.moved, Lex.movOf, Act.put, Act.eval, List.setIfInBounds_toArray, List.set_cons_zero, List.set_cons_succ, Lex.getD_zero, Lex.getD_succ]
  repeat (go_big_quiet_step (fail))
  refine wpQuiet_nil ?_
  intro _ hw'
  obtain ⟨nq, hw''⟩ := hw'
  subst hw''
  have hgr : Hid (w2.grownBy (((w2.setCell ⟨w.heap.size, 0, none⟩ (.int .i64 x.cap)).setCell ⟨w.heap.size, 1, none⟩ (.int .i64 x.size)).setCell ⟨w.heap.size, 2, none⟩ (.string x.data) |>.drewN nq) (some w.heap.size)) :=
    one_draw (one_put (one_put (one_put (one_refl w2 _) _ _) _ _) _ _) nq
  have HP3 := Lib.hid (HP2.out.grow hgr.out hnr.out)
  have HR3 : Hid (Bk (((w2.setCell ⟨w.heap.size, 0, none⟩ (.int .i64 x.cap)).setCell ⟨w.heap.size, 1, none⟩ (.int .i64 x.size)).setCell ⟨w.heap.size, 2, none⟩ (.string x.data) |>.drewN nq) w.heap.size 67 #[.int .i64 x.cap, .int .i64 x.size, .string x.data]) :=
    (((HR2.out.put 0 (.int .i64 x.cap)).put 1 (.int .i64 x.size)).put 2 (.string x.data)).drawn nq
  have HK3 : Hid (Keeps F w (((w2.setCell ⟨w.heap.size, 0, none⟩ (.int .i64 x.cap)).setCell ⟨w.heap.size, 1, none⟩ (.int .i64 x.size)).setCell ⟨w.heap.size, 2, none⟩ (.string x.data) |>.drewN nq)) :=
    (Keeps.of_below hB2.out).grown hgr.out (fun q hq => by cases hq; exact .inr (Nat.le_refl _))
  have hsz : Hid ((((w2.setCell ⟨w.heap.size, 0, none⟩ (.int .i64 x.cap)).setCell ⟨w.heap.size, 1, none⟩ (.int .i64 x.size)).setCell ⟨w.heap.size, 2, none⟩ (.string x.data) |>.drewN nq).heap.size = w2.heap.size) := by
    show _ = _
    simp [World.setCell]
  clear hgr
  generalize (((w2.setCell ⟨w.heap.size, 0, none⟩ (.int .i64 x.cap)).setCell ⟨w.heap.size, 1, none⟩ (.int .i64 x.size)).setCell ⟨w.heap.size, 2, none⟩ (.string x.data)).drewN nq = W at *
  go_wp2_with (at_mapUpdate; refine wpList_push _ rfl _ _ _ rfl m l n x hen.out rfl rfl rfl HP3.out.map HP3.out.small hn HK.out ?_; intro w3 hm3 hg3 hz3)
  refine NoPanic.normal ?_
  have row3 := HP3.out.row.grow hg3 (by have := bk_map HP3.out.row HP3.out.map; simpa using this)
  have ord3 := Lib.hid (HP3.out.order.kept hg3 (.inr (own_map HP3.out.order HP3.out.map)))
  have fil3 := Lib.hid (HP3.out.files.kept hg3 (.inr (own_map HP3.out.files HP3.out.map)))
  have R3 := Lib.hid (HR3.out.grow hg3 (by have := bk_map HR3.out HP3.out.map; simpa using this))
  have K3 := Lib.hid (HK3.out.grown hg3 (fun q hq => by cases hq; exact .inl HP.out.fm))
  have hM3 := Lib.hid hm3
  have hz3' : w.heap.size < w3.heap.size := by rw [hz3, hsz.out]; exact hrl
  have cg3 := row3.cell 3
  have hROW3 := Lib.hid row3
  clear hg3 hm3 hz3 hsz row3 r0 r1 r2 z0 z1 z2 cg2 hrl
  go_wp2_with (at_builtin; go_loud (refine wpList_append_own_at _ rfl _ _ _ rfl 0 9 i0 _ 1 16 Try.underlying47 hi0 hz0 hz1 hz2 rfl (by omega) ov l.length _ rfl (ord3.out.alloc _) ⟨w3.heap.size, 0, none⟩ 1 1 [.string n] rfl rfl (World.news_of_block (heap_alloc_new _ _)) (by simp [Value.oneCell']) (by unfold maxLen; omega) (by omega) (by simp) ?_); intro v4 w4 hown4 hgrow4 _ hat4; obtain ⟨va, vl, vc, rfl⟩ := own_slice hown4; have row4 := bk_step hROW3.out hgrow4 (own_bk ord3.out hROW3.out (by decide)); have c4 := row4.cell 3; have f4 := row4.frozen 3; have hROW4 := Lib.hid row4; have R4 := bk_step R3.out hgrow4 (own_bk ord3.out R3.out (by decide)); have k0 := R4.cell 0; have k1 := R4.cell 1; have k2 := R4.cell 2; have HR4 := Lib.hid R4; have hOWN := Lib.hid hown4; have hGR := Lib.hid hgrow4; have hAT := Lib.hid hat4; clear row4 R4 cg3 hown4 hgrow4 hat4)
  go_quiet (fail)
  go_wp2_with fail
  go_ret3
  obtain rfl := HX.out
  refine ⟨rfl, .slice va vl vc, (fun b => F b ∨ (Value.slice va vl vc).ownBlock = some b), ?_, ?_, ?_⟩
  · have e1 : (l ++ [St.fetch fs n c]).length = l.length + 1 := by simp
    have G5 : w4.grownBy ((w4.setCell ⟨g, 3, none⟩ (.slice va vl vc)).drewN nq) (some g) := one_draw (one_put (one_refl w4 _) 3 _) nq
    refine ⟨(hROW4.out.put 3 (.slice va vl vc)).drawn nq, ?_, ?_, ?_, .inl HP.out.fg, .inl HP.out.fm, fun b hb => .inl (HP.out.ff b hb), fun b hb => .inr hb, ?_, ?_, ?_⟩
    · have f4 := (fil3.out.alloc _).kept hGR.out (own_own fil3.out ord3.out (by decide))
      exact f4.kept G5 (.inr (own_bk f4 hROW4.out (by decide)))
    · exact ((hM3.out.grow (World.grownBy_alloc w3 _ none) (by simp)).grow hGR.out (Ne.symm (own_map ord3.out hM3.out))).grow G5 (by have := bk_map hROW3.out hM3.out; intro e; exact this (Option.some.inj e).symm)
    · rw [names_snoc, hen.out, e1]
      exact hOWN.out.kept G5 (.inr (own_bk hOWN.out hROW4.out (by decide)))
    · intro b hb
      rcases hb with hb | hb
      · have := HP.out.bound b hb
        have h1 := K3.out.size
        have h2 := hGR.out.size
        have h3 := G5.size
        rw [World.size_alloc] at h2
        omega
      · have := (hOWN.out.lt b hb).2
        have h3 := G5.size
        omega
    · exact St.one_snoc HP.out.one (by rw [hen.out]; exact HK.out)
    · intro y hy
      rcases List.mem_append.1 hy with hy | hy
      · exact HP.out.small y hy
      · simp at hy
        subst hy
        rw [hen.out]; exact hn
  · exact (((K3.out.alloc _).grown hGR.out (fun q hq => .inl (HP.out.fo q hq))).grown (one_put (one_refl w4 _) 3 _) (fun q hq => by cases hq; exact .inl HP.out.fg)).drawn nq
  · intro b hb
    rcases hb with hb | hb
    · exact .inl hb
    · rcases hAT.out with h | h
      · exact .inl (HP.out.fo b (h.symm.trans hb))
      · right
        rw [h] at hb
        have hb := Option.some.inj hb
        have h1 := K3.out.size
        rw [World.size_alloc] at hb
        omega
end Go.Proofs.Ytcianlgkfkccoaa
