/-
  The walk of Told.
-/
import Derived.Test.YtcianlgkfkccoaaStFetch
import Derived.Test.YtcianlgkfkccoaaLex
namespace Go.Proofs.Ytcianlgkfkccoaa
set_option linter.unusedSimpArgs false
set_option linter.unusedVariables false
open Go Go.RowKit

def fetV (repo : ByteArray) (e : St.En) : Value := .agg #[.string repo, .string e.name, .int .i64 e.cap, .int .i64 e.size]
def fet0 : Value := .agg #[.string ⟨#[]⟩, .string ⟨#[]⟩, .int .i64 0, .int .i64 0]
def toldV (repo : ByteArray) : Option St.En → Value
  | none => .tuple #[fet0, .bool false]
  | some e => .tuple #[fetV repo e, .bool true]

theorem MapIs.alloc {w : World} {m : Nat} {l : List St.En} (h : MapIs w m l) (o : Obj) : MapIs (w.alloc o) m l := (Below.heap_alloc w o m h.lt).trans h
set_option maxRecDepth 20000 in
set_option maxHeartbeats 1000000 in
theorem told_some (g m : Nat) (repo : ByteArray) (l : List St.En) (n : ByteArray) (e : St.En) (w : World) (h0 : w.cell? ⟨g, 0, none⟩ = some (.string repo)) (h2 : w.cell? ⟨g, 2, none⟩ = some (.map (some m)))
    (hm : MapIs w m l) (h1 : St.One l) (hs : Small l) (hn : n.size ≤ 1000000) (hlk : St.look l n = some e) :
    Calls Try.prog 18 #[.pointer (some ⟨g, 0, none⟩), .string n] w fun x w' => x = .returned (.tuple #[.agg #[.string repo, .string n, .int .i64 e.cap, .int .i64 e.size], .bool true]) ∧ Below w.heap.size w w' := by
  have hgl := World.block_lt_of_cell? w _ h0
  have HM := Lib.hid hm
  have H1 := Lib.hid h1
  have HK := Lib.hid hlk
  clear hm h1 hlk
  obtain ⟨ec, es, hec, hes⟩ : ∃ ec es, ec = e.cap ∧ es = e.size := ⟨_, _, rfl, rfl⟩
  go_enter Try.func18, Try.ntmps18
  go_wp2_with fail
  refine (made_yes g m _ (Lib.cell?_alloc_some _ h2)).mono ?_
  rintro x w' ⟨rfl, rfl⟩
  go_wp2_with (at_lookup; refine wpList_look_some _ rfl _ _ rfl m l n e rfl rfl (HM.out.alloc _) H1.out hs hn HK.out ?_)
  refine Lex.wp_region_drawn 0 10 (by kernel_rfl) (by kernel_rfl) ?_
  simp only [List.take_succ_cons, List.take_zero, List.drop_succ_cons, List.drop_zero, Lex.moved, Lex.movOf, Act.put, Act.eval, List.setIfInBounds_toArray, List.set_cons_zero, List.set_cons_succ, Lex.getD_zero, Lex.getD_succ]
  repeat (go_big_quiet_step (fail))
  refine wpQuiet_nil ?_
  intro _ hw'
  obtain ⟨nq, hw''⟩ := hw'
  subst hw''
  go_wp2_with fail
  refine NoPanic.normal ?_
  go_wp2_with fail
  refine bodyPost_ret (v := .tuple #[.agg #[.string repo, .string n, .int .i64 e.cap, .int .i64 e.size], .bool true]) (by simp [results, Try.results18, go_sem, *]) rfl ⟨rfl, ?_⟩
  exact below_put (below_put (below_put (below_put (below_drawn (((Below.refl _ w).alloc (Nat.le_refl _) _).alloc (by simp) _) nq) _ _) _ _) _ _) _ _

set_option maxRecDepth 20000 in
set_option maxHeartbeats 1000000 in
theorem told_none (g m : Nat) (l : List St.En) (n : ByteArray) (w : World) (h2 : w.cell? ⟨g, 2, none⟩ = some (.map (some m)))
    (hm : MapIs w m l) (h1 : St.One l) (hs : Small l) (hn : n.size ≤ 1000000) (hlk : St.look l n = none) :
    Calls Try.prog 18 #[.pointer (some ⟨g, 0, none⟩), .string n] w fun x w' => x = .returned (.tuple #[fet0, .bool false]) ∧ Below w.heap.size w w' := by
  have hgl := World.block_lt_of_cell? w _ h2
  have HM := Lib.hid hm
  have H1 := Lib.hid h1
  have HK := Lib.hid hlk
  clear hm h1 hlk
  go_enter Try.func18, Try.ntmps18
  go_wp2_with fail
  refine (made_yes g m _ (Lib.cell?_alloc_some _ h2)).mono ?_
  rintro x w' ⟨rfl, rfl⟩
  go_wp2_with (at_lookup; refine wpList_look_none _ rfl _ _ rfl m l n rfl rfl (HM.out.alloc _) H1.out hs hn HK.out ?_)
  refine bodyPost_ret (v := .tuple #[.agg #[.string ⟨#[]⟩, .string ⟨#[]⟩, .int .i64 0, .int .i64 0], .bool false]) (by simp [results, Try.results18, go_sem, *]) rfl ⟨rfl, ?_⟩
  exact ((Below.refl _ w).alloc (Nat.le_refl _) _).alloc (by simp) _
set_option maxHeartbeats 1000000 in
theorem told_nil (n : ByteArray) (w : World) :
    Calls Try.prog 18 #[.pointer none, .string n] w fun x w' => x = .returned (.tuple #[fet0, .bool false]) ∧ Below w.heap.size w w' := by
  go_enter Try.func18, Try.ntmps18
  go_wp2_with fail
  refine (made_nil _).mono ?_
  rintro x w' ⟨rfl, rfl⟩
  go_wp2_with fail
  refine bodyPost_ret (v := .tuple #[.agg #[.string ⟨#[]⟩, .string ⟨#[]⟩, .int .i64 0, .int .i64 0], .bool false]) (by simp [results, Try.results18, go_sem, *]) rfl ⟨rfl, ?_⟩
  exact (Below.refl _ w).alloc (Nat.le_refl _) _
set_option maxHeartbeats 1000000 in
theorem told_no (g : Nat) (n : ByteArray) (w : World) (h2 : w.cell? ⟨g, 2, none⟩ = some (.map none)) :
    Calls Try.prog 18 #[.pointer (some ⟨g, 0, none⟩), .string n] w fun x w' => x = .returned (.tuple #[fet0, .bool false]) ∧ Below w.heap.size w w' := by
  go_enter Try.func18, Try.ntmps18
  go_wp2_with fail
  refine (made_no g _ (Lib.cell?_alloc_some _ h2)).mono ?_
  rintro x w' ⟨rfl, rfl⟩
  go_wp2_with fail
  refine bodyPost_ret (v := .tuple #[.agg #[.string ⟨#[]⟩, .string ⟨#[]⟩, .int .i64 0, .int .i64 0], .bool false]) (by simp [results, Try.results18, go_sem, *]) rfl ⟨rfl, ?_⟩
  exact (Below.refl _ w).alloc (Nat.le_refl _) _
theorem told_has {w : World} {g : Nat} {F : Nat → Prop} {repo : ByteArray} {fs : List (ByteArray × ByteArray)} {l : List St.En} (h : Has w g F repo fs l) (n : ByteArray) (hn : n.size ≤ 1000000) :
    Calls Try.prog 18 #[.pointer (some ⟨g, 0, none⟩), .string n] w fun x w' => x = .returned (toldV repo (St.look l n)) ∧ Below w.heap.size w w' := by
  obtain ⟨m, fv, ov, h⟩ := h
  cases hl : St.look l n with
  | none => exact told_none g m l n w (h.row.cell 2) h.map h.one h.small hn hl
  | some e =>
    have he : e.name = n := (St.look_mem l n e hl).2
    subst he
    exact told_some g m repo l e.name e w (h.row.cell 0) (h.row.cell 2) h.map h.one h.small hn hl
end Go.Proofs.Ytcianlgkfkccoaa
