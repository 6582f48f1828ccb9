/-
  A store's map in memory: a look-up, a store of a new name. What it is to have a store, and a reference store, at a pointer.
-/
import Derived.Test.YtcianlgkfkccoaaSt
import Derived.Test.YtcianlgkfkccoaaMem
import Derived.Test.YtcianlgkfkccoaaArgs
import Derived.Maps.Keyed
import Derived.Maps.OwnOps
namespace Go.Proofs.Ytcianlgkfkccoaa
set_option linter.unusedSimpArgs false
set_option linter.unusedVariables false
open Go Go.RowKit Go.ChangeMaps Go.MapKept

/-! ### The map -/
def resV (e : St.En) : Value := .agg #[.int .i64 e.cap, .int .i64 e.size, .string e.data]
def res0 : Value := .agg #[.int .i64 0, .int .i64 0, .string ⟨#[]⟩]
def ents (l : List St.En) : Array MapEntry := (l.mapIdx fun i e => (⟨.string e.name, resV e, i⟩ : MapEntry)).toArray
theorem ents_push (l : List St.En) (e : St.En) : ents (l ++ [e]) = (ents l).push ⟨.string e.name, resV e, l.length⟩ := by
  unfold ents
  rw [List.mapIdx_concat]
  simp
theorem ents_at (l : List St.En) (j : Nat) : (ents l).toList[j]? = l[j]?.map fun e => (⟨.string e.name, resV e, j⟩ : MapEntry) := by
  unfold ents
  simp
def MapIs (w : World) (m : Nat) (l : List St.En) : Prop := w.heap[m]? = some (.map (ents l) l.length)
theorem MapIs.lt {w : World} {m : Nat} {l : List St.En} (h : MapIs w m l) : m < w.heap.size := by
  rcases Nat.lt_or_ge m w.heap.size with hlt | hge
  · exact hlt
  · unfold MapIs at h; rw [Array.getElem?_eq_none hge] at h; cases h
theorem key_law : Maps.Keyed Try.prog 9 := Maps.string_keyed Try.underlying9
theorem zero_res (w : World) : (zeroValue 67).run Try.prog w = .ok res0 w := by kernel_rfl
def Small (l : List St.En) : Prop := ∀ e ∈ l, e.name.size ≤ 1000000
theorem ents_keys {l : List St.En} (hs : Small l) : ∀ x ∈ (ents l).toList, ∃ k, keyOf Try.prog 9 x.key = some k := by
  intro x hx
  obtain ⟨j, hj⟩ := List.mem_iff_getElem?.1 hx
  rw [ents_at] at hj
  obtain ⟨e, he, rfl⟩ := Option.map_eq_some_iff.1 hj
  exact ⟨_, WideMaps.keyOf_string_mk Try.underlying9 (Nat.le_trans (hs e (List.mem_of_getElem? he)) (by unfold maxLen; omega))⟩
theorem run_look {w : World} {m : Nat} {l : List St.En} {n : ByteArray} (h : MapIs w m l) (h1 : St.One l) (hs : Small l) (hn : n.size ≤ 1000000) :
    (Instr.lookup 59 (.map (some m)) (.string n) true).run Try.prog w = .ok (.tuple #[(match St.look l n with | some e => resV e | none => res0), .bool (St.look l n).isSome]) w := by
  have hkey := WideMaps.keyOf_string_mk (P := Try.prog) Try.underlying9 (s := n) (by unfold maxLen; omega)
  unfold MapIs at h
  rcases key_law.find w hkey (ents l).toList (ents_keys hs) with ⟨q1, q2⟩ | ⟨j, e0, q1, q2, q3⟩
  · have hl : St.look l n = none := by
      rw [St.look_none]
      intro e he hen
      obtain ⟨j, hj⟩ := List.mem_iff_getElem?.1 he
      refine q2 ⟨.string e.name, resV e, j⟩ (List.mem_iff_getElem?.2 ⟨j, ?_⟩) (by rw [hen])
      rw [ents_at, hj]; rfl
    rw [hl]
    simp [Instr.lookup, run_underlying Try.underlying59, MapKept.run_getObj_map h, key_law.check w _ hkey, q1, Result.andThen, zero_res, res0]
  · rw [ents_at] at q2
    obtain ⟨e, he, rfl⟩ := Option.map_eq_some_iff.1 q2
    have hen : e.name = n := by injection q3
    have hl : St.look l n = some e := by rw [← hen]; exact St.look_one l e h1 (List.mem_of_getElem? he)
    rw [hl]
    simp [Instr.lookup, run_underlying Try.underlying59, MapKept.run_getObj_map h, key_law.check w _ hkey, q1, Result.andThen]
theorem run_push {w : World} {m : Nat} {l : List St.En} {e : St.En} (h : MapIs w m l) (hs : Small l) (hn : e.name.size ≤ 1000000) (hl : St.look l e.name = none) :
    ∃ w', (Instr.mapUpdate 59 (.map (some m)) (.string e.name) (resV e)).run Try.prog w = .ok () w' ∧ MapIs w' m (l ++ [e]) ∧ w.grownBy w' (some m) ∧ w'.heap.size = w.heap.size := by
  have hkey := WideMaps.keyOf_string_mk (P := Try.prog) Try.underlying9 (s := e.name) (by unfold maxLen; omega)
  have hb := h
  unfold MapIs at hb
  rcases key_law.find w hkey (ents l).toList (ents_keys hs) with ⟨q1, q2⟩ | ⟨j, e0, q1, q2, q3⟩
  · refine ⟨setBlock w m (.map ((ents l).push ⟨.string e.name, resV e, l.length⟩) (l.length + 1)), ?_, ?_, ⟨rfl, rfl, rfl, by simp [setBlock], fun i _ hi => heap_setBlock_other hb _ (fun e => hi (by rw [e]))⟩, by simp [setBlock]⟩
    · simp [Instr.mapUpdate, run_underlying Try.underlying59, MapKept.run_getObj_map hb, key_law.check w false hkey, q1, MapKept.run_setObj_map _ hb, Result.andThen, setBlock]
    · unfold MapIs
      rw [ents_push, heap_setBlock_same hb]
      simp
  · rw [ents_at] at q2
    obtain ⟨x, hx, rfl⟩ := Option.map_eq_some_iff.1 q2
    have hxn : x.name = e.name := by injection q3
    exact absurd hxn ((St.look_none l e.name).1 hl x (List.mem_of_getElem? hx))

/-- The look-up at the operation: the name is there. -/
theorem wpList_look_some (w : World) {ops : Array Oper} {rest : List Oper} {o : Oper} {a : Act} {Q : Exit → Act → World → Prop}
    (hg : o.guard = none) (x k : Operand) (hop : o.op = Op.lookup 59 x k true) (m : Nat) (l : List St.En) (n : ByteArray) (e : St.En)
    (hx : a.eval x = .map (some m)) (hk : a.eval k = .string n) (h : MapIs w m l) (h1 : St.One l) (hs : Small l) (hn : n.size ≤ 1000000) (hl : St.look l n = some e)
    (hK : wpList Try.prog ops Q rest (a.put o.dst (.tuple #[.agg #[.int .i64 e.cap, .int .i64 e.size, .string e.data], .bool true])) w) : wpList Try.prog ops Q (o :: rest) a w := by
  refine wpList_plain hg fun K' hK' => ?_
  have hrun := run_look h h1 hs hn
  rw [hl] at hrun
  unfold Oper.wp
  simp [execOp, hop, hx, hk, hrun, Result.andThen]
  exact hK' _ _ hK
theorem wpList_look_none (w : World) {ops : Array Oper} {rest : List Oper} {o : Oper} {a : Act} {Q : Exit → Act → World → Prop}
    (hg : o.guard = none) (x k : Operand) (hop : o.op = Op.lookup 59 x k true) (m : Nat) (l : List St.En) (n : ByteArray)
    (hx : a.eval x = .map (some m)) (hk : a.eval k = .string n) (h : MapIs w m l) (h1 : St.One l) (hs : Small l) (hn : n.size ≤ 1000000) (hl : St.look l n = none)
    (hK : wpList Try.prog ops Q rest (a.put o.dst (.tuple #[.agg #[.int .i64 0, .int .i64 0, .string ⟨#[]⟩], .bool false])) w) : wpList Try.prog ops Q (o :: rest) a w := by
  refine wpList_plain hg fun K' hK' => ?_
  have hrun := run_look h h1 hs hn
  rw [hl] at hrun
  unfold Oper.wp
  simp [execOp, hop, hx, hk, hrun, Result.andThen]
  exact hK' _ _ hK
/-- 'm[n] = r' of a new name. -/
theorem wpList_push (w : World) {ops : Array Oper} {rest : List Oper} {o : Oper} {a : Act} {Q : Exit → Act → World → Prop}
    (hg : o.guard = none) (x k v : Operand) (hop : o.op = Op.mapUpdate 59 x k v) (m : Nat) (l : List St.En) (n : ByteArray) (e : St.En) (hen : e.name = n)
    (hx : a.eval x = .map (some m)) (hk : a.eval k = .string n) (hv : a.eval v = .agg #[.int .i64 e.cap, .int .i64 e.size, .string e.data]) (h : MapIs w m l) (hs : Small l) (hn : n.size ≤ 1000000) (hl : St.look l n = none)
    (hK : ∀ w', MapIs w' m (l ++ [e]) → w.grownBy w' (some m) → w'.heap.size = w.heap.size → wpList Try.prog ops Q rest (a.put o.dst undef) w') : wpList Try.prog ops Q (o :: rest) a w := by
  subst hen
  refine wpList_plain hg fun K' hK' => ?_
  obtain ⟨w', hrun, r1, r2, r3⟩ := run_push h hs hn hl
  unfold resV at hrun
  unfold Oper.wp
  simp [execOp, hop, hx, hk, hv, hrun, Result.andThen]
  exact hK' _ _ (hK w' r1 r2 r3)

/-! ### A store at a pointer -/
def fcells (fs : List (ByteArray × ByteArray)) : List Value := fs.flatMap fun f => [.string f.1, .string f.2]
def names (l : List St.En) : List Value := l.map fun e => .string e.name
/-- Only the blocks of F, and new ones, have turned. -/
structure Keeps (F : Nat → Prop) (w w' : World) : Prop where
  os : w'.os = w.os
  tape : w'.tape = w.tape
  output : w'.output = w.output
  size : w.heap.size ≤ w'.heap.size
  block : ∀ k, k < w.heap.size → ¬ F k → w'.heap[k]? = w.heap[k]?
structure Parts (w : World) (g m : Nat) (fv ov : Value) (F : Nat → Prop) (repo : ByteArray) (fs : List (ByteArray × ByteArray)) (l : List St.En) : Prop where
  row : Bk w g 61 #[.string repo, fv, .map (some m), ov]
  files : w.ownsRow 0 35 2 fv fs.length (fcells fs)
  map : MapIs w m l
  order : w.ownsRow 0 9 1 ov l.length (names l)
  fg : F g
  fm : F m
  ff : ∀ b, fv.ownBlock = some b → F b
  fo : ∀ b, ov.ownBlock = some b → F b
  bound : ∀ b, F b → b < w.heap.size
  one : St.One l
  small : Small l
/-- A store at block g, in blocks of F. -/
def Has (w : World) (g : Nat) (F : Nat → Prop) (repo : ByteArray) (fs : List (ByteArray × ByteArray)) (l : List St.En) : Prop :=
  ∃ m fv ov, Parts w g m fv ov F repo fs l
theorem Keeps.refl (F : Nat → Prop) (w : World) : Keeps F w w := ⟨rfl, rfl, rfl, Nat.le_refl _, fun _ _ _ => rfl⟩
theorem Keeps.trans {F G : Nat → Prop} {a b c : World} (h : Keeps F a b) (k : Keeps G b c) (hG : ∀ x, G x → F x ∨ a.heap.size ≤ x) : Keeps F a c :=
  ⟨k.os.trans h.os, k.tape.trans h.tape, k.output.trans h.output, Nat.le_trans h.size k.size, fun i hi hF => (k.block i (Nat.lt_of_lt_of_le hi h.size) (fun hg => by
    rcases hG i hg with h' | h'
    · exact hF h'
    · omega)).trans (h.block i hi hF)⟩
theorem Keeps.mono {F G : Nat → Prop} {a b : World} (h : Keeps F a b) (hG : ∀ x, F x → G x) : Keeps G a b := ⟨h.os, h.tape, h.output, h.size, fun i hi hF => h.block i hi (fun hh => hF (hG i hh))⟩
theorem Keeps.of_grown {F : Nat → Prop} {a b : World} {row : Option Nat} (h : a.grownBy b row) (hr : ∀ g, row = some g → F g) : Keeps F a b :=
  ⟨h.os, h.tape, h.output, h.size, fun i hi hF => h.block i hi (fun e => hF (hr i e.symm))⟩
theorem Keeps.of_below {F : Nat → Prop} {a b : World} (h : Below a.heap.size a b) : Keeps F a b := ⟨h.os, h.tape, h.output, h.size, fun i hi _ => h.block i hi⟩
theorem Keeps.below {F : Nat → Prop} {B : Nat} {w a b : World} (h : Below B w a) (k : Keeps F a b) (hF : ∀ x, F x → B ≤ x) (hB : B ≤ a.heap.size) : Below B w b :=
  h.trans ⟨k.os, k.tape, k.output, k.size, fun i hi => k.block i (by omega) (fun hh => by have := hF i hh; omega)⟩
theorem row_keep {w w' : World} {F : Nat → Prop} {base : Nat} {e : TypeId} {size : Nat} {v : Value} {n : Nat} {xs : List Value} (h : w.ownsRow base e size v n xs) (hk : Keeps F w w') (hne : ∀ b, v.ownBlock = some b → ¬ F b) : w'.ownsRow base e size v n xs := by
  refine ⟨h.1, ?_⟩
  rcases h.2 with hn | ⟨g, cap, cur, rfl, hb, hgg, rest⟩
  · exact .inl hn
  · exact .inr ⟨g, cap, cur, rfl, hb, (hk.block g (Array.getElem?_eq_some_iff.1 hgg).1 (hne g rfl)).trans hgg, rest⟩
theorem bk_keep {w w' : World} {F : Nat → Prop} {g : Nat} {t : TypeId} {cs : Array Value} (h : Bk w g t cs) (hk : Keeps F w w') (hne : ¬ F g) : Bk w' g t cs := (hk.block g h.lt hne).trans h
/-- A store stays, while blocks that are not its own turn. -/
theorem Has.keep {w w' : World} {g : Nat} {F G : Nat → Prop} {repo : ByteArray} {fs : List (ByteArray × ByteArray)} {l : List St.En} (h : Has w g F repo fs l) (hk : Keeps G w w') (hne : ∀ b, F b → ¬ G b) : Has w' g F repo fs l := by
  obtain ⟨m, fv, ov, h⟩ := h
  exact ⟨m, fv, ov, bk_keep h.row hk (hne _ h.fg), row_keep h.files hk (fun b hb => hne _ (h.ff b hb)), (hk.block m h.map.lt (hne _ h.fm)).trans h.map, row_keep h.order hk (fun b hb => hne _ (h.fo b hb)),
    h.fg, h.fm, h.ff, h.fo, fun b hb => Nat.lt_of_lt_of_le (h.bound b hb) hk.size, h.one, h.small⟩
theorem Has.below {w w' : World} {g : Nat} {F : Nat → Prop} {repo : ByteArray} {fs : List (ByteArray × ByteArray)} {l : List St.En} (h : Has w g F repo fs l) (hb : Below w.heap.size w w') : Has w' g F repo fs l :=
  h.keep (Keeps.of_below (F := fun _ => False) hb) (fun _ _ h => h)
theorem Has.lt {w : World} {g : Nat} {F : Nat → Prop} {repo : ByteArray} {fs : List (ByteArray × ByteArray)} {l : List St.En} (h : Has w g F repo fs l) : ∀ b, F b → b < w.heap.size := by
  obtain ⟨m, fv, ov, h⟩ := h
  exact h.bound
theorem Has.one {w : World} {g : Nat} {F : Nat → Prop} {repo : ByteArray} {fs : List (ByteArray × ByteArray)} {l : List St.En} (h : Has w g F repo fs l) : St.One l := by
  obtain ⟨m, fv, ov, h⟩ := h
  exact h.one
theorem Has.small {w : World} {g : Nat} {F : Nat → Prop} {repo : ByteArray} {fs : List (ByteArray × ByteArray)} {l : List St.En} (h : Has w g F repo fs l) : Small l := by
  obtain ⟨m, fv, ov, h⟩ := h
  exact h.small
/-- A slice that reads as these files. -/
def Files (w : World) (A : Option Addr) (fs : List (ByteArray × ByteArray)) : Prop :=
  ∀ i, i < fs.length → ∃ b o : Nat, A = some ⟨b, o, none⟩ ∧ b < w.heap.size ∧ w.cell? ⟨b, o + i * 2, none⟩ = some (.string (fs.getD i (⟨#[]⟩, ⟨#[]⟩)).1) ∧ w.cell? ⟨b, o + i * 2 + 1, none⟩ = some (.string (fs.getD i (⟨#[]⟩, ⟨#[]⟩)).2)
/-- A slice that reads as these askings. -/
def Asks (w : World) (A : Option Addr) (qs : List (ByteArray × Int)) : Prop :=
  ∀ i, i < qs.length → ∃ b o : Nat, A = some ⟨b, o, none⟩ ∧ b < w.heap.size ∧ w.cell? ⟨b, o + i * 2, none⟩ = some (.string (qs.getD i (⟨#[]⟩, 0)).1) ∧ w.cell? ⟨b, o + i * 2 + 1, none⟩ = some (.int .i64 (qs.getD i (⟨#[]⟩, 0)).2)
theorem Files.below {w w' : World} {A : Option Addr} {fs : List (ByteArray × ByteArray)} (h : Files w A fs) {B : Nat} (hb : Below B w w') (hB : ∀ b o, A = some ⟨b, o, none⟩ → b < B) : Files w' A fs := fun i hi => by
  obtain ⟨b, o, e, hl, h1, h2⟩ := h i hi
  have := hB b o e
  exact ⟨b, o, e, Nat.lt_of_lt_of_le hl hb.size, (hb.cell (p := ⟨b, _, none⟩) this).trans h1, (hb.cell (p := ⟨b, _, none⟩) this).trans h2⟩
theorem Asks.below {w w' : World} {A : Option Addr} {fs : List (ByteArray × Int)} (h : Asks w A fs) {B : Nat} (hb : Below B w w') (hB : ∀ b o, A = some ⟨b, o, none⟩ → b < B) : Asks w' A fs := fun i hi => by
  obtain ⟨b, o, e, hl, h1, h2⟩ := h i hi
  have := hB b o e
  exact ⟨b, o, e, Nat.lt_of_lt_of_le hl hb.size, (hb.cell (p := ⟨b, _, none⟩) this).trans h1, (hb.cell (p := ⟨b, _, none⟩) this).trans h2⟩
theorem Files.later {w w' : World} {A : Option Addr} {fs : List (ByteArray × ByteArray)} (h : Files w A fs) (hb : Below w.heap.size w w') : Files w' A fs := fun i hi => by
  obtain ⟨b, o, e, hl, h1, h2⟩ := h i hi
  exact ⟨b, o, e, Nat.lt_of_lt_of_le hl hb.size, (hb.cell (p := ⟨b, _, none⟩) hl).trans h1, (hb.cell (p := ⟨b, _, none⟩) hl).trans h2⟩
theorem Asks.later {w w' : World} {A : Option Addr} {fs : List (ByteArray × Int)} (h : Asks w A fs) (hb : Below w.heap.size w w') : Asks w' A fs := fun i hi => by
  obtain ⟨b, o, e, hl, h1, h2⟩ := h i hi
  exact ⟨b, o, e, Nat.lt_of_lt_of_le hl hb.size, (hb.cell (p := ⟨b, _, none⟩) hl).trans h1, (hb.cell (p := ⟨b, _, none⟩) hl).trans h2⟩
end Go.Proofs.Ytcianlgkfkccoaa
