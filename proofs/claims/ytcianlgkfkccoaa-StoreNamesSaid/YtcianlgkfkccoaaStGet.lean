/-
  The walk of Get.
-/
import Derived.Test.YtcianlgkfkccoaaStFetched
import Derived.Deep.QuietTactic
namespace Go.Proofs.Ytcianlgkfkccoaa
set_option linter.unusedSimpArgs false
set_option linter.unusedVariables false
open Go Go.RowKit

/-! ### What stays -/
theorem Keeps.drawn {F : Nat → Prop} {w a : World} (h : Keeps F w a) (n : Nat) : Keeps F w (a.drewN n) := ⟨h.os, h.tape, h.output, h.size, h.block⟩
theorem Keeps.grown {F : Nat → Prop} {w a b : World} {row : Option Nat} (h : Keeps F w a) (hg : a.grownBy b row) (hr : ∀ g, row = some g → F g ∨ w.heap.size ≤ g) : Keeps F w b :=
  ⟨hg.os.trans h.os, hg.tape.trans h.tape, hg.output.trans h.output, Nat.le_trans h.size hg.size, fun i hi hF => (hg.block i (Nat.lt_of_lt_of_le hi h.size) (fun e => by
    rcases hr i e.symm with h' | h'
    · exact hF h'
    · omega)).trans (h.block i hi hF)⟩
theorem Keeps.alloc {F : Nat → Prop} {w a : World} (h : Keeps F w a) (o : Obj) : Keeps F w (a.alloc o) := h.grown (World.grownBy_alloc a o none) (by intro g h; cases h)
theorem own_bk {w : World} {B n g : Nat} {e t : TypeId} {size : Nat} {v : Value} {xs : List Value} {cs : Array Value} (h : w.ownsRow B e size v n xs) (k : Bk w g t cs) (he : e ≠ t) : v.ownBlock ≠ some g := by
  rcases h.2 with ⟨rfl, _⟩ | ⟨b, cap, cur, rfl, _, hh, _⟩
  · simp [Value.ownBlock]
  · intro e1
    have : b = g := by simpa [Value.ownBlock] using e1
    subst this
    unfold Bk at k
    rw [k] at hh
    injection hh with hh
    injection hh with _ hh _
    exact he hh.symm
theorem own_map {w : World} {B n m : Nat} {e : TypeId} {size : Nat} {v : Value} {xs : List Value} {l : List St.En} (h : w.ownsRow B e size v n xs) (k : MapIs w m l) : v.ownBlock ≠ some m := by
  rcases h.2 with ⟨rfl, _⟩ | ⟨b, cap, cur, rfl, _, hh, _⟩
  · simp [Value.ownBlock]
  · intro e1
    have : b = m := by simpa [Value.ownBlock] using e1
    subst this
    unfold MapIs at k
    rw [k] at hh
    cases hh
theorem own_own {w : World} {B n B' n' : Nat} {e e' : TypeId} {size size' : Nat} {v v' : Value} {xs xs' : List Value} (h : w.ownsRow B e size v n xs) (k : w.ownsRow B' e' size' v' n' xs') (he : e ≠ e') : v.ownBlock = none ∨ v.ownBlock ≠ v'.ownBlock := by
  rcases k.2 with ⟨rfl, _⟩ | ⟨b, cap, cur, rfl, _, hh, _⟩
  · cases hv : v.ownBlock with
    | none => exact .inl rfl
    | some g => right; simp [Value.ownBlock]
  · exact .inr (own_bk (t := e') (cs := cur) h hh he)
theorem bk_map {w : World} {g m : Nat} {t : TypeId} {cs : Array Value} {l : List St.En} (h : Bk w g t cs) (k : MapIs w m l) : g ≠ m := by
  rintro rfl
  unfold Bk at h
  unfold MapIs at k
  rw [h] at k
  cases k
theorem MapIs.grow {w w' : World} {m : Nat} {l : List St.En} {row : Option Nat} (h : MapIs w m l) (hb : w.grownBy w' row) (hg : some m ≠ row) : MapIs w' m l := (hb.block m h.lt hg).trans h
theorem Parts.keep {w w' : World} {g m : Nat} {fv ov : Value} {F G : Nat → Prop} {repo : ByteArray} {fs : List (ByteArray × ByteArray)} {l : List St.En} (h : Parts w g m fv ov F repo fs l) (hk : Keeps G w w') (hne : ∀ b, F b → ¬ G b) : Parts w' g m fv ov F repo fs l :=
  ⟨bk_keep h.row hk (hne _ h.fg), row_keep h.files hk (fun b hb => hne _ (h.ff b hb)), (hk.block m h.map.lt (hne _ h.fm)).trans h.map, row_keep h.order hk (fun b hb => hne _ (h.fo b hb)),
    h.fg, h.fm, h.ff, h.fo, fun b hb => Nat.lt_of_lt_of_le (h.bound b hb) hk.size, h.one, h.small⟩
theorem Parts.below {w w' : World} {g m : Nat} {fv ov : Value} {F : Nat → Prop} {repo : ByteArray} {fs : List (ByteArray × ByteArray)} {l : List St.En} (h : Parts w g m fv ov F repo fs l) (hb : Below w.heap.size w w') : Parts w' g m fv ov F repo fs l :=
  h.keep (Keeps.of_below (F := fun _ => False) hb) (fun _ _ h => h)
theorem Parts.grow {w w' : World} {g m : Nat} {fv ov : Value} {F : Nat → Prop} {repo : ByteArray} {fs : List (ByteArray × ByteArray)} {l : List St.En} {r : Nat} (h : Parts w g m fv ov F repo fs l) (hb : w.grownBy w' (some r)) (hr : ¬ F r) : Parts w' g m fv ov F repo fs l :=
  h.keep (Keeps.of_grown (F := fun b => b = r) hb (fun g h => by cases h; rfl)) (fun b hb hh => hr (hh ▸ hb))

set_option maxHeartbeats 400000 in
theorem get_nil (n : ByteArray) (c : Int) (w : World) : Calls Try.prog 16 #[.pointer none, .string n, .int .i64 c] w fun e w' => e = .returned (.tuple #[.string ⟨#[]⟩, .int .i64 0, .int .i64 2]) ∧ w = w' := by
  go_enter Try.func16, Try.ntmps16
  go_wp2_with fail
  refine (made_nil _).mono ?_
  rintro e w' ⟨rfl, rfl⟩
  go_wp2_with fail
  go_ret3
  exact ⟨rfl, rfl⟩
set_option maxHeartbeats 400000 in
theorem get_zero (g : Nat) (n : ByteArray) (c : Int) (w : World) (h : w.cell? ⟨g, 2, none⟩ = some (.map none)) : Calls Try.prog 16 #[.pointer (some ⟨g, 0, none⟩), .string n, .int .i64 c] w fun e w' => e = .returned (.tuple #[.string ⟨#[]⟩, .int .i64 0, .int .i64 2]) ∧ w = w' := by
  go_enter Try.func16, Try.ntmps16
  go_wp2_with fail
  refine (made_no g _ h).mono ?_
  rintro e w' ⟨rfl, rfl⟩
  go_wp2_with fail
  go_ret3
  exact ⟨rfl, rfl⟩
set_option maxRecDepth 20000 in
set_option maxHeartbeats 1000000 in
theorem get_bad (g m : Nat) (n : ByteArray) (c : Int) (w : World) (h : w.cell? ⟨g, 2, none⟩ = some (.map (some m))) (hc : c < 0 ∨ 65536 < c) : Calls Try.prog 16 #[.pointer (some ⟨g, 0, none⟩), .string n, .int .i64 c] w fun e w' => e = .returned (.tuple #[.string ⟨#[]⟩, .int .i64 0, .int .i64 1]) ∧ w = w' := by
  rcases hc with hc | hc
  · have d1 : decide (c < 0) = true := decide_eq_true hc
    go_enter Try.func16, Try.ntmps16
    go_wp2_with fail
    refine (made_yes g m _ h).mono ?_
    rintro e w' ⟨rfl, rfl⟩
    go_wp2_with fail
    go_ret3
    exact ⟨rfl, rfl⟩
  · have d1 : decide (c < 0) = false := decide_eq_false (by omega)
    have d2 : decide (65536 < c) = true := decide_eq_true hc
    go_enter Try.func16, Try.ntmps16
    go_wp2_with fail
    refine (made_yes g m _ h).mono ?_
    rintro e w' ⟨rfl, rfl⟩
    go_wp2_with fail
    go_ret3
    exact ⟨rfl, rfl⟩
set_option maxRecDepth 20000 in
set_option maxHeartbeats 1000000 in
theorem get_known (g m : Nat) (l : List St.En) (n : ByteArray) (c : Int) (x : St.En) (w : World) (h2 : w.cell? ⟨g, 2, none⟩ = some (.map (some m))) (hm : MapIs w m l) (h1 : St.One l) (hs : Small l) (hn : n.size ≤ 1000000) (hlk : St.look l n = some x) (hc0 : 0 ≤ c) (hc1 : c ≤ 65536) :
    Calls Try.prog 16 #[.pointer (some ⟨g, 0, none⟩), .string n, .int .i64 c] w fun e w' => e = .returned (.tuple #[.string x.data, .int .i64 x.size, .int .i64 0]) ∧ Below w.heap.size w w' := by
  have HM := Lib.hid hm
  have H1 := Lib.hid h1
  have HK := Lib.hid hlk
  clear hm h1 hlk
  go_enter Try.func16, Try.ntmps16
  go_wp2_with fail
  refine (made_yes g m _ h2).mono ?_
  rintro e w' ⟨rfl, rfl⟩
  go_wp2_with (at_lookup; refine wpList_look_some _ rfl _ _ rfl m l n x rfl rfl HM.out H1.out hs hn HK.out ?_)
  go_quiet (fail)
  go_wp2_with fail
  go_ret3
  exact ⟨rfl, below_drawn ((Below.refl _ w).alloc (Nat.le_refl _) _) _⟩
end Go.Proofs.Ytcianlgkfkccoaa
