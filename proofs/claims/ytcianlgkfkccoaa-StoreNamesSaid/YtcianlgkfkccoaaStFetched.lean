/-
  The walk of Fetched.
-/
import Derived.Test.YtcianlgkfkccoaaStTold
import Derived.Maps.AppendAt
import Derived.Deep.AppendLies
namespace Go.Proofs.Ytcianlgkfkccoaa
set_option linter.unusedSimpArgs false
set_option linter.unusedVariables false
open Go Go.RowKit

def fetC (repo : ByteArray) (l : List St.En) : List Value := l.flatMap fun e => [.string repo, .string e.name, .int .i64 e.cap, .int .i64 e.size]
theorem fetC_len (repo : ByteArray) : ∀ l : List St.En, (fetC repo l).length = l.length * 4
  | [] => rfl
  | e :: r => by
    have := fetC_len repo r
    unfold fetC at *
    rw [List.flatMap_cons, List.length_append, this]
    simp; omega
theorem fetC_snoc (repo : ByteArray) (l : List St.En) (e : St.En) : fetC repo (l ++ [e]) = fetC repo l ++ [.string repo, .string e.name, .int .i64 e.cap, .int .i64 e.size] := by
  unfold fetC
  rw [List.flatMap_append]; rfl
theorem own_keep {w w' : World} {B n : Nat} {e : TypeId} {size : Nat} {v : Value} {xs : List Value} (h : w.ownsRow B e size v n xs) (hb : Below w.heap.size w w') : w'.ownsRow B e size v n xs :=
  h.kept (one_below hb none) (by cases v.ownBlock <;> simp)
theorem own_mono {w : World} {B B' n : Nat} {e : TypeId} {size : Nat} {v : Value} {xs : List Value} (h : w.ownsRow B e size v n xs) (hb : B' ≤ B) : w.ownsRow B' e size v n xs :=
  ⟨h.1, h.2.imp id fun ⟨g, cap, cur, h1, h2, h3⟩ => ⟨g, cap, cur, h1, Nat.le_trans hb h2, h3⟩⟩
theorem own_drawn {w : World} {B n : Nat} {e : TypeId} {size : Nat} {v : Value} {xs : List Value} (h : w.ownsRow B e size v n xs) (k : Nat) : (w.drewN k).ownsRow B e size v n xs := h
theorem names_at (l : List St.En) (k : Nat) (h : k < l.length) : (names l)[k]? = some (.string l[k].name) := by
  unfold names
  rw [List.getElem?_map, List.getElem?_eq_getElem h]; rfl

theorem new_one (w : World) (o o2 : Obj) : ((w.alloc o).alloc o2).heap[w.heap.size + 1]? = some o2 := by
  have := heap_alloc_new (w.alloc o) o2
  rwa [World.size_alloc] at this
set_option maxHeartbeats 400000 in
theorem fetched_nil (w : World) : Calls Try.prog 20 #[.pointer none] w fun e w' => e = .returned (.slice none 0 0) ∧ w = w' := by
  go_enter Try.func20, Try.ntmps20
  go_wp2_with fail
  refine (made_nil _).mono ?_
  rintro e w' ⟨rfl, rfl⟩
  go_wp2_with fail
  go_ret
  exact ⟨rfl, rfl⟩
set_option maxHeartbeats 400000 in
theorem fetched_no (g : Nat) (w : World) (h : w.cell? ⟨g, 2, none⟩ = some (.map none)) : Calls Try.prog 20 #[.pointer (some ⟨g, 0, none⟩)] w fun e w' => e = .returned (.slice none 0 0) ∧ w = w' := by
  go_enter Try.func20, Try.ntmps20
  go_wp2_with fail
  refine (made_no g _ h).mono ?_
  rintro e w' ⟨rfl, rfl⟩
  go_wp2_with fail
  go_ret
  exact ⟨rfl, rfl⟩

set_option maxRecDepth 20000 in
set_option maxHeartbeats 2000000 in
theorem fetched_cells (g m : Nat) (F : Nat → Prop) (A : Option Addr) (cap : Nat) (repo : ByteArray) (fs : List (ByteArray × ByteArray)) (l : List St.En) (w : World) (h2 : w.cell? ⟨g, 2, none⟩ = some (.map (some m))) (h3 : w.cell? ⟨g, 3, none⟩ = some (.slice A l.length cap))
    (hh : Has w g F repo fs l) (hA : ∀ k (hk : k < l.length), ∃ b, A = some ⟨b, 0, none⟩ ∧ b < w.heap.size ∧ w.cell? ⟨b, k, none⟩ = some (.string l[k].name)) (hl : l.length ≤ 1000000) :
    Calls Try.prog 20 #[.pointer (some ⟨g, 0, none⟩)] w fun e w' => ∃ v, e = .returned v ∧ w'.ownsRow w.heap.size 41 4 v l.length (fetC repo l) ∧ Below w.heap.size w w' := by
  obtain ⟨i0, hi0, hz0, hz1, hz2⟩ := info_parts info_fetch
  have HH := Lib.hid hh
  have HA := Lib.hid hA
  clear hh hA
  go_enter Try.func20, Try.ntmps20
  go_wp2_with fail
  refine (made_yes g m _ h2).mono ?_
  rintro e w' ⟨rfl, rfl⟩
  go_wp2_with fail
  go_loopw [3, 16] (fun v c wr => ∃ k : Nat, k ≤ l.length ∧ c = .int .i64 k ∧ Hid (wr.ownsRow w.heap.size 41 4 v k (fetC repo (l.take k))) ∧ Hid (Below w.heap.size w wr)) (fun _ c _ => l.length - (intOf c).toNat)
  case atStart => exact ⟨0, Nat.zero_le _, rfl, World.ownsRow_nil _ _ _ _, Below.refl _ _⟩
  case round =>
    obtain ⟨k, hk, rfl, hown, hb⟩ := hrel
    have hbs := hb.out.size
    by_cases hlt : k < l.length
    · obtain ⟨b, rfl, hbl, hc0⟩ := HA.out k hlt
      have hc : wr.cell? ⟨b, k, none⟩ = some (.string l[k].name) := (hb.out.cell (p := ⟨b, k, none⟩) hbl).trans hc0
      have hlk : Hid (St.look l l[k].name = some l[k]) := St.look_one l l[k] HH.out.one (List.getElem_mem hlt)
      have hsm : l[k].name.size ≤ 1000000 := HH.out.small _ (List.getElem_mem hlt)
      have htk : Hid (l.take (k + 1) = l.take k ++ [l[k]]) := by show _ = _; rw [List.take_succ_eq_append_getElem hlt]
      have HW := Lib.hid (HH.out.below hb.out)
      clear hc0
      generalize l[k] = x at *
      go_wp2_with fail
      refine (told_has HW.out x.name hsm).mono ?_
      rintro e w2 ⟨rfl, hb2⟩
      have hown2 := Lib.hid (own_keep hown.out hb2)
      have hB2 := Lib.hid (hb.out.trans (hb2.mono hbs))
      have hbs2 := hB2.out.size
      have HB2 := Lib.hid hb2
      clear hb2
      rw [hlk.out]
      unfold toldV fetV
      go_wp2_with (at_builtin; refine wpList_append_own_at _ rfl _ _ _ rfl w.heap.size 41 i0 _ 4 48 Try.underlying44 hi0 hz0 hz1 hz2 rfl (by omega) u3 k _ rfl ((hown2.out.alloc _).alloc _) ⟨w2.heap.size + 1, 0, none⟩ 1 1 [.string repo, .string x.name, .int .i64 x.cap, .int .i64 x.size] rfl rfl (World.news_of_block (new_one _ _ _)) (by simp [Value.oneCell']) (by unfold maxLen; omega) (by omega) (by simp; omega) ?_; intro v3 w3 hown3 hgrow3 _ _)
      have hb3 : Hid (Below w.heap.size w w3) := ((hB2.out.alloc hbs2 _).alloc (by simp; omega) _).grown hgrow3 (by simp; omega) (by intro q hq; exact (hown2.out.lt q hq).1)
      have hown3' : Hid (w3.ownsRow w.heap.size 41 4 v3 (k + 1) (fetC repo (l.take (k + 1)))) := by
        show World.ownsRow _ _ _ _ _ _ _
        rw [htk.out, fetC_snoc]; exact hown3
      clear hown3 hgrow3
      go_wp2_with fail
      go_roundw
      case rel => exact ⟨k + 1, by omega, by go_num, hown3', hb3⟩
      case measure => simp [intOf]; omega
    · have : k = l.length := by omega
      subst this
      go_wp2_with fail
      go_ret
      exact ⟨_, rfl, by have := hown.out; rwa [List.take_length] at this, hb.out⟩
theorem fetched_has {w : World} {g : Nat} {F : Nat → Prop} {repo : ByteArray} {fs : List (ByteArray × ByteArray)} {l : List St.En} (h : Has w g F repo fs l) (hl : l.length ≤ 1000000) :
    Calls Try.prog 20 #[.pointer (some ⟨g, 0, none⟩)] w fun e w' => ∃ v, e = .returned v ∧ w'.ownsRow w.heap.size 41 4 v l.length (fetC repo l) ∧ Below w.heap.size w w' := by
  have hh := h
  obtain ⟨m, fv, ov, h⟩ := h
  rcases own_news h.order with ⟨rfl, hn, _⟩ | ⟨b, cap, rfl, _, hbl, hcell⟩
  · have h3 := h.row.cell 3
    refine fetched_cells g m F none 0 repo fs l w (h.row.cell 2) (by rw [hn]; exact h3) hh (fun k hk => by omega) hl
  · refine fetched_cells g m F _ cap repo fs l w (h.row.cell 2) (h.row.cell 3) hh (fun k hk => ⟨b, rfl, hbl, ?_⟩) hl
    have := hcell k _ (names_at l k hk)
    rwa [Addr.add_lit, Nat.zero_add] at this
end Go.Proofs.Ytcianlgkfkccoaa
