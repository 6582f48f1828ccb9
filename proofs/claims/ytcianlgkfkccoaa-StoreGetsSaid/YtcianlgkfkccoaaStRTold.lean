/-
  The contract of the reference's Get; the walk of its Told.
-/
import Derived.Test.YtcianlgkfkccoaaStRGet
namespace Go.Proofs.Ytcianlgkfkccoaa
set_option linter.unusedSimpArgs false
set_option linter.unusedVariables false
open Go Go.RowKit

theorem rget_has {w : World} {g : Nat} {F : Nat → Prop} {repo : ByteArray} {A : Option Addr} {cap : Nat} {fs : List (ByteArray × ByteArray)} {l : List St.En} (h : RHas w g F repo A fs.length cap l) (hf : Files w A fs) (n : ByteArray) (c : Int) (h1 : St.One l) (hll : l.length ≤ 1000000) (hfl : fs.length ≤ 1000000) (hds : ∀ i, i < fs.length → (fs.getD i (⟨#[]⟩, ⟨#[]⟩)).2.size ≤ 1000000) (hn : n.size ≤ 1000000) :
    Calls Try.prog 17 #[.pointer (some ⟨g, 0, none⟩), .string n, .int .i64 c] w fun x w' => x = .returned (getV fs l n c) ∧ ∃ F', RHas w' g F' repo A fs.length cap (St.get fs l n c) ∧ Keeps F w w' ∧ ∀ b, F' b → F b ∨ w.heap.size ≤ b := by
  by_cases hc : c < 0 ∨ 65536 < c
  · have hbc : St.bad c = true := decide_eq_true hc
    have hg : St.get fs l n c = l := by unfold St.get; rw [hbc]; rfl
    rw [getV_bad hbc, hg]
    refine (rget_bad g n c w hc).mono ?_
    rintro e w' ⟨rfl, rfl⟩
    exact ⟨rfl, F, h, Keeps.refl _ _, fun b hb => .inl hb⟩
  · have hbc : St.bad c = false := decide_eq_false hc
    rw [getV_ok hbc]
    obtain ⟨lv, dv, hp⟩ := id h
    cases hlk : St.look l n with
    | some e =>
      have hg : St.get fs l n c = l := by unfold St.get; rw [hbc, hlk]; rfl
      have ha : St.ans fs l n c = e := by unfold St.ans; rw [hlk]
      rw [hg, ha]
      refine (rget_hit hp n c h1 hll (by omega) (by omega) hlk).mono ?_
      rintro e w' ⟨rfl, hb⟩
      exact ⟨rfl, F, h.below hb, Keeps.of_below hb, fun b hb => .inl hb⟩
    | none =>
      have hg : St.get fs l n c = l ++ [St.fetch fs n c] := by unfold St.get; rw [hbc, hlk]; rfl
      have ha : St.ans fs l n c = St.fetch fs n c := by unfold St.ans; rw [hlk]
      rw [hg, ha]
      exact rget_miss hp hf n c hll hfl hds hn (by omega) (by omega) hlk
set_option maxRecDepth 20000 in
set_option maxHeartbeats 1000000 in
theorem rtold_has {w : World} {g : Nat} {F : Nat → Prop} {repo : ByteArray} {A : Option Addr} {nf cap : Nat} {l : List St.En} (h : RHas w g F repo A nf cap l) (n : ByteArray) (h1 : St.One l) (hll : l.length ≤ 1000000) :
    Calls Try.prog 19 #[.pointer (some ⟨g, 0, none⟩), .string n] w fun x w' => x = .returned (toldV repo (St.look l n)) ∧ Below w.heap.size w w' := by
  obtain ⟨lv, dv, h⟩ := h
  obtain ⟨la, lc, rfl, hF⟩ := Fets.of_own h.list
  have HF := Lib.hid hF
  have H1 := Lib.hid h1
  have hgl := h.row.lt
  have HR := Lib.hid h.row
  clear h hF h1
  obtain ⟨x, hx⟩ : ∃ x, x = St.look l n := ⟨_, rfl⟩
  rw [← hx]
  have HX := Lib.hid hx
  clear hx
  have hB0 : Hid (Below w.heap.size w (w.alloc (.cells #[.string ⟨#[]⟩, .string ⟨#[]⟩, .int .i64 0, .int .i64 0] 41))) := (Below.refl _ w).alloc (Nat.le_refl _) _
  have g2 := (bk_keep HR.out (Keeps.of_below (F := fun _ => False) hB0.out) (fun h => h)).cell 2
  go_enter Try.func19, Try.ntmps19
  go_wp2_with fail
  go_loop [6] (fun v => ∃ k : Nat, k ≤ l.length ∧ v = .int .i64 k ∧ Hid (∀ j, j < k → (l.getD j en0).name ≠ n)) (fun v => l.length - (intOf v).toNat)
  case atStart => exact ⟨0, Nat.zero_le _, rfl, fun j hj => by omega⟩
  case round =>
    obtain ⟨k, hk, rfl, hno⟩ := hrel
    by_cases hlt : k < l.length
    · have hat : Hid ((l.getD k en0).name = n → St.look l n = some (l.getD k en0)) := fun h => look_hit H1.out hlt h
      obtain ⟨b, o, rfl, hbl, a0, a1, a2, a3⟩ := HF.out.later hB0.out k hlt
      have i0 : (0 : Int) ≤ (k : Int) := by omega
      have i1 : (k : Int) < (l.length : Int) := by omega
      by_cases he : (l.getD k en0).name = n
      · have n0 := eq_true he
        have hex := Lib.hid (HX.out.trans (hat.out he))
        have hbn : b ≠ w.heap.size := by
          obtain ⟨b', o', e, hb', _⟩ := HF.out k hlt
          cases e; omega
        clear hat HX he
        generalize l.getD k en0 = y at *
        go_wp2_with fail
        obtain rfl := hex.out
        refine bodyPost_ret (v := .tuple #[.agg #[.string repo, .string y.name, .int .i64 y.cap, .int .i64 y.size], .bool true]) (by simp [results, Try.results19, go_sem, *]) rfl ⟨rfl, ?_⟩
        first | exact (Below.refl _ w).alloc (Nat.le_refl _) _ | (repeat (first | exact hB0.out | refine below_put ?_ _ _))
      · have n0 := eq_false he
        have hno2 : Hid (∀ j, j < k + 1 → (l.getD j en0).name ≠ n) := fun j hj => by
          by_cases ej : j = k
          · rw [ej]; exact he
          · exact hno.out j (by omega)
        clear hat he
        generalize l.getD k en0 = x at *
        go_wp2_with fail
        go_round
        case rel => exact ⟨k + 1, by omega, by go_num, hno2⟩
        case measure => simp [intOf]; omega
    · have hkk : k = l.length := by omega
      subst hkk
      obtain rfl := HX.out.trans (look_miss hno.out)
      clear HX
      go_wp2_with fail
      refine bodyPost_ret (v := .tuple #[.agg #[.string ⟨#[]⟩, .string ⟨#[]⟩, .int .i64 0, .int .i64 0], .bool false]) (by simp [results, Try.results19, go_sem, *]) rfl ⟨rfl, ?_⟩
      first | exact (Below.refl _ w).alloc (Nat.le_refl _) _ | (repeat (first | exact hB0.out | refine below_put ?_ _ _))
end Go.Proofs.Ytcianlgkfkccoaa
