/-
  The walks of few and asked.
-/
import Derived.Test.YtcianlgkfkccoaaStMem
namespace Go.Proofs.Ytcianlgkfkccoaa
set_option linter.unusedSimpArgs false
set_option linter.unusedVariables false
open Go Go.RowKit

namespace St
def okF (f : ByteArray × ByteArray) : Bool := decide (f.1.size ≤ 300) && decide (f.2.size ≤ 2000)
def okA (q : ByteArray × Int) : Bool := decide (q.1.size ≤ 300)
def fewB (fs : List (ByteArray × ByteArray)) : Bool := decide (fs.length ≤ 40) && fs.all okF
def askB (qs : List (ByteArray × Int)) : Bool := decide (qs.length ≤ 40) && qs.all okA
theorem all_yes {α : Type} {f : α → Bool} {l : List α} (d : α) (h : ∀ j, j < l.length → f (l.getD j d) = true) : l.all f = true := by
  rw [List.all_eq_true]
  intro x hx
  obtain ⟨j, hj, rfl⟩ := List.getElem_of_mem hx
  have := h j hj
  rwa [List.getD_eq_getElem?_getD, List.getElem?_eq_getElem hj] at this
theorem all_no {α : Type} {f : α → Bool} {l : List α} (d : α) {j : Nat} (hj : j < l.length) (h : f (l.getD j d) = false) : l.all f = false := by
  rw [List.all_eq_false]
  refine ⟨l[j], List.getElem_mem hj, ?_⟩
  rw [List.getD_eq_getElem?_getD, List.getElem?_eq_getElem hj] at h
  simpa using h
theorem all_at {α : Type} {f : α → Bool} {l : List α} (d : α) (h : l.all f = true) {j : Nat} (hj : j < l.length) : f (l.getD j d) = true := by
  rw [List.getD_eq_getElem?_getD, List.getElem?_eq_getElem hj]
  exact List.all_eq_true.1 h _ (List.getElem_mem hj)
end St

set_option maxRecDepth 20000 in
set_option maxHeartbeats 1000000 in
theorem few_any (A : Option Addr) (fs : List (ByteArray × ByteArray)) (cap : Nat) (w : World) (hF : Files w A fs) (hm : fs.length ≤ maxLen) :
    Calls Try.prog 11 #[.slice A fs.length cap] w fun e w' => e = .returned (.bool (St.fewB fs)) ∧ w = w' := by
  unfold maxLen at hm
  by_cases hl : fs.length ≤ 40
  · have h1 : decide (40 < (fs.length : Int)) = false := decide_eq_false (by omega)
    have hd : Hid (St.fewB fs = fs.all St.okF) := by show _ = _; unfold St.fewB; rw [decide_eq_true hl]; rfl
    have HF := Lib.hid hF
    clear hF
    go_enter Try.func11, Try.ntmps11
    go_wp2_with fail
    go_loop [3] (fun c => ∃ k : Nat, k ≤ fs.length ∧ c = .int .i64 k ∧ Hid (∀ j, j < k → St.okF (fs.getD j (⟨#[]⟩, ⟨#[]⟩)) = true)) (fun c => fs.length - (intOf c).toNat)
    case atStart => exact ⟨0, Nat.zero_le _, rfl, fun j hj => by omega⟩
    case round =>
      obtain ⟨k, hk, rfl, hg⟩ := hrel
      by_cases hlt : k < fs.length
      · obtain ⟨b, o, rfl, hb, c1, c2⟩ := HF.out k hlt
        cases h3 : decide ((fs.getD k (⟨#[]⟩, ⟨#[]⟩)).1.size ≤ 300) with
        | false =>
          have hno : Hid (St.fewB fs = false) := hd.out.trans (St.all_no (⟨#[]⟩, ⟨#[]⟩) hlt (by unfold St.okF; rw [h3]; rfl))
          have h3' := of_decide_eq_false h3
          have n1 : decide (300 < ((fs.getD k (⟨#[]⟩, ⟨#[]⟩)).1.size : Int)) = true := decide_eq_true (by omega)
          clear h3
          generalize fs.getD k (⟨#[]⟩, ⟨#[]⟩) = f at *
          obtain ⟨f1, f2⟩ := f
          go_wp2_with fail
          go_ret
          exact ⟨ret_b hno.out.symm, rfl⟩
        | true =>
          have h3' := of_decide_eq_true h3
          have n1 : decide (300 < ((fs.getD k (⟨#[]⟩, ⟨#[]⟩)).1.size : Int)) = false := decide_eq_false (by omega)
          cases h4 : decide ((fs.getD k (⟨#[]⟩, ⟨#[]⟩)).2.size ≤ 2000) with
          | false =>
            have hno : Hid (St.fewB fs = false) := hd.out.trans (St.all_no (⟨#[]⟩, ⟨#[]⟩) hlt (by unfold St.okF; rw [h3, h4]; rfl))
            have h4' := of_decide_eq_false h4
            have n2 : decide (2000 < ((fs.getD k (⟨#[]⟩, ⟨#[]⟩)).2.size : Int)) = true := decide_eq_true (by omega)
            clear h3 h4
            generalize fs.getD k (⟨#[]⟩, ⟨#[]⟩) = f at *
            obtain ⟨f1, f2⟩ := f
            go_wp2_with fail
            go_ret
            exact ⟨ret_b hno.out.symm, rfl⟩
          | true =>
            have hg2 : Hid (∀ j, j < k + 1 → St.okF (fs.getD j (⟨#[]⟩, ⟨#[]⟩)) = true) := fun j hj => by
              by_cases e : j = k
              · subst e; unfold St.okF; rw [h3, h4]; rfl
              · exact hg.out j (by omega)
            have h4' := of_decide_eq_true h4
            have n2 : decide (2000 < ((fs.getD k (⟨#[]⟩, ⟨#[]⟩)).2.size : Int)) = false := decide_eq_false (by omega)
            clear h3 h4
            generalize hf : fs.getD k (⟨#[]⟩, ⟨#[]⟩) = f at *
            clear hf
            obtain ⟨f1, f2⟩ := f
            go_wp2_with fail
            go_round
            case rel => exact ⟨k + 1, by omega, by go_num, hg2⟩
            case measure => simp [intOf]; omega
      · have : k = fs.length := by omega
        subst this
        have hy : Hid (St.fewB fs = true) := hd.out.trans (St.all_yes (⟨#[]⟩, ⟨#[]⟩) hg.out)
        go_wp2_with fail
        go_ret
        exact ⟨ret_b hy.out.symm, rfl⟩
  · have h1 : decide (40 < (fs.length : Int)) = true := decide_eq_true (by omega)
    have hd : St.fewB fs = false := by unfold St.fewB; rw [decide_eq_false hl]; rfl
    rw [hd]
    clear hd hF
    go_enter Try.func11, Try.ntmps11
    go_wp2_with fail
    go_ret
    exact ⟨rfl, rfl⟩

set_option maxRecDepth 20000 in
set_option maxHeartbeats 1000000 in
theorem asked_any (A : Option Addr) (fs : List (ByteArray × Int)) (cap : Nat) (w : World) (hF : Asks w A fs) (hm : fs.length ≤ maxLen) :
    Calls Try.prog 12 #[.slice A fs.length cap] w fun e w' => e = .returned (.bool (St.askB fs)) ∧ w = w' := by
  unfold maxLen at hm
  by_cases hl : fs.length ≤ 40
  · have h1 : decide (40 < (fs.length : Int)) = false := decide_eq_false (by omega)
    have hd : Hid (St.askB fs = fs.all St.okA) := by show _ = _; unfold St.askB; rw [decide_eq_true hl]; rfl
    have HF := Lib.hid hF
    clear hF
    go_enter Try.func12, Try.ntmps12
    go_wp2_with fail
    go_loop [3] (fun c => ∃ k : Nat, k ≤ fs.length ∧ c = .int .i64 k ∧ Hid (∀ j, j < k → St.okA (fs.getD j (⟨#[]⟩, 0)) = true)) (fun c => fs.length - (intOf c).toNat)
    case atStart => exact ⟨0, Nat.zero_le _, rfl, fun j hj => by omega⟩
    case round =>
      obtain ⟨k, hk, rfl, hg⟩ := hrel
      by_cases hlt : k < fs.length
      · obtain ⟨b, o, rfl, hb, c1, c2⟩ := HF.out k hlt
        clear c2
        cases h3 : decide ((fs.getD k (⟨#[]⟩, 0)).1.size ≤ 300) with
        | false =>
          have hno : Hid (St.askB fs = false) := hd.out.trans (St.all_no (⟨#[]⟩, 0) hlt h3)
          have h3' := of_decide_eq_false h3
          have n1 : decide (300 < ((fs.getD k (⟨#[]⟩, 0)).1.size : Int)) = true := decide_eq_true (by omega)
          clear h3
          generalize fs.getD k (⟨#[]⟩, 0) = f at *
          obtain ⟨f1, f2⟩ := f
          go_wp2_with fail
          go_ret
          exact ⟨ret_b hno.out.symm, rfl⟩
        | true =>
          have h3' := of_decide_eq_true h3
          have n1 : decide (300 < ((fs.getD k (⟨#[]⟩, 0)).1.size : Int)) = false := decide_eq_false (by omega)
          have hg2 : Hid (∀ j, j < k + 1 → St.okA (fs.getD j (⟨#[]⟩, 0)) = true) := fun j hj => by
            by_cases e : j = k
            · subst e; exact h3
            · exact hg.out j (by omega)
          clear h3
          generalize hf : fs.getD k (⟨#[]⟩, 0) = f at *
          clear hf
          obtain ⟨f1, f2⟩ := f
          go_wp2_with fail
          go_round
          case rel => exact ⟨k + 1, by omega, by go_num, hg2⟩
          case measure => simp [intOf]; omega
      · have : k = fs.length := by omega
        subst this
        have hy : Hid (St.askB fs = true) := hd.out.trans (St.all_yes (⟨#[]⟩, 0) hg.out)
        go_wp2_with fail
        go_ret
        exact ⟨ret_b hy.out.symm, rfl⟩
  · have h1 : decide (40 < (fs.length : Int)) = true := decide_eq_true (by omega)
    have hd : St.askB fs = false := by unfold St.askB; rw [decide_eq_false hl]; rfl
    rw [hd]
    clear hd hF
    go_enter Try.func12, Try.ntmps12
    go_wp2_with fail
    go_ret
    exact ⟨rfl, rfl⟩
end Go.Proofs.Ytcianlgkfkccoaa
