/-
  The walks of New.
-/
import Derived.Test.YtcianlgkfkccoaaStHas
import Derived.Carry
namespace Go.Proofs.Ytcianlgkfkccoaa
set_option linter.unusedSimpArgs false
set_option linter.unusedVariables false
open Go Go.RowKit

theorem ents_nil : ents [] = #[] := rfl
set_option maxRecDepth 20000 in
set_option maxHeartbeats 1000000 in
theorem new_form (repo : ByteArray) (A : Option Addr) (n cap : Nat) (w : World) (hs : repo.size ≤ maxLen) (hr : Nm.role repo = false) :
    Calls Try.prog 14 #[.string repo, .slice A n cap] w fun e w' => e = .returned (.tuple #[.pointer none, .int .i64 3]) ∧ w = w' := by
  have HR := Lib.hid hr
  clear hr
  go_enter Try.func14, Try.ntmps14
  go_wp2_with fail
  refine (role_any repo _ hs).mono ?_
  rintro e w' ⟨rfl, rfl⟩
  rw [HR.out]
  go_wp2_with fail
  go_ret2
  exact ⟨rfl, rfl⟩
set_option maxRecDepth 20000 in
set_option maxHeartbeats 1000000 in
theorem new_long (repo : ByteArray) (A : Option Addr) (n cap : Nat) (w : World) (hs : repo.size ≤ maxLen) (hr : Nm.role repo = true) (hn : 256 < n) :
    Calls Try.prog 14 #[.string repo, .slice A n cap] w fun e w' => e = .returned (.tuple #[.pointer none, .int .i64 5]) ∧ w = w' := by
  have HR := Lib.hid hr
  clear hr
  have n1 : decide (256 < (n : Int)) = true := decide_eq_true (by omega)
  go_enter Try.func14, Try.ntmps14
  go_wp2_with fail
  refine (role_any repo _ hs).mono ?_
  rintro e w' ⟨rfl, rfl⟩
  rw [HR.out]
  go_wp2_with fail
  go_ret2
  exact ⟨rfl, rfl⟩
/-- A store is new: nothing was fetched, its blocks are new. -/
def Fresh (w : World) (g : Nat) (repo : ByteArray) (fs : List (ByteArray × ByteArray)) (w' : World) : Prop :=
  ∃ F, Has w' g F repo fs [] ∧ (∀ b, F b → w.heap.size ≤ b)
def MadeIs (w : World) (repo : ByteArray) (fs : List (ByteArray × ByteArray)) (e : Ending) (w' : World) : Prop :=
  ∃ g, e = .returned (.tuple #[.pointer (some ⟨g, 0, none⟩), .int .i64 0]) ∧ Fresh w g repo fs w' ∧ Below w.heap.size w w'
set_option maxRecDepth 20000 in
set_option maxHeartbeats 1000000 in
theorem new_ok (repo : ByteArray) (A : Option Addr) (fs : List (ByteArray × ByteArray)) (cap : Nat) (w : World) (hs : repo.size ≤ maxLen) (hr : Nm.role repo = true) (hF : Files w A fs) (hl : fs.length ≤ 256) (hd : ∀ i, i < fs.length → (fs.getD i (⟨#[]⟩, ⟨#[]⟩)).2.size ≤ 65536) :
    Calls Try.prog 14 #[.string repo, .slice A fs.length cap] w (MadeIs w repo fs) := by
  have HR := Lib.hid hr
  have HF := Lib.hid hF
  have HD := Lib.hid hd
  clear hr hF hd
  have n1 : decide (256 < (fs.length : Int)) = false := decide_eq_false (by omega)
  have hmm := @run_makeMap Try.prog
  go_enter Try.func14, Try.ntmps14
  go_wp2_with fail
  refine (role_any repo _ hs).mono ?_
  rintro e w' ⟨rfl, rfl⟩
  rw [HR.out]
  go_wp2_with fail
  go_loopw [16] (fun c wr => ∃ k : Nat, k ≤ fs.length ∧ c = .int .i64 k ∧ Hid (Below w.heap.size w wr)) (fun c _ => fs.length - (intOf c).toNat)
  case atStart => exact ⟨0, Nat.zero_le _, rfl, Below.refl _ _⟩
  case round =>
    obtain ⟨k, hk, rfl, hb⟩ := hrel
    by_cases hlt : k < fs.length
    · obtain ⟨b, o, rfl, hbl, c1, c2⟩ := HF.out.later hb.out k hlt
      have hsz := HD.out k hlt
      have n2 : decide (65536 < ((fs.getD k (⟨#[]⟩, ⟨#[]⟩)).2.size : Int)) = false := decide_eq_false (by omega)
      generalize hf : fs.getD k (⟨#[]⟩, ⟨#[]⟩) = f at *
      clear hf
      obtain ⟨f1, f2⟩ := f
      go_wp2_with fail
      go_roundw
      case rel => exact ⟨k + 1, by omega, by go_num, hb.out.alloc hb.out.size _⟩
      case measure => simp [intOf]; omega
    · have : k = fs.length := by omega
      subst this
      go_wp2_with fail
      refine (fclone_any A fs cap _ (HF.out.later hb.out) (by omega)).mono ?_
      rintro e w1 ⟨v, rfl, hown, hb1⟩
      obtain ⟨va, vl, vc, rfl⟩ := own_slice hown
      have hO := Lib.hid (own_mono hown (Nat.zero_le _))
      have hL := Lib.hid hown.lt
      have hB := Lib.hid (hb.out.trans (hb1.mono hb.out.size))
      have hbs := hb.out.size
      have hbs1 := hb1.size
      clear hown hb1
      go_wp2_with fail
      go_ret2
      refine ⟨w1.heap.size + 1, by simp, ⟨fun b => b = w1.heap.size ∨ b = w1.heap.size + 1 ∨ (Value.slice va vl vc).ownBlock = some b, ⟨w1.heap.size, .slice va vl vc, .slice none 0 0, ?_⟩, ?_⟩, (hB.out.alloc (by omega) _).alloc (by simp; omega) _⟩
      · refine ⟨new_one w1 _ _, (hO.out.alloc _).alloc _, (Below.heap_alloc _ _ _ (by simp)).trans (heap_alloc_new w1 (.map #[] 0)), World.ownsRow_nil _ _ _ _, .inr (.inl rfl), .inl rfl, fun b hb => .inr (.inr hb), (fun b hb => by cases hb), ?_, St.one_nil, (fun e he => by cases he)⟩
        intro b hb
        rw [World.size_alloc, World.size_alloc]
        rcases hb with rfl | rfl | hb
        · omega
        · omega
        · have := (hL.out b hb).2; omega
      · intro b hb
        rcases hb with rfl | rfl | hb
        · omega
        · omega
        · have := (hL.out b hb).1; omega
end Go.Proofs.Ytcianlgkfkccoaa
