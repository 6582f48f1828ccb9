/-
  The reference's store: what it is to have one; the walks of its New.
-/
import Derived.Test.YtcianlgkfkccoaaStAwake2
import Derived.Test.YtcianlgkfkccoaaNameRole
namespace Go.Proofs.Ytcianlgkfkccoaa
set_option linter.unusedSimpArgs false
set_option linter.unusedVariables false
open Go Go.RowKit

def datas (l : List St.En) : List Value := l.map fun e => .string e.data
structure RParts (w : World) (g : Nat) (lv dv : Value) (F : Nat → Prop) (repo : ByteArray) (A : Option Addr) (n cap : Nat) (l : List St.En) : Prop where
  row : Bk w g 49 #[.string repo, .slice A n cap, lv, dv]
  list : w.ownsRow 0 41 4 lv l.length (fetC repo l)
  data : w.ownsRow 0 9 1 dv l.length (datas l)
  fg : F g
  fl : ∀ b, lv.ownBlock = some b → F b
  fd : ∀ b, dv.ownBlock = some b → F b
  bound : ∀ b, F b → b < w.heap.size
/-- The reference's store at block g, in blocks of F. -/
def RHas (w : World) (g : Nat) (F : Nat → Prop) (repo : ByteArray) (A : Option Addr) (n cap : Nat) (l : List St.En) : Prop := ∃ lv dv, RParts w g lv dv F repo A n cap l
theorem RHas.keep {w w' : World} {g : Nat} {F G : Nat → Prop} {repo : ByteArray} {A : Option Addr} {n cap : Nat} {l : List St.En} (h : RHas w g F repo A n cap l) (hk : Keeps G w w') (hne : ∀ b, F b → ¬ G b) : RHas w' g F repo A n cap l := by
  obtain ⟨lv, dv, h⟩ := h
  exact ⟨lv, dv, bk_keep h.row hk (hne _ h.fg), row_keep h.list hk (fun b hb => hne _ (h.fl b hb)), row_keep h.data hk (fun b hb => hne _ (h.fd b hb)), h.fg, h.fl, h.fd, fun b hb => Nat.lt_of_lt_of_le (h.bound b hb) hk.size⟩
theorem RHas.below {w w' : World} {g : Nat} {F : Nat → Prop} {repo : ByteArray} {A : Option Addr} {n cap : Nat} {l : List St.En} (h : RHas w g F repo A n cap l) (hb : Below w.heap.size w w') : RHas w' g F repo A n cap l :=
  h.keep (Keeps.of_below (F := fun _ => False) hb) (fun _ _ h => h)
def RMadeIs (w : World) (repo : ByteArray) (A : Option Addr) (n cap : Nat) (e : Ending) (w' : World) : Prop :=
  ∃ g, e = .returned (.tuple #[.pointer (some ⟨g, 0, none⟩), .int .i64 0]) ∧ (∃ F, RHas w' g F repo A n cap [] ∧ ∀ b, F b → w.heap.size ≤ b) ∧ Below w.heap.size w w'

set_option maxRecDepth 20000 in
set_option maxHeartbeats 1000000 in
theorem rnew_form (repo : ByteArray) (A : Option Addr) (n cap : Nat) (w : World) (hs : repo.size ≤ maxLen) (hr : Nm.role repo = false) :
    Calls Try.prog 15 #[.string repo, .slice A n cap] w fun e w' => e = .returned (.tuple #[.pointer none, .int .i64 3]) ∧ w = w' := by
  have HR := Lib.hid hr
  clear hr
  go_enter Try.func15, Try.ntmps15
  go_wp2_with fail
  refine (rrole_any repo _ hs).mono ?_
  rintro e w' ⟨rfl, rfl⟩
  rw [HR.out]
  go_wp2_with fail
  go_ret2
  exact ⟨rfl, rfl⟩
set_option maxRecDepth 20000 in
set_option maxHeartbeats 1000000 in
theorem rnew_ok (repo : ByteArray) (A : Option Addr) (fs : List (ByteArray × ByteArray)) (cap : Nat) (w : World) (hs : repo.size ≤ maxLen) (hr : Nm.role repo = true) (hF : Files w A fs) (hl : fs.length ≤ 256) (hd : ∀ i, i < fs.length → (fs.getD i (⟨#[]⟩, ⟨#[]⟩)).2.size ≤ 65536) :
    Calls Try.prog 15 #[.string repo, .slice A fs.length cap] w (RMadeIs w repo A fs.length cap) := by
  have HR := Lib.hid hr
  have HF := Lib.hid hF
  have HD := Lib.hid hd
  clear hr hF hd
  have n1 : decide (256 < (fs.length : Int)) = false := decide_eq_false (by omega)
  go_enter Try.func15, Try.ntmps15
  go_wp2_with fail
  refine (rrole_any repo _ hs).mono ?_
  rintro e w' ⟨rfl, rfl⟩
  rw [HR.out]
  go_wp2_with fail
  go_loop [6] (fun c => ∃ k : Nat, k ≤ fs.length ∧ c = .int .i64 k) (fun c => fs.length - (intOf c).toNat)
  case atStart => exact ⟨0, Nat.zero_le _, rfl⟩
  case round =>
    obtain ⟨k, hk, rfl⟩ := hrel
    by_cases hlt : k < fs.length
    · obtain ⟨b, o, rfl, hbl, c1, c2⟩ := HF.out k hlt
      have hsz := HD.out k hlt
      have n2 : decide (65536 < ((fs.getD k (⟨#[]⟩, ⟨#[]⟩)).2.size : Int)) = false := decide_eq_false (by omega)
      generalize hf : fs.getD k (⟨#[]⟩, ⟨#[]⟩) = f at *
      clear hf
      obtain ⟨f1, f2⟩ := f
      go_wp2_with fail
      go_round
      case rel => exact ⟨k + 1, by omega, by go_num⟩
      case measure => simp [intOf]; omega
    · have : k = fs.length := by omega
      subst this
      go_wp2_with fail
      go_ret2
      refine ⟨w.heap.size, rfl, ⟨fun b => b = w.heap.size, ⟨.slice none 0 0, .slice none 0 0, Bk.fresh w _ _, World.ownsRow_nil _ _ _ _, World.ownsRow_nil _ _ _ _, rfl, (fun b hb => by cases hb), (fun b hb => by cases hb), (fun b hb => by subst hb; simp)⟩, (fun b hb => by subst hb; exact Nat.le_refl _)⟩, (Below.refl _ _).alloc (Nat.le_refl _) _⟩
end Go.Proofs.Ytcianlgkfkccoaa
