/-
  The closed statement StoreNames, walked: it returns true.
-/
import Derived.Test.YtcianlgkfkccoaaStCopy
import Derived.Test.YtcianlgkfkccoaaStAlike
import Derived.ArgAppend
import Derived.OwnWalk
namespace Go.Proofs.Ytcianlgkfkccoaa
set_option linter.unusedSimpArgs false
set_option linter.unusedVariables false
open Go Go.RowKit

def z1 : St.En := ⟨⟨#[97]⟩, 65536, 3, ⟨#[120, 121, 122]⟩⟩
def z2 : St.En := ⟨⟨#[]⟩, 0, -1, ⟨#[]⟩⟩
def z3 : St.En := ⟨⟨#[97]⟩, 1, -1, ⟨#[]⟩⟩
theorem az0 (c : Int) (h : St.bad c = true) : St.get exF [] ⟨#[97]⟩ c = [] := by unfold St.get; rw [h]; rfl
theorem az1 : St.get exF [] ⟨#[97]⟩ 65536 = [z1] ∧ getV exF [] ⟨#[97]⟩ 65536 = .tuple #[.string ⟨#[120, 121, 122]⟩, .int .i64 3, .int .i64 0] := ⟨by kernel_rfl, by kernel_rfl⟩
theorem az2 : St.get exF [z1] ⟨#[]⟩ 0 = [z1, z2] ∧ getV exF [z1] ⟨#[]⟩ 0 = .tuple #[.string ⟨#[]⟩, .int .i64 (-1), .int .i64 0] := ⟨by kernel_rfl, by kernel_rfl⟩
theorem az3 : St.get [] [] ⟨#[97]⟩ 1 = [z3] ∧ getV [] [] ⟨#[97]⟩ 1 = .tuple #[.string ⟨#[]⟩, .int .i64 (-1), .int .i64 0] := ⟨by kernel_rfl, by kernel_rfl⟩
theorem role_0 : Nm.role ⟨#[]⟩ = false := by decide +kernel
theorem role_dot : Nm.role ⟨#[46, 114]⟩ = false := by decide +kernel
theorem made_empty (n : Nat) : (madeCells #[.string ⟨#[]⟩, .string ⟨#[]⟩] (n * 2)).toList = fcells (List.replicate n (⟨#[]⟩, ⟨#[]⟩)) := by
  have h1 : ∀ m, (madeCells #[.string ⟨#[]⟩, .string ⟨#[]⟩] m).toList = List.replicate m (Value.string ⟨#[]⟩) := fun m => by
    refine List.eq_replicate_iff.2 ⟨by rw [Array.length_toList, size_madeCells], fun b hb => ?_⟩
    unfold madeCells at hb
    rw [Array.toList_map, List.mem_map] at hb
    obtain ⟨a, _, rfl⟩ := hb
    rcases Nat.mod_two_eq_zero_or_one a with h | h <;> simp [h]
  rw [h1]
  induction n with
  | zero => rfl
  | succ n ih =>
    rw [List.replicate_succ]
    have e : fcells ((⟨#[]⟩, ⟨#[]⟩) :: List.replicate n (⟨#[]⟩, ⟨#[]⟩)) = .string ⟨#[]⟩ :: .string ⟨#[]⟩ :: fcells (List.replicate n (⟨#[]⟩, ⟨#[]⟩)) := rfl
    rw [e, ← ih, show (n + 1) * 2 = n * 2 + 1 + 1 by omega, List.replicate_succ, List.replicate_succ]
theorem own_none {w : World} {B : Nat} {e : TypeId} {size : Nat} {v : Value} {xs : List Value} (h : w.ownsRow B e size v 0 xs) : ∃ A cap, v = .slice A 0 cap := by
  rcases own_news h with ⟨rfl, _⟩ | ⟨g, cap, rfl, _⟩ <;> exact ⟨_, _, rfl⟩
theorem own_more {w : World} {B n : Nat} {e : TypeId} {size : Nat} {v : Value} {xs : List Value} (h : w.ownsRow B e size v (n + 1) xs) : ∃ A cap, v = .slice A (n + 1) cap := by
  rcases own_news h with ⟨_, h, _⟩ | ⟨g, cap, rfl, _⟩
  · cases h
  · exact ⟨_, _, rfl⟩

set_option maxRecDepth 100000 in
set_option maxHeartbeats 4000000 in
theorem storeNames_walk (w : World) : Calls Try.prog 9 #[] w fun e w' => e = .returned (.bool true) ∧ Below w.heap.size w w' := by
  obtain ⟨i0, hi0, hz0, hz1, hz2⟩ := info_parts info_file
  go_enter Try.func9, Try.ntmps9
  go_wp2_with fail
  refine (awake_any _).mono ?_
  rintro e w1 ⟨rfl, hb⟩
  have HB := Lib.hid hb
  clear hb
  go_wp2_with fail
  refine (ex_any _).mono ?_
  rintro e w2 ⟨A, c, rfl, hF, hb⟩
  have HF := Lib.hid hF
  have HB := Lib.hid (HB.out.trans (hb.mono HB.out.size))
  clear hF hb
  go_wp2_with fail
  refine (new_ok ⟨#[114]⟩ A exF c _ (by decide) role_r HF.out (by decide) exF_small).mono ?_
  rintro e w3 ⟨g, rfl, hf, hb⟩
  have H := Lib.hid (One.made HB.out hf hb)
  clear hf hb HF HB
  go_wp2_with fail
  refine (one_get H.out ⟨#[97]⟩ (-1) (by decide) (by decide) (by decide)).mono ?_
  rintro e w4 ⟨rfl, h⟩
  rw [az0 _ (by decide)] at h
  have H := Lib.hid h
  rw [getV_bad (by decide)]
  clear h
  go_wp2_with fail
  refine (one_get H.out ⟨#[97]⟩ (65537) (by decide) (by decide) (by decide)).mono ?_
  rintro e w5 ⟨rfl, h⟩
  rw [az0 _ (by decide)] at h
  have H := Lib.hid h
  rw [getV_bad (by decide)]
  clear h
  go_wp2_with fail
  refine (one_fetched H.out (by decide)).mono ?_
  rintro e w6 ⟨v, rfl, hown, hb⟩
  have H := Lib.hid (H.out.later hb)
  obtain ⟨va, vc, rfl⟩ := own_none hown
  clear hown hb
  go_wp2_with fail
  refine (came_yes H.out _ _ _ _ az1.1 az1.2 (by decide) (by decide) (by decide)).mono ?_
  rintro e w7 ⟨rfl, h⟩
  have H := Lib.hid h
  clear h
  go_wp2_with fail
  refine (came_yes H.out _ _ _ _ az2.1 az2.2 (by decide) (by decide) (by decide)).mono ?_
  rintro e w8 ⟨rfl, h⟩
  have HB := Lib.hid h.1
  clear h H
  go_wp2_with (at_make; go_must (refine wpList_make_full _ rfl _ _ _ rfl w8.heap.size 35 i0 _ 2 Try.underlying22 hi0 hz0 hz1 .i64 .i64 256 256 256 rfl rfl rfl rfl (by rw [hz2]; decide) (by decide) (Nat.le_refl _) ?_))
  intro w9 hown hgrow
  have hown2 : w9.ownsRow w8.heap.size 35 2 (.slice (some ⟨w8.heap.size, 0, none⟩) 256 256) 256 (madeCells #[.string ⟨#[]⟩, .string ⟨#[]⟩] (256 * 2)).toList := hown
  rw [made_empty] at hown2
  obtain ⟨rep, hrep⟩ : ∃ rep : List (ByteArray × ByteArray), rep = List.replicate 256 (⟨#[]⟩, ⟨#[]⟩) := ⟨_, rfl⟩
  rw [← hrep] at hown2
  have hlen : rep.length = 256 := by rw [hrep, List.length_replicate]
  have hzero : Hid (∀ i, i < rep.length → (rep.getD i (⟨#[]⟩, ⟨#[]⟩)).2.size ≤ 65536) := fun i hi => by
    have : rep.getD i (⟨#[]⟩, ⟨#[]⟩) = (⟨#[]⟩, ⟨#[]⟩) := by
      rw [hrep, List.length_replicate] at hi
      rw [hrep, List.getD_eq_getElem?_getD, List.getElem?_replicate, if_pos hi]; rfl
    rw [this]; decide
  obtain ⟨g9, hg9⟩ : ∃ g9, g9 = w8.heap.size := ⟨_, rfl⟩
  rw [← hg9] at hown2 ⊢
  have HFI : Hid (Files w9 (some ⟨g9, 0, none⟩) rep) := by
    have h := hown2
    rw [← hlen] at h
    obtain ⟨A, cap, he, hF⟩ := Files.of_own h
    cases he
    exact hF
  have HB := Lib.hid (HB.out.grown hgrow HB.out.size (by intro k hk; cases hk))
  clear hown hown2 hgrow hrep hg9
  go_wp2_with fail
  have hnew := new_ok ⟨#[114]⟩ (some ⟨g9, 0, none⟩) rep 256 w9 (by decide) role_r HFI.out (by omega) hzero.out
  rw [hlen] at hnew
  refine hnew.mono ?_
  clear hnew
  rintro e w10 ⟨gn, rfl, -, hb⟩
  have HFI := Lib.hid (HFI.out.later hb)
  have HB := Lib.hid (HB.out.trans (hb.mono HB.out.size))
  clear hb
  go_wp2_with (at_builtin; go_must (refine wpList_append_grows _ rfl _ _ _ rfl 35 i0 _ 2 32 Try.underlying22 hi0 hz0 hz1 hz2 rfl (by omega) (some ⟨g9, 0, none⟩) 256 256 (fcells rep) rfl (by intro h; cases h) (by rw [fcells_len, hlen]) (by intro b hb; cases hb; exact (HFI.out.later ((Below.refl _ _).alloc (Nat.le_refl _) _)).news) ⟨w10.heap.size, 0, none⟩ 1 1 [.string ⟨#[]⟩, .string ⟨#[]⟩] rfl rfl (World.news_of_block (heap_alloc_new _ _)) (by simp [Value.oneCell']) (by decide) (by decide) (by decide) ?_))
  intro va1 w11 hown hgrow
  obtain ⟨va1a, va1c, rfl⟩ := own_more hown
  have hb : Below w10.heap.size w10 w11 := ((Below.refl _ _).alloc (Nat.le_refl _) _).grown hgrow (by simp) (by intro k hk; cases hk)
  have HFI := Lib.hid (HFI.out.later hb)
  have HB := Lib.hid (HB.out.trans (hb.mono HB.out.size))
  clear hown hgrow hb
  go_wp2_with fail
  refine (new_long ⟨#[114]⟩ va1a _ va1c _ (by decide) role_r (by decide)).mono ?_
  rintro e w12 ⟨rfl, rfl⟩
  go_wp2_with fail
  refine (new_form ⟨#[]⟩ none 0 0 _ (by decide) role_0).mono ?_
  rintro e w12 ⟨rfl, rfl⟩
  go_wp2_with (at_builtin; go_must (refine wpList_append_grows _ rfl _ _ _ rfl 35 i0 _ 2 32 Try.underlying22 hi0 hz0 hz1 hz2 rfl (by omega) (some ⟨g9, 0, none⟩) 256 256 (fcells rep) rfl (by intro h; cases h) (by rw [fcells_len, hlen]) (by intro b hb; cases hb; exact (HFI.out.later ((Below.refl _ _).alloc (Nat.le_refl _) _)).news) ⟨w11.heap.size, 0, none⟩ 1 1 [.string ⟨#[]⟩, .string ⟨#[]⟩] rfl rfl (World.news_of_block (heap_alloc_new _ _)) (by simp [Value.oneCell']) (by decide) (by decide) (by decide) ?_))
  intro va2 w13 hown hgrow
  obtain ⟨va2a, va2c, rfl⟩ := own_more hown
  have hb : Below w11.heap.size w11 w13 := ((Below.refl _ _).alloc (Nat.le_refl _) _).grown hgrow (by simp) (by intro k hk; cases hk)
  have HFI := Lib.hid (HFI.out.later hb)
  have HB := Lib.hid (HB.out.trans (hb.mono HB.out.size))
  clear hown hgrow hb
  go_wp2_with fail
  refine (new_form ⟨#[46, 114]⟩ va2a _ va2c _ (by decide) role_dot).mono ?_
  rintro e w14 ⟨rfl, rfl⟩
  go_wp2_with fail
  refine (new_ok ⟨#[114]⟩ none [] 0 _ (by decide) role_r (by intro i hi; cases hi) (by decide) (by intro i hi; cases hi)).mono ?_
  rintro e w15 ⟨gt, rfl, hf, hb⟩
  have H := Lib.hid (One.made HB.out hf hb)
  clear hf hb HB HFI
  go_wp2_with fail
  refine (came_yes H.out _ _ _ _ az3.1 az3.2 (by decide) (by decide) (by decide)).mono ?_
  rintro e w16 ⟨rfl, h⟩
  have HB := Lib.hid h.1
  clear h H
  go_wp2_with fail
  obtain ⟨w17, hw17⟩ : ∃ W : World, W = w16.alloc (.cells #[.string ⟨#[]⟩, .slice none 0 0, .map none, .slice none 0 0] 61 (0, 0)) := ⟨_, rfl⟩
  obtain ⟨gz, hgz⟩ : ∃ gz, gz = w16.heap.size := ⟨_, rfl⟩
  rw [← hw17, ← hgz]
  have HZ : Hid (Bk w17 gz 61 #[.string ⟨#[]⟩, .slice none 0 0, .map none, .slice none 0 0]) := by rw [hw17, hgz]; exact Bk.fresh w16 _ _
  have HB : Hid (Below w.heap.size w w17) := by rw [hw17]; exact HB.out.alloc HB.out.size _
  clear hw17 hgz
  refine (get_zero gz ⟨#[97]⟩ 1 _ (HZ.out.cell 2)).mono ?_
  rintro e w18 ⟨rfl, rfl⟩
  go_wp2_with fail
  refine (get_nil ⟨#[97]⟩ (-1) _).mono ?_
  rintro e w18 ⟨rfl, rfl⟩
  go_wp2_with fail
  refine (told_no gz ⟨#[97]⟩ _ (HZ.out.cell 2)).mono ?_
  rintro e w19 ⟨rfl, hb⟩
  have HZ := Lib.hid (HZ.out.below hb HZ.out.lt)
  have HB := Lib.hid (HB.out.trans (hb.mono HB.out.size))
  clear hb
  unfold fet0
  go_wp2_with fail
  obtain ⟨w20, hw20⟩ : ∃ W : World, W = w19.alloc (.cells #[.string ⟨#[]⟩, .string ⟨#[]⟩, .int .i64 0, .int .i64 0] 41 (0, 0)) := ⟨_, rfl⟩
  rw [← hw20]
  have hb : Below w19.heap.size w19 w20 := by rw [hw20]; exact (Below.refl _ _).alloc (Nat.le_refl _) _
  have HZ := Lib.hid (HZ.out.below hb HZ.out.lt)
  have HB := Lib.hid (HB.out.trans (hb.mono HB.out.size))
  clear hw20 hb
  refine (told_nil ⟨#[97]⟩ _).mono ?_
  rintro e w21 ⟨rfl, hb⟩
  have HZ := Lib.hid (HZ.out.below hb HZ.out.lt)
  have HB := Lib.hid (HB.out.trans (hb.mono HB.out.size))
  clear hb
  unfold fet0
  go_wp2_with fail
  obtain ⟨w22, hw22⟩ : ∃ W : World, W = w21.alloc (.cells #[.string ⟨#[]⟩, .string ⟨#[]⟩, .int .i64 0, .int .i64 0] 41 (0, 0)) := ⟨_, rfl⟩
  rw [← hw22]
  have hb : Below w21.heap.size w21 w22 := by rw [hw22]; exact (Below.refl _ _).alloc (Nat.le_refl _) _
  have HZ := Lib.hid (HZ.out.below hb HZ.out.lt)
  have HB := Lib.hid (HB.out.trans (hb.mono HB.out.size))
  clear hw22 hb
  refine (fetched_no gz _ (HZ.out.cell 2)).mono ?_
  rintro e w23 ⟨rfl, rfl⟩
  go_wp2_with fail
  refine (fetched_nil _).mono ?_
  rintro e w23 ⟨rfl, rfl⟩
  go_wp2_with fail
  refine (repo_no gz _ (HZ.out.cell 2)).mono ?_
  rintro e w23 ⟨rfl, rfl⟩
  go_wp2_with fail
  refine (repo_nil _).mono ?_
  rintro e w23 ⟨rfl, rfl⟩
  go_wp2_with fail
  refine (copy_nil _).mono ?_
  rintro e w23 ⟨rfl, rfl⟩
  go_wp2_with fail
  go_ret
  exact ⟨rfl, HB.out⟩
end Go.Proofs.Ytcianlgkfkccoaa
