/-
  SHA-256 at some texts, reckoned by the kernel.
-/
import Derived.Test.YtibjbpinbbmkjaaDoorShaFast
namespace Go.Proofs.YtibjbpinbbmkjaaDoor.Sh
set_option linter.unusedSimpArgs false
set_option linter.unusedVariables false
theorem sha_long : sha [97, 98, 99, 100, 98, 99, 100, 101, 99, 100, 101, 102, 100, 101, 102, 103, 101, 102, 103, 104, 102, 103, 104, 105, 103, 104, 105, 106, 104, 105, 106, 107, 105, 106, 107, 108, 106, 107, 108, 109, 107, 108, 109, 110, 108, 109, 110, 111, 109, 110, 111, 112, 110, 111, 112, 113] = [36, 141, 106, 97, 210, 6, 56, 184, 229, 192, 38, 147, 12, 62, 96, 57, 163, 60, 228, 89, 100, 255, 33, 103, 246, 236, 237, 212, 25, 219, 6, 193] := sha_fast 2 (by decide +kernel) ⟨613247585, 3523623096, 3854575251, 205414457, 2738676825, 1694441831, 4142722516, 433784513⟩ (by decide +kernel)
/-- The first words of the sums of 50, 51, .. letters a. -/
def tabA : List Nat := [369839683, 3217423886, 1813724615, 2883798695, 2750421865, 2672005368, 3008641444, 4047187314, 3586144695, 287027809, 300824850, 903216151, 4110846348, 2101245088, 4292891902, 1666408900, 2886959054, 1628881055, 1464623589, 4015969390, 1809179907, 4009381115, 3596813494, 235245119, 4130878877, 2331541948, 4172852134, 3155802579, 3544674673, 3668405069, 256239704, 2353539085, 4119151449, 3780050739, 4115091490, 2217669936, 3453897766, 3485017285, 2538835334, 1581995103, 1798227857, 2610948080, 3146261561, 2531756890, 2231978552, 3787998339, 3998001749, 707551486, 2534224308, 321406056, 672553336, 2634519353, 4061673233, 3788860869, 1105578272, 1662339660, 1566347190, 1042567964, 216993192, 949955058, 2445833362, 1668609842, 4114830080, 3120722714, 1823953074, 1681985125, 2628429875, 3841253754, 2275263728, 837526812, 792539988, 3915469600, 3479975564, 1718991480, 2619266570, 2833359091, 918354217, 3313406584, 1748422419, 3240931364, 507268935, 1009349200, 2493255436, 3638207125, 909927019, 3752168957, 1863206073, 3067882918, 3536182073, 3567137660, 3230985519]
def nbA (n : Nat) : Nat := (n + 9 + zeros n) / 64
theorem tabA_all : (List.range 91).all (fun i => Nat.beq (blocksF s0 (padded (List.replicate (50 + i) 97)) (nbA (50 + i))).a (tabA.getD i 0)) = true := by decide +kernel
theorem tabA_at (n : Nat) (h1 : 50 ≤ n) (h2 : n ≤ 140) : ∃ t : St, t.a < M ∧ t.a = tabA.getD (n - 50) 0 ∧ sha (List.replicate n 97) = t.bytes := by
  have h := List.all_eq_true.1 tabA_all (n - 50) (List.mem_range.2 (by omega))
  rw [show 50 + (n - 50) = n by omega] at h
  have hn : (padded (List.replicate n 97)).length / 64 = nbA n := by
    have := (padded_len (List.replicate n 97)).1
    rw [List.length_replicate] at this
    rw [this]
    unfold nbA
    omega
  refine ⟨blocksF s0 (padded (List.replicate n 97)) (nbA n), ?_, Nat.eq_of_beq_eq_true h, ?_⟩
  · rw [← blocks_fast s0_ok]; exact (blocks_ok s0_ok _ _).1
  · unfold sha
    rw [hn, blocks_fast s0_ok]
theorem tabA_ne : (List.range 90).all (fun i => !(tabA.getD i 0 == tabA.getD (i + 1) 0)) = true := by decide +kernel
theorem be_inj {x y : Nat} (h : be x = be y) : x = y := by
  unfold be at h
  simp at h
  omega
theorem bytes_a {s t : St} (h : s.bytes = t.bytes) : s.a = t.a := by
  have e : ∀ u : St, u.bytes.take 4 = be u.a := fun u => rfl
  exact be_inj (by rw [← e s, ← e t, h])
theorem sha_more (n : Nat) (h1 : 50 ≤ n) (h2 : n < 140) : sha (List.replicate n 97) ≠ sha (List.replicate (n + 1) 97) := by
  obtain ⟨s, _, hs, es⟩ := tabA_at n h1 (by omega)
  obtain ⟨t, _, ht, et⟩ := tabA_at (n + 1) (by omega) (by omega)
  rw [es, et]
  intro e
  have h := List.all_eq_true.1 tabA_ne (n - 50) (List.mem_range.2 (by omega))
  have := bytes_a e
  rw [hs, ht, show n + 1 - 50 = n - 50 + 1 by omega] at this
  rw [this] at h
  simp at h
end Go.Proofs.YtibjbpinbbmkjaaDoor.Sh
