/-
  The SHA-256 of a million letters a.
-/
import Derived.Test.YtibjbpinbbmkjaaDoorShaMillion1
import Derived.Test.YtibjbpinbbmkjaaDoorShaMillion2
import Derived.Test.YtibjbpinbbmkjaaDoorShaMillion3
namespace Go.Proofs.YtibjbpinbbmkjaaDoor.Sh
theorem mil_all : iterA 15625 s0 = ⟨2061136107, 1745259042, 791610055, 2140370626, 1884297759, 3529239238, 671294972, 693152569⟩ := by
  have e0 : s0 = ⟨1779033703, 3144134277, 1013904242, 2773480762, 1359893119, 2600822924, 528734635, 1541459225⟩ := rfl
  rw [e0, show 15625 = 781 + 781 + 781 + 781 + 781 + 781 + 781 + 781 + 781 + 781 + 781 + 781 + 781 + 781 + 781 + 781 + 781 + 781 + 781 + 781 + 5 from rfl]
  repeat rw [iterA_add]
  rw [St.of_beq mil0]
  rw [St.of_beq mil1]
  rw [St.of_beq mil2]
  rw [St.of_beq mil3]
  rw [St.of_beq mil4]
  rw [St.of_beq mil5]
  rw [St.of_beq mil6]
  rw [St.of_beq mil7]
  rw [St.of_beq mil8]
  rw [St.of_beq mil9]
  rw [St.of_beq mil10]
  rw [St.of_beq mil11]
  rw [St.of_beq mil12]
  rw [St.of_beq mil13]
  rw [St.of_beq mil14]
  rw [St.of_beq mil15]
  rw [St.of_beq mil16]
  rw [St.of_beq mil17]
  rw [St.of_beq mil18]
  rw [St.of_beq mil19]
  rw [St.of_beq mil20]
theorem sha_million : sha (List.replicate 1000000 97) = [205, 199, 110, 92, 153, 20, 251, 146, 129, 161, 199, 226, 132, 215, 62, 103, 241, 128, 154, 72, 164, 151, 32, 14, 4, 109, 57, 204, 199, 17, 44, 208] := by
  have hp : padded (List.replicate 1000000 97) = List.replicate 1000000 97 ++ ((128 :: List.replicate 55 0) ++ tail8 1000000) := by
    unfold padded
    rw [List.length_replicate, show zeros 1000000 = 55 from rfl, List.append_assoc]
  have hl : (padded (List.replicate 1000000 97)).length / 64 = 15625 + 1 := by
    rw [hp, List.length_append, List.length_replicate]
    rfl
  unfold sha
  rw [hl, hp, blocks]
  have hb : ((List.replicate 1000000 97 ++ ((128 :: List.replicate 55 0) ++ tail8 1000000)).drop (64 * 15625)).take 64 = (128 :: List.replicate 55 0) ++ tail8 1000000 := by
    rw [List.drop_left' (by rw [List.length_replicate]), List.take_of_length_le (by decide)]
  rw [hb, blocks_aa 1000000 _ 15625 (by omega), mil_all, comp_fast (by unfold St.ok; decide +kernel)]
  rw [St.of_beq (s := compF _ _) (t := ⟨3452399196, 2568289170, 2174863330, 2228698727, 4051737160, 2761367566, 74267084, 3339791568⟩) (by decide +kernel)]
  decide +kernel
end Go.Proofs.YtibjbpinbbmkjaaDoor.Sh
