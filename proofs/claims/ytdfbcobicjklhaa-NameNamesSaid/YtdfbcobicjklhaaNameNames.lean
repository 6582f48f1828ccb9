/-
  The closed statement NameNames, walked: it returns true.
-/
import Derived.Test.YtdfbcobicjklhaaNameAwake
namespace Go.Proofs.Ytdfbcobicjklhaa
set_option linter.unusedSimpArgs false
set_option linter.unusedVariables false
open Go Go.RowKit

/-- So many q. -/
def qs (n : Nat) : ByteArray := ⟨(List.replicate n 113).toArray⟩
/-- An a, and a byte. -/
def two (i : Nat) : ByteArray := ⟨#[97, UInt8.ofNat i]⟩
def cnt : Nat → Nat
  | 0 => 0
  | k + 1 => if Nm.part k then cnt k + 1 else cnt k
theorem cnt_all : cnt 256 = 65 := by decide +kernel
theorem cnt_le : ∀ k, cnt k ≤ k
  | 0 => Nat.le_refl _
  | k + 1 => by have := cnt_le k; rw [cnt]; split <;> omega
theorem two_facts (i : Nat) (h : i < 256) : Nm.role (two i) = Nm.part i ∧ Nm.path (two i) = decide (i < 128) ∧ Nm.role ((two i).extract 1 (two i).size) = (Nm.part i && !(i == 46)) := by
  have : ∀ j : Fin 256, Nm.role (two j) = Nm.part j ∧ Nm.path (two j) = decide (j.val < 128) ∧ Nm.role ((two j).extract 1 (two j).size) = (Nm.part j && !(j.val == 46)) := by decide +kernel
  exact this ⟨i, h⟩
theorem two_size (i : Nat) : (two i).size = 2 := rfl
theorem say_two (k : Nat) (h : k < 256) (w : World) (g : Nat) (h0 : w.cell? ⟨g, 0, none⟩ = some (.int .u8 97)) (h1 : w.cell? ⟨g, 1, none⟩ = some (.int .u8 (k : Int))) :
    (convert 27 9 (.slice (some ⟨g, 0, none⟩) 2 2)).run Try.prog w = .ok (.string (two k)) w := by
  have := run_convert_bytes_arg (P := Try.prog) w 27 5 Try.underlying27 Try.underlying5 g 0 2 2 [97, (k : Int)] rfl (fun i hi => by
    have hi' : i = 0 ∨ i = 1 := by have : i < 2 := hi; omega
    rcases hi' with rfl | rfl
    · simpa using h0
    · simpa using h1) 9 Try.underlying9
  simpa [strOfNums, two] using this
theorem many64 (w : World) : Calls Try.prog 23 #[.int .u8 113, .int .i64 64] w fun e w' => e = .returned (.string (qs 64)) ∧ Below w.heap.size w w' := many_any 113 64 w (by decide)
theorem many65 (w : World) : Calls Try.prog 23 #[.int .u8 113, .int .i64 65] w fun e w' => e = .returned (.string (qs 65)) ∧ Below w.heap.size w w' := many_any 113 65 w (by decide)
theorem many256 (w : World) : Calls Try.prog 23 #[.int .u8 113, .int .i64 256] w fun e w' => e = .returned (.string (qs 256)) ∧ Below w.heap.size w w' := many_any 113 256 w (by decide)
theorem many257 (w : World) : Calls Try.prog 23 #[.int .u8 113, .int .i64 257] w fun e w' => e = .returned (.string (qs 257)) ∧ Below w.heap.size w w' := many_any 113 257 w (by decide)
def lng : ByteArray := qs 64 ++ Nm.sufB
def qlng : ByteArray := ⟨#[113]⟩ ++ lng
theorem lng_facts : Nm.fileS (qs 64) = lng ∧ Nm.fileE (qs 64) = 0 ∧ Nm.fileS (qs 65) = ByteArray.empty ∧ Nm.fileE (qs 65) = 3 ∧ Nm.roleS lng = qs 64 ∧ Nm.roleE lng = 0 ∧ Nm.roleS qlng = ByteArray.empty ∧ Nm.roleE qlng = 3 ∧ lng.size = 69 ∧ qlng.size = 70 := by decide +kernel

def r2 (j : Nat) : ByteArray := ([⟨#[97]⟩, ⟨#[90]⟩, ⟨#[48]⟩, ⟨#[95]⟩, ⟨#[45]⟩, ⟨#[97, 46]⟩, ⟨#[97, 46, 46, 98]⟩, ⟨#[45, 97]⟩, ⟨#[116, 97, 114, 103, 101, 116, 115]⟩, ⟨#[120, 45, 49, 102]⟩, qs 64] : List ByteArray).getD j ⟨#[]⟩
def r2C : Array Value := #[.string ⟨#[97]⟩, .string ⟨#[90]⟩, .string ⟨#[48]⟩, .string ⟨#[95]⟩, .string ⟨#[45]⟩, .string ⟨#[97, 46]⟩, .string ⟨#[97, 46, 46, 98]⟩, .string ⟨#[45, 97]⟩, .string ⟨#[116, 97, 114, 103, 101, 116, 115]⟩, .string ⟨#[120, 45, 49, 102]⟩, .string (qs 64)]
theorem r2_at (j : Nat) (h : j < 11) : r2C[j]? = some (.string (r2 j)) := by
  match j, h with
  | 0, _ => rfl
  | 1, _ => rfl
  | 2, _ => rfl
  | 3, _ => rfl
  | 4, _ => rfl
  | 5, _ => rfl
  | 6, _ => rfl
  | 7, _ => rfl
  | 8, _ => rfl
  | 9, _ => rfl
  | 10, _ => rfl
theorem r2_facts (j : Nat) (h : j < 11) : Nm.role (r2 j) = true ∧ Nm.path (r2 j) = true ∧ (r2 j).size ≤ 300 := by
  have : ∀ i : Fin 11, Nm.role (r2 i) = true ∧ Nm.path (r2 i) = true ∧ (r2 i).size ≤ 300 := by decide +kernel
  exact this ⟨j, h⟩
def r3 (j : Nat) : ByteArray := ([⟨#[]⟩, ⟨#[46]⟩, ⟨#[46, 97]⟩, ⟨#[97, 32, 98]⟩, ⟨#[97, 47, 98]⟩, ⟨#[97, 0]⟩, ⟨#[195, 169]⟩, ⟨#[97, 58, 98]⟩, ⟨#[97, 64, 98]⟩, ⟨#[97, 91, 98]⟩, ⟨#[97, 96, 98]⟩, ⟨#[97, 123, 98]⟩, qs 65] : List ByteArray).getD j ⟨#[]⟩
def r3C : Array Value := #[.string ⟨#[]⟩, .string ⟨#[46]⟩, .string ⟨#[46, 97]⟩, .string ⟨#[97, 32, 98]⟩, .string ⟨#[97, 47, 98]⟩, .string ⟨#[97, 0]⟩, .string ⟨#[195, 169]⟩, .string ⟨#[97, 58, 98]⟩, .string ⟨#[97, 64, 98]⟩, .string ⟨#[97, 91, 98]⟩, .string ⟨#[97, 96, 98]⟩, .string ⟨#[97, 123, 98]⟩, .string (qs 65)]
theorem r3_at (j : Nat) (h : j < 13) : r3C[j]? = some (.string (r3 j)) := by
  match j, h with
  | 0, _ => rfl
  | 1, _ => rfl
  | 2, _ => rfl
  | 3, _ => rfl
  | 4, _ => rfl
  | 5, _ => rfl
  | 6, _ => rfl
  | 7, _ => rfl
  | 8, _ => rfl
  | 9, _ => rfl
  | 10, _ => rfl
  | 11, _ => rfl
  | 12, _ => rfl
theorem r3_facts (j : Nat) (h : j < 13) : Nm.role (r3 j) = false ∧ (r3 j).size ≤ 300 := by
  have : ∀ i : Fin 13, Nm.role (r3 i) = false ∧ (r3 i).size ≤ 300 := by decide +kernel
  exact this ⟨j, h⟩
def r4 (j : Nat) : ByteArray := ([⟨#[97, 47]⟩, ⟨#[97, 47, 47, 98]⟩, ⟨#[32]⟩, ⟨#[0]⟩, ⟨#[195, 169, 47, 120]⟩, ⟨#[42]⟩, ⟨#[63, 46, 63]⟩, ⟨#[46]⟩, qs 256] : List ByteArray).getD j ⟨#[]⟩
def r4C : Array Value := #[.string ⟨#[97, 47]⟩, .string ⟨#[97, 47, 47, 98]⟩, .string ⟨#[32]⟩, .string ⟨#[0]⟩, .string ⟨#[195, 169, 47, 120]⟩, .string ⟨#[42]⟩, .string ⟨#[63, 46, 63]⟩, .string ⟨#[46]⟩, .string (qs 256)]
theorem r4_at (j : Nat) (h : j < 9) : r4C[j]? = some (.string (r4 j)) := by
  match j, h with
  | 0, _ => rfl
  | 1, _ => rfl
  | 2, _ => rfl
  | 3, _ => rfl
  | 4, _ => rfl
  | 5, _ => rfl
  | 6, _ => rfl
  | 7, _ => rfl
  | 8, _ => rfl
theorem r4_facts (j : Nat) (h : j < 9) : Nm.path (r4 j) = true ∧ (r4 j).size ≤ 300 := by
  have : ∀ i : Fin 9, Nm.path (r4 i) = true ∧ (r4 i).size ≤ 300 := by decide +kernel
  exact this ⟨j, h⟩
def r5 (j : Nat) : ByteArray := ([⟨#[]⟩, ⟨#[47]⟩, ⟨#[47, 97]⟩, ⟨#[195]⟩, ⟨#[97, 255]⟩, ⟨#[237, 160, 128]⟩, qs 257] : List ByteArray).getD j ⟨#[]⟩
def r5C : Array Value := #[.string ⟨#[]⟩, .string ⟨#[47]⟩, .string ⟨#[47, 97]⟩, .string ⟨#[195]⟩, .string ⟨#[97, 255]⟩, .string ⟨#[237, 160, 128]⟩, .string (qs 257)]
theorem r5_at (j : Nat) (h : j < 7) : r5C[j]? = some (.string (r5 j)) := by
  match j, h with
  | 0, _ => rfl
  | 1, _ => rfl
  | 2, _ => rfl
  | 3, _ => rfl
  | 4, _ => rfl
  | 5, _ => rfl
  | 6, _ => rfl
theorem r5_facts (j : Nat) (h : j < 7) : Nm.path (r5 j) = false ∧ (r5 j).size ≤ 300 := by
  have : ∀ i : Fin 7, Nm.path (r5 i) = false ∧ (r5 i).size ≤ 300 := by decide +kernel
  exact this ⟨j, h⟩
def r6 (j : Nat) : ByteArray := ([⟨#[82, 111, 111, 116]⟩, ⟨#[114, 111, 111, 116, 115]⟩, ⟨#[]⟩, ⟨#[116, 97, 114, 103, 101, 116]⟩, ⟨#[116, 105, 109, 101, 115, 116, 97, 109, 112]⟩] : List ByteArray).getD j ⟨#[]⟩
def r6C : Array Value := #[.string ⟨#[82, 111, 111, 116]⟩, .string ⟨#[114, 111, 111, 116, 115]⟩, .string ⟨#[]⟩, .string ⟨#[116, 97, 114, 103, 101, 116]⟩, .string ⟨#[116, 105, 109, 101, 115, 116, 97, 109, 112]⟩]
theorem r6_at (j : Nat) (h : j < 5) : r6C[j]? = some (.string (r6 j)) := by
  match j, h with
  | 0, _ => rfl
  | 1, _ => rfl
  | 2, _ => rfl
  | 3, _ => rfl
  | 4, _ => rfl
theorem r6_facts (j : Nat) (h : j < 5) : Nm.top (r6 j) = false ∧ (r6 j).size ≤ 300 := by
  have : ∀ i : Fin 5, Nm.top (r6 i) = false ∧ (r6 i).size ≤ 300 := by decide +kernel
  exact this ⟨j, h⟩
theorem ntop1 (w : World) : Calls Try.prog 17 #[.string ⟨#[114, 111, 111, 116]⟩] w fun e w' => e = .returned (.bool true) ∧ w = w' := by
  have := top_any ⟨#[114, 111, 111, 116]⟩ w
  rwa [show Nm.top ⟨#[114, 111, 111, 116]⟩ = true by decide +kernel] at this
theorem ntop2 (w : World) : Calls Try.prog 17 #[.string ⟨#[115, 110, 97, 112, 115, 104, 111, 116]⟩] w fun e w' => e = .returned (.bool true) ∧ w = w' := by
  have := top_any ⟨#[115, 110, 97, 112, 115, 104, 111, 116]⟩ w
  rwa [show Nm.top ⟨#[115, 110, 97, 112, 115, 104, 111, 116]⟩ = true by decide +kernel] at this
theorem ntop3 (w : World) : Calls Try.prog 17 #[.string ⟨#[116, 97, 114, 103, 101, 116, 115]⟩] w fun e w' => e = .returned (.bool true) ∧ w = w' := by
  have := top_any ⟨#[116, 97, 114, 103, 101, 116, 115]⟩ w
  rwa [show Nm.top ⟨#[116, 97, 114, 103, 101, 116, 115]⟩ = true by decide +kernel] at this

set_option maxRecDepth 100000 in
set_option maxHeartbeats 8000000 in
theorem nameNames_walk (w : World) :
    Calls Try.prog 5 #[] w fun e w' => e = .returned (.bool true) ∧ Below w.heap.size w w' := by
  have hB : Hid (Below w.heap.size w w) := Below.refl _ _
  go_enter Try.func5, Try.ntmps5
  go_wp2_with fail
  refine (nawake_any _).mono ?_
  rintro e w1 ⟨rfl, hb1⟩
  replace hB := Lib.hid (keep_trans hB.out hb1)
  clear hb1
  go_wp2_with fail
  go_loopw [1, 2] (fun l i wr => ∃ k : Nat, k ≤ 256 ∧ i = .int .i64 k ∧ l = .int .i64 (cnt k : Nat) ∧ Below w.heap.size w wr) (fun _ i _ => 256 - (intOf i).toNat)
  case atStart => exact ⟨0, Nat.zero_le _, rfl, rfl, hB.out⟩
  case round =>
    clear hB
    obtain ⟨k, hk, rfl, rfl, hb⟩ := hrel
    have hB := Lib.hid hb
    clear hb
    by_cases hlt : k < 256
    · have F := two_facts k hlt
      have hcl := cnt_le k
      have hsz : (two k).size ≤ maxLen := by rw [two_size]; decide
      have hsx : ((two k).extract 1 (two k).size).size ≤ maxLen := by rw [ByteArray.size_extract, two_size]; decide
      have hcv : (convert 27 9 (.slice (some ⟨wr.heap.size, 0, none⟩) 2 2)).run Try.prog (wr.alloc (.cells #[.int .u8 97, .int .u8 (k : Int)] 5)) = .ok (.string (two k)) (wr.alloc (.cells #[.int .u8 97, .int .u8 (k : Int)] 5)) :=
        say_two k hlt _ wr.heap.size (World.cell?_alloc_mark wr _ _ (0, 0) 0) (World.cell?_alloc_mark wr _ _ (0, 0) 1)
      replace hB := Lib.hid (keep_trans hB.out ((Below.refl wr.heap.size wr).alloc (Nat.le_refl _) (.cells #[.int .u8 97, .int .u8 (k : Int)] 5)))
      have hz2 := two_size k
      have hc : (k = 46 ∧ Nm.part k = true) ∨ (k ≠ 46 ∧ k < 128 ∧ Nm.part k = true) ∨ (k ≠ 46 ∧ k < 128 ∧ Nm.part k = false) ∨ (k ≠ 46 ∧ 128 ≤ k ∧ Nm.part k = false) := by
        cases h : Nm.part k with
        | false =>
          by_cases h46 : k = 46
          · subst h46; cases h
          · by_cases h128 : k < 128
            · exact .inr (.inr (.inl ⟨h46, h128, rfl⟩))
            · exact .inr (.inr (.inr ⟨h46, by omega, rfl⟩))
        | true =>
          have := (Nm.part_lt h).1
          by_cases h46 : k = 46
          · exact .inl ⟨h46, rfl⟩
          · exact .inr (.inl ⟨h46, this, rfl⟩)
      rcases hc with ⟨h46, hp⟩ | ⟨h46, h128, hp⟩ | ⟨h46, h128, hp⟩ | ⟨h46, h128, hp⟩
      · have p1 := F.1
        have p2 := F.2.1
        have p3 := F.2.2
        have pc : cnt (k + 1) = cnt k + 1 := by rw [cnt, hp]; rfl
        rw [hp] at p1 p3
        rw [decide_eq_true (by omega)] at p2
        rw [show (k == 46) = true by exact beq_iff_eq.2 h46] at p3
        have n1 : decide ((k : Int) < 128) = true := decide_eq_true (by omega)
        have n2 : ((k : Int) != 46) = false := by rw [bne_eq_false_iff_eq]; omega
        have P1 := Lib.hid p1
        have P2 := Lib.hid p2
        have P3 := Lib.hid p3
        have PC := Lib.hid pc
        clear p1 p2 p3 pc hp F h46
        go_wp2_with fail
        refine (role_any _ _ hsz).mono ?_
        rintro e _ ⟨rfl, rfl⟩
        rw [P1.out]
        go_wp2_with fail
        refine (path_any _ _ hsz).mono ?_
        rintro e w1 ⟨rfl, hb1⟩
        rw [P2.out]
        replace hB := Lib.hid (keep_trans hB.out hb1)
        clear hb1
        go_wp2_with fail
        refine (role_any _ _ hsx).mono ?_
        rintro e _ ⟨rfl, rfl⟩
        rw [P3.out]
        go_wp2_with fail
        refine (role_any _ _ hsz).mono ?_
        rintro e _ ⟨rfl, rfl⟩
        rw [P1.out]
        go_wp2_with fail
        go_roundw
        case rel => exact ⟨k + 1, by omega, by go_num, by rw [PC.out]; go_num, hB.out⟩
        case measure => simp [intOf]; omega
      · have p1 := F.1
        have p2 := F.2.1
        have p3 := F.2.2
        have pc : cnt (k + 1) = cnt k + 1 := by rw [cnt, hp]; rfl
        rw [hp] at p1 p3
        rw [decide_eq_true (by omega)] at p2
        rw [show (k == 46) = false by exact beq_eq_false_iff_ne.2 h46] at p3
        have n1 : decide ((k : Int) < 128) = true := decide_eq_true (by omega)
        have n2 : ((k : Int) != 46) = true := by rw [bne_iff_ne]; omega
        have P1 := Lib.hid p1
        have P2 := Lib.hid p2
        have P3 := Lib.hid p3
        have PC := Lib.hid pc
        clear p1 p2 p3 pc hp F h46
        go_wp2_with fail
        refine (role_any _ _ hsz).mono ?_
        rintro e _ ⟨rfl, rfl⟩
        rw [P1.out]
        go_wp2_with fail
        refine (path_any _ _ hsz).mono ?_
        rintro e w1 ⟨rfl, hb1⟩
        rw [P2.out]
        replace hB := Lib.hid (keep_trans hB.out hb1)
        clear hb1
        go_wp2_with fail
        refine (role_any _ _ hsx).mono ?_
        rintro e _ ⟨rfl, rfl⟩
        rw [P3.out]
        go_wp2_with fail
        refine (role_any _ _ hsz).mono ?_
        rintro e _ ⟨rfl, rfl⟩
        rw [P1.out]
        go_wp2_with fail
        go_roundw
        case rel => exact ⟨k + 1, by omega, by go_num, by rw [PC.out]; go_num, hB.out⟩
        case measure => simp [intOf]; omega
      · have p1 := F.1
        have p2 := F.2.1
        have p3 := F.2.2
        have pc : cnt (k + 1) = cnt k := by rw [cnt, hp]; rfl
        rw [hp] at p1 p3
        rw [decide_eq_true (by omega)] at p2
        rw [show (k == 46) = false by exact beq_eq_false_iff_ne.2 h46] at p3
        have n1 : decide ((k : Int) < 128) = true := decide_eq_true (by omega)
        have n2 : ((k : Int) != 46) = true := by rw [bne_iff_ne]; omega
        have P1 := Lib.hid p1
        have P2 := Lib.hid p2
        have P3 := Lib.hid p3
        have PC := Lib.hid pc
        clear p1 p2 p3 pc hp F h46
        go_wp2_with fail
        refine (role_any _ _ hsz).mono ?_
        rintro e _ ⟨rfl, rfl⟩
        rw [P1.out]
        go_wp2_with fail
        refine (path_any _ _ hsz).mono ?_
        rintro e w1 ⟨rfl, hb1⟩
        rw [P2.out]
        replace hB := Lib.hid (keep_trans hB.out hb1)
        clear hb1
        go_wp2_with fail
        refine (role_any _ _ hsx).mono ?_
        rintro e _ ⟨rfl, rfl⟩
        rw [P3.out]
        go_wp2_with fail
        refine (role_any _ _ hsz).mono ?_
        rintro e _ ⟨rfl, rfl⟩
        rw [P1.out]
        go_wp2_with fail
        go_roundw
        case rel => exact ⟨k + 1, by omega, by go_num, by rw [PC.out], hB.out⟩
        case measure => simp [intOf]; omega
      · have p1 := F.1
        have p2 := F.2.1
        have p3 := F.2.2
        have pc : cnt (k + 1) = cnt k := by rw [cnt, hp]; rfl
        rw [hp] at p1 p3
        rw [decide_eq_false (by omega)] at p2
        rw [show (k == 46) = false by exact beq_eq_false_iff_ne.2 h46] at p3
        have n1 : decide ((k : Int) < 128) = false := decide_eq_false (by omega)
        have n2 : ((k : Int) != 46) = true := by rw [bne_iff_ne]; omega
        have P1 := Lib.hid p1
        have P2 := Lib.hid p2
        have P3 := Lib.hid p3
        have PC := Lib.hid pc
        clear p1 p2 p3 pc hp F h46
        go_wp2_with fail
        refine (role_any _ _ hsz).mono ?_
        rintro e _ ⟨rfl, rfl⟩
        rw [P1.out]
        go_wp2_with fail
        refine (path_any _ _ hsz).mono ?_
        rintro e w1 ⟨rfl, hb1⟩
        rw [P2.out]
        replace hB := Lib.hid (keep_trans hB.out hb1)
        clear hb1
        go_wp2_with fail
        refine (role_any _ _ hsx).mono ?_
        rintro e _ ⟨rfl, rfl⟩
        rw [P3.out]
        go_wp2_with fail
        refine (role_any _ _ hsz).mono ?_
        rintro e _ ⟨rfl, rfl⟩
        rw [P1.out]
        go_wp2_with fail
        go_roundw
        case rel => exact ⟨k + 1, by omega, by go_num, by rw [PC.out], hB.out⟩
        case measure => simp [intOf]; omega
    · obtain rfl : k = 256 := by omega
      have hcn := cnt_all
      rw [cnt_all]
      clear hlt hk hcn
      go_wp2_with fail
      refine (many64 _).mono ?_
      rintro e w1 ⟨rfl, hb1⟩
      replace hB := Lib.hid (keep_trans hB.out hb1)
      clear hb1
      obtain ⟨wo, hwo⟩ : ∃ wo : World, wo = w1 := ⟨_, rfl⟩
      subst hwo
      have hs0 := hB.out.size
      go_wp2_with fail
      go_loopw [60] (fun i wx => ∃ j : Nat, j ≤ 11 ∧ i = .int .i64 j ∧ Blk wx wo.heap.size 9 r2C ∧ wo.heap.size < wx.heap.size ∧ Below w.heap.size w wx) (fun i _ => 11 - (intOf i).toNat)
      case atStart => exact ⟨0, Nat.zero_le _, rfl, heap_alloc_new wo _, by simp, hB.out.alloc hs0 _⟩
      case round =>
        clear hB hs0
        obtain ⟨j, hj, rfl, hblk, hlt2, hbx⟩ := hrel
        have hB := Lib.hid hbx
        clear hbx
        by_cases hj9 : j < 11
        · have y1 := (hblk.cell j).trans (r2_at j hj9)
          have X := Lib.hid (r2_facts j hj9)
          have hsz : (r2 j).size ≤ maxLen := Nat.le_trans X.out.2.2 (by decide)
          have hK := Lib.hid hblk
          have hL := Lib.hid hlt2
          clear hblk hlt2
          go_wp2_with fail
          refine (role_any _ _ hsz).mono ?_
          rintro e _ ⟨rfl, rfl⟩
          rw [X.out.1]
          go_wp2_with fail
          refine (path_any _ _ hsz).mono ?_
          rintro e w1 ⟨rfl, hb1⟩
          rw [X.out.2.1]
          replace hK := Lib.hid (Blk.below hK.out hb1 hL.out)
          replace hL := Lib.hid (Nat.lt_of_lt_of_le hL.out hb1.size)
          replace hB := Lib.hid (keep_trans hB.out hb1)
          clear hb1 y1
          go_wp2_with fail
          go_roundw
          case rel => exact ⟨j + 1, by omega, by go_num, hK.out, hL.out, hB.out⟩
          case measure => simp [intOf]; omega
        · obtain rfl : j = 11 := by omega
          clear hblk hlt2 hj hj9
          go_wp2_with fail
          refine (many65 _).mono ?_
          rintro e w1 ⟨rfl, hb1⟩
          replace hB := Lib.hid (keep_trans hB.out hb1)
          clear hb1
          obtain ⟨wo, hwo⟩ : ∃ wo : World, wo = w1 := ⟨_, rfl⟩
          subst hwo
          have hs0 := hB.out.size
          go_wp2_with fail
          go_loopw [76] (fun i wx => ∃ j : Nat, j ≤ 13 ∧ i = .int .i64 j ∧ Blk wx wo.heap.size 9 r3C ∧ wo.heap.size < wx.heap.size ∧ Below w.heap.size w wx) (fun i _ => 13 - (intOf i).toNat)
          case atStart => exact ⟨0, Nat.zero_le _, rfl, heap_alloc_new wo _, by simp, hB.out.alloc hs0 _⟩
          case round =>
            clear hB hs0
            obtain ⟨j, hj, rfl, hblk, hlt2, hbx⟩ := hrel
            have hB := Lib.hid hbx
            clear hbx
            by_cases hj9 : j < 13
            · have y1 := (hblk.cell j).trans (r3_at j hj9)
              have X := Lib.hid (r3_facts j hj9)
              have hsz : (r3 j).size ≤ maxLen := Nat.le_trans X.out.2 (by decide)
              have hK := Lib.hid hblk
              have hL := Lib.hid hlt2
              clear hblk hlt2
              go_wp2_with fail
              refine (role_any _ _ hsz).mono ?_
              rintro e _ ⟨rfl, rfl⟩
              rw [X.out.1]
              go_wp2_with fail
              go_roundw
              case rel => exact ⟨j + 1, by omega, by go_num, hK.out, hL.out, hB.out⟩
              case measure => simp [intOf]; omega
            · obtain rfl : j = 13 := by omega
              clear hblk hlt2 hj hj9
              go_wp2_with fail
              refine (many256 _).mono ?_
              rintro e w1 ⟨rfl, hb1⟩
              replace hB := Lib.hid (keep_trans hB.out hb1)
              clear hb1
              obtain ⟨wo, hwo⟩ : ∃ wo : World, wo = w1 := ⟨_, rfl⟩
              subst hwo
              have hs0 := hB.out.size
              go_wp2_with fail
              go_loopw [86] (fun i wx => ∃ j : Nat, j ≤ 9 ∧ i = .int .i64 j ∧ Blk wx wo.heap.size 9 r4C ∧ wo.heap.size < wx.heap.size ∧ Below w.heap.size w wx) (fun i _ => 9 - (intOf i).toNat)
              case atStart => exact ⟨0, Nat.zero_le _, rfl, heap_alloc_new wo _, by simp, hB.out.alloc hs0 _⟩
              case round =>
                clear hB hs0
                obtain ⟨j, hj, rfl, hblk, hlt2, hbx⟩ := hrel
                have hB := Lib.hid hbx
                clear hbx
                by_cases hj9 : j < 9
                · have y1 := (hblk.cell j).trans (r4_at j hj9)
                  have X := Lib.hid (r4_facts j hj9)
                  have hsz : (r4 j).size ≤ maxLen := Nat.le_trans X.out.2 (by decide)
                  have hK := Lib.hid hblk
                  have hL := Lib.hid hlt2
                  clear hblk hlt2
                  go_wp2_with fail
                  refine (path_any _ _ hsz).mono ?_
                  rintro e w1 ⟨rfl, hb1⟩
                  rw [X.out.1]
                  replace hK := Lib.hid (Blk.below hK.out hb1 hL.out)
                  replace hL := Lib.hid (Nat.lt_of_lt_of_le hL.out hb1.size)
                  replace hB := Lib.hid (keep_trans hB.out hb1)
                  clear hb1 y1
                  go_wp2_with fail
                  refine (pattern_any _ _ hsz).mono ?_
                  rintro e w1 ⟨rfl, hb1⟩
                  rw [X.out.1]
                  replace hK := Lib.hid (Blk.below hK.out hb1 hL.out)
                  replace hL := Lib.hid (Nat.lt_of_lt_of_le hL.out hb1.size)
                  replace hB := Lib.hid (keep_trans hB.out hb1)
                  clear hb1
                  go_wp2_with fail
                  go_roundw
                  case rel => exact ⟨j + 1, by omega, by go_num, hK.out, hL.out, hB.out⟩
                  case measure => simp [intOf]; omega
                · obtain rfl : j = 9 := by omega
                  clear hblk hlt2 hj hj9
                  go_wp2_with fail
                  refine (many257 _).mono ?_
                  rintro e w1 ⟨rfl, hb1⟩
                  replace hB := Lib.hid (keep_trans hB.out hb1)
                  clear hb1
                  obtain ⟨wo, hwo⟩ : ∃ wo : World, wo = w1 := ⟨_, rfl⟩
                  subst hwo
                  have hs0 := hB.out.size
                  go_wp2_with fail
                  go_loopw [102] (fun i wx => ∃ j : Nat, j ≤ 7 ∧ i = .int .i64 j ∧ Blk wx wo.heap.size 9 r5C ∧ wo.heap.size < wx.heap.size ∧ Below w.heap.size w wx) (fun i _ => 7 - (intOf i).toNat)
                  case atStart => exact ⟨0, Nat.zero_le _, rfl, heap_alloc_new wo _, by simp, hB.out.alloc hs0 _⟩
                  case round =>
                    clear hB hs0
                    obtain ⟨j, hj, rfl, hblk, hlt2, hbx⟩ := hrel
                    have hB := Lib.hid hbx
                    clear hbx
                    by_cases hj9 : j < 7
                    · have y1 := (hblk.cell j).trans (r5_at j hj9)
                      have X := Lib.hid (r5_facts j hj9)
                      have hsz : (r5 j).size ≤ maxLen := Nat.le_trans X.out.2 (by decide)
                      have hK := Lib.hid hblk
                      have hL := Lib.hid hlt2
                      clear hblk hlt2
                      go_wp2_with fail
                      refine (path_any _ _ hsz).mono ?_
                      rintro e w1 ⟨rfl, hb1⟩
                      rw [X.out.1]
                      replace hK := Lib.hid (Blk.below hK.out hb1 hL.out)
                      replace hL := Lib.hid (Nat.lt_of_lt_of_le hL.out hb1.size)
                      replace hB := Lib.hid (keep_trans hB.out hb1)
                      clear hb1 y1
                      go_wp2_with fail
                      refine (pattern_any _ _ hsz).mono ?_
                      rintro e w1 ⟨rfl, hb1⟩
                      rw [X.out.1]
                      replace hK := Lib.hid (Blk.below hK.out hb1 hL.out)
                      replace hL := Lib.hid (Nat.lt_of_lt_of_le hL.out hb1.size)
                      replace hB := Lib.hid (keep_trans hB.out hb1)
                      clear hb1
                      go_wp2_with fail
                      go_roundw
                      case rel => exact ⟨j + 1, by omega, by go_num, hK.out, hL.out, hB.out⟩
                      case measure => simp [intOf]; omega
                    · obtain rfl : j = 7 := by omega
                      clear hblk hlt2 hj hj9
                      obtain ⟨wo, hwo⟩ : ∃ wo : World, wo = wr := ⟨_, rfl⟩
                      subst hwo
                      have hs0 := hB.out.size
                      go_wp2_with fail
                      go_loopw [115] (fun i wx => ∃ j : Nat, j ≤ 5 ∧ i = .int .i64 j ∧ Blk wx wo.heap.size 9 r6C ∧ wo.heap.size < wx.heap.size ∧ Below w.heap.size w wx) (fun i _ => 5 - (intOf i).toNat)
                      case atStart => exact ⟨0, Nat.zero_le _, rfl, heap_alloc_new wo _, by simp, hB.out.alloc hs0 _⟩
                      case round =>
                        clear hB hs0
                        obtain ⟨j, hj, rfl, hblk, hlt2, hbx⟩ := hrel
                        have hB := Lib.hid hbx
                        clear hbx
                        by_cases hj9 : j < 5
                        · have y1 := (hblk.cell j).trans (r6_at j hj9)
                          have X := Lib.hid (r6_facts j hj9)
                          have hsz : (r6 j).size ≤ maxLen := Nat.le_trans X.out.2 (by decide)
                          have hK := Lib.hid hblk
                          have hL := Lib.hid hlt2
                          clear hblk hlt2
                          go_wp2_with fail
                          refine (top_any _ _).mono ?_
                          rintro e _ ⟨rfl, rfl⟩
                          rw [X.out.1]
                          go_wp2_with fail
                          go_roundw
                          case rel => first | exact ⟨j + 1, by omega, by go_num, hK.out, hL.out, hB.out⟩ | ((repeat apply Exists.intro); exact ⟨⟨j + 1, by omega, by go_num, hK.out, hL.out, hB.out⟩, rfl⟩)
                          case measure => simp [intOf]; omega
                        · obtain rfl : j = 5 := by omega
                          clear hblk hlt2 hj hj9
                          have LF := Lib.hid lng_facts
                          have hq64 : (qs 64).size ≤ 1000000 := by decide
                          have hq65 : (qs 65).size ≤ 1000000 := by decide
                          have hl : lng.size ≤ 1000000 := by rw [lng_facts.2.2.2.2.2.2.2.2.1]; decide
                          have hl2 : lng.size = 69 := lng_facts.2.2.2.2.2.2.2.2.1
                          have hql : qlng.size ≤ 1000000 := by rw [lng_facts.2.2.2.2.2.2.2.2.2]; decide
                          go_wp2_with fail
                          refine (many64 _).mono ?_
                          rintro e w1 ⟨rfl, hb1⟩
                          replace hB := Lib.hid (keep_trans hB.out hb1)
                          clear hb1
                          go_wp2_with fail
                          refine (file_any (qs 64) _ hq64).mono ?_
                          rintro e _ ⟨rfl, rfl⟩
                          rw [LF.out.1, LF.out.2.1]
                          go_wp2_with fail
                          refine (many65 _).mono ?_
                          rintro e w1 ⟨rfl, hb1⟩
                          replace hB := Lib.hid (keep_trans hB.out hb1)
                          clear hb1
                          go_wp2_with fail
                          refine (file_any (qs 65) _ hq65).mono ?_
                          rintro e _ ⟨rfl, rfl⟩
                          rw [LF.out.2.2.1, LF.out.2.2.2.1]
                          go_wp2_with fail
                          refine (roleOf_any lng _ hl).mono ?_
                          rintro e _ ⟨rfl, rfl⟩
                          rw [LF.out.2.2.2.2.1, LF.out.2.2.2.2.2.1]
                          go_wp2_with fail
                          refine (roleOf_any qlng _ hql).mono ?_
                          rintro e _ ⟨rfl, rfl⟩
                          rw [LF.out.2.2.2.2.2.2.1, LF.out.2.2.2.2.2.2.2.1]
                          go_wp2_with fail
                          refine (ntop1 _).mono ?_
                          rintro e _ ⟨rfl, rfl⟩
                          go_wp2_with fail
                          refine (ntop2 _).mono ?_
                          rintro e _ ⟨rfl, rfl⟩
                          go_wp2_with fail
                          refine (ntop3 _).mono ?_
                          rintro e _ ⟨rfl, rfl⟩
                          go_wp2_with fail
                          refine (many64 _).mono ?_
                          rintro e w1 ⟨rfl, hb1⟩
                          replace hB := Lib.hid (keep_trans hB.out hb1)
                          clear hb1
                          go_wp2_with fail
                          go_ret
                          exact ⟨rfl, hB.out⟩
end Go.Proofs.Ytdfbcobicjklhaa
