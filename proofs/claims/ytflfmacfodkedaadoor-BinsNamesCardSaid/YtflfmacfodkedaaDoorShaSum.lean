/-
  The walk of (*sha.Hash).Sum: the SHA-256 of what a hash covers.
-/
import Derived.Test.YtflfmacfodkedaaDoorShaNew
import Derived.Test.YtflfmacfodkedaaDoorShaShelf
import Derived.Test.YtflfmacfodkedaaDoorBytes
namespace Go.Proofs.YtflfmacfodkedaaDoor
set_option linter.unusedSimpArgs false
set_option linter.unusedVariables false
open Go Go.RowKit

/-- Numbers as a string's bytes. -/
def strN (x : List Nat) : ByteArray := ⟨(x.map UInt8.ofNat).toArray⟩
theorem byt_strN (x : List Nat) (h : ∀ y ∈ x, y < 256) : byt (strN x) = x := by
  unfold byt strN
  rw [List.map_map]
  have : ∀ l : List Nat, (∀ y ∈ l, y < 256) → l.map (UInt8.toNat ∘ UInt8.ofNat) = l := by
    intro l
    induction l with
    | nil => intro _; rfl
    | cons a r ih =>
      intro hl
      rw [List.map_cons, ih (fun y hy => hl y (List.mem_cons_of_mem _ hy))]
      have ha := hl a (List.mem_cons_self ..)
      simp [UInt8.toNat_ofNat', Nat.mod_eq_of_lt ha]
  exact this x h
theorem strN_byt (s : ByteArray) : strN (byt s) = s := byt_inj (byt_strN _ (byt_lt s))
theorem cellsB_u8 (x : List Nat) (h : ∀ y ∈ x, y < 256) : cellsU8 (x.map UInt8.ofNat) = cellsB x := by
  unfold cellsU8 cellsB
  rw [List.map_map]
  refine List.map_congr_left fun y hy => ?_
  have := h y hy
  simp [UInt8.toNat_ofNat', Nat.mod_eq_of_lt this]
theorem repeat_at (c : Nat) (i : Int) (w : World) (hc : c ≤ 1000) (hi : i = (c : Int)) :
    Calls Tryd.prog 60 #[.string ⟨#[0]⟩, .int .i64 i] w fun e w' => e = .returned (.string (strN (List.replicate c 0))) ∧ Below w.heap.size w w' := by
  subst hi
  have e : ∀ c, Lib.repeatL (ByteArray.data ⟨#[0]⟩).toList c = (List.replicate c 0).map UInt8.ofNat := by
    intro c
    induction c with
    | zero => rfl
    | succ c ih => rw [Lib.repeatL, ih]; rfl
  refine (Tryd.strings_Repeat ⟨#[0]⟩ c w (by omega) (by show 1 * c ≤ _; omega)).mono fun e' w' h => ⟨?_, h.2⟩
  rw [h.1, e]
  rfl
/-- The first k bytes of the number of bits stand. -/
structure TR (w : World) (b : Nat) (n k : Nat) (wr : World) : Prop where
  bel : Below w.heap.size w wr
  blk : ∃ ds, Bk wr b 82 ds ∧ ds.size = 8 ∧ ∀ j, j < k → ds[j]? = some (.int .u8 ((Sh.tail8 n).getD j 0 : Nat))
theorem TR.put {w wr : World} {b n k : Nat} (h : TR w b n k wr) (hb : w.heap.size ≤ b) (hk : k < 8) (x : Int) (hx : x = (((Sh.tail8 n).getD k 0 : Nat) : Int)) : TR w b n (k + 1) (wr.setCell ⟨b, k, none⟩ (.int .u8 x)) := by
  obtain ⟨hB, ds, h1, h2, h3⟩ := h
  refine ⟨hB.setCell hb _, _, h1.put k _, by rw [Array.size_setIfInBounds]; exact h2, fun j hj => ?_⟩
  rw [Array.getElem?_setIfInBounds]
  by_cases e : k = j
  · subst e; rw [if_pos rfl, if_pos (by omega), hx]
  · rw [if_neg e]; exact h3 j (by omega)
theorem TR.say {w wr : World} {b n : Nat} (h : TR w b n 8 wr) : (convert 43 9 (.slice (some ⟨b, 0, none⟩) 8 8)).run Tryd.prog wr = .ok (.string (strN (Sh.tail8 n))) wr := by
  obtain ⟨hB, ds, h1, h2, h3⟩ := h
  have e : strN (Sh.tail8 n) = strOfNums ((Sh.tail8 n).map fun b : Nat => (b : Int)) := by
    unfold strN strOfNums
    rw [List.map_map]
    rfl
  rw [e]
  refine run_convert_bytes_arg wr _ _ Tryd.underlying43 Tryd.underlying5 _ _ _ _ _ (by simp [Sh.tail8]) (fun i hi => ?_) _ Tryd.underlying9
  rw [Bk.cell h1, show 0 + i = i by omega, h3 i hi]
  have hi8 : i < 8 := hi
  rcases i with _ | _ | _ | _ | _ | _ | _ | _ | i
  all_goals first | rfl | omega
theorem cat_byt (s t : ByteArray) : byt (s ++ t) = byt s ++ byt t := by
  unfold byt
  rw [ByteArray.data_append]
  simp
theorem index8 (S : Sh.St) (k : Nat) (hk : k < 8) (w : World) : (Instr.index 80 (.agg #[vU S.a, vU S.b, vU S.c, vU S.d, vU S.e, vU S.f, vU S.g, vU S.h]) (.int .i64 (k : Int))).run Tryd.prog w = .ok (vU (S.l.getD k 0)) w := by
  rcases k with _ | _ | _ | _ | _ | _ | _ | _ | k
  all_goals first | omega | kernel_rfl
theorem bytes_more (S : Sh.St) (k : Nat) (hk : k < 8) : S.bytes.take (4 * (k + 1)) = S.bytes.take (4 * k) ++ Sh.be (S.l.getD k 0) := by
  rcases k with _ | _ | _ | _ | _ | _ | _ | _ | k
  all_goals first | omega | rfl
theorem cellsB_app (a b : List Nat) : cellsB (a ++ b) = cellsB a ++ cellsB b := by simp [cellsB]
/-- The eight numbers of a state stand in a hash's block. -/
structure Eight (w : World) (g : Nat) (S : Sh.St) : Prop where
  c0 : w.cell? ⟨g, 1, none⟩ = some (vU S.a)
  c1 : w.cell? ⟨g, 2, none⟩ = some (vU S.b)
  c2 : w.cell? ⟨g, 3, none⟩ = some (vU S.c)
  c3 : w.cell? ⟨g, 4, none⟩ = some (vU S.d)
  c4 : w.cell? ⟨g, 5, none⟩ = some (vU S.e)
  c5 : w.cell? ⟨g, 6, none⟩ = some (vU S.f)
  c6 : w.cell? ⟨g, 7, none⟩ = some (vU S.g)
  c7 : w.cell? ⟨g, 8, none⟩ = some (vU S.h)
theorem eight_of {w : World} {g : Nat} {S : Sh.St} (st : ∀ j, j < 8 → w.cell? ⟨g, 1 + j, none⟩ = some (vU (S.l.getD j 0))) : Eight w g S :=
  ⟨st 0 (by omega), st 1 (by omega), st 2 (by omega), st 3 (by omega), st 4 (by omega), st 5 (by omega), st 6 (by omega), st 7 (by omega)⟩
theorem Eight.grow {w w' : World} {g : Nat} {S : Sh.St} {row : Option Nat} (h : Eight w g S) (k : w.grownBy w' row) (hne : some g ≠ row) (hg : g < w.heap.size) : Eight w' g S :=
  ⟨(one_cell k (p := ⟨g, _, none⟩) hg hne).trans h.c0, (one_cell k (p := ⟨g, _, none⟩) hg hne).trans h.c1, (one_cell k (p := ⟨g, _, none⟩) hg hne).trans h.c2, (one_cell k (p := ⟨g, _, none⟩) hg hne).trans h.c3,
   (one_cell k (p := ⟨g, _, none⟩) hg hne).trans h.c4, (one_cell k (p := ⟨g, _, none⟩) hg hne).trans h.c5, (one_cell k (p := ⟨g, _, none⟩) hg hne).trans h.c6, (one_cell k (p := ⟨g, _, none⟩) hg hne).trans h.c7⟩
set_option maxRecDepth 20000 in
set_option maxHeartbeats 4000000 in
theorem sum_any (h : Nat) (l : List Nat) (w : World) (hH : Held w h l) (hT : Tb w) (hl : l.length ≤ 1099511627776) :
    Calls Tryd.prog 55 #[.pointer (some ⟨h, 0, none⟩)] w fun e w' => e = .returned (.string (strN (Sh.sha l))) ∧ Below w.heap.size w w' := by
  have hlt := hH.lt
  obtain ⟨cs, p, hb, hm⟩ := hH
  have hz := hash_zero
  have hcs := hm.hc.size
  have hst := run_storeCells_new (P := Tryd.prog) w 86 zeroH cs (by rw [hm.hc.size]; exact hash_size) (by rw [hm.hc.size]; rfl) (fits_hc hm.hc)
  have c73 : w.cell? ⟨h, 73, none⟩ = some (.int .i64 (l.length : Int)) := (hb.cell 73).trans hm.hc.len
  go_enter Tryd.func55, Tryd.ntmps55
  go_wp2_with (refine wpList_load_row rfl 86 _ rfl h rfl 86 cs (0, 0) _ hb Tryd.underlying86 rfl (by rw [hm.hc.size]; exact hash_size) ?_)
  refine (repeat_at (Sh.zeros l.length) _ _ (by unfold Sh.zeros; omega) (by unfold Sh.zeros; omega)).mono ?_
  rintro e w1 ⟨rfl, hb1⟩
  have g1 : w.heap.size < w1.heap.size := Nat.lt_of_lt_of_le (by simp) hb1.size
  have hB1 := Lib.hid ((((Below.refl _ _).alloc (Nat.le_refl _) (.cells cs 86)).trans (hb1.mono (by simp))) : Below w.heap.size w w1)
  have hH1 : Held w1 w.heap.size l := (show Held (w.alloc (.cells cs 86)) w.heap.size l from ⟨cs, p, Bk.fresh w _ cs, hm⟩).below hb1 (by simp)
  have hZ : (strN (List.replicate (Sh.zeros l.length) 0)).size ≤ 64 := by
    rw [← byt_len, byt_strN _ (by simp), List.length_replicate]; unfold Sh.zeros; omega
  have hZ2 := Lib.hid (byt_strN (List.replicate (Sh.zeros l.length) 0) (by simp))
  generalize strN (List.replicate (Sh.zeros l.length) 0) = z at *
  have hT1 := hT.below hB1.out hT.lt
  clear hb1 hst hb hm hcs c73
  go_wp2_with fail
  refine (write_any w.heap.size l _ w1 hH1 hT1 hT.lt (by rw [ByteArray.size_append]; show _ + (1 + z.size) ≤ _; omega)).mono ?_
  rintro e w2 ⟨rfl, hG2, hH2⟩
  rw [cat_byt, hZ2.out] at hH2
  have hB2 := Lib.hid (below_one hB1.out hG2 (by omega) (fun g hg => by cases hg; exact Nat.le_refl _))
  have hH2 := Lib.hid hH2
  have g2 : w.heap.size < w2.heap.size := Nat.lt_of_lt_of_le g1 hG2.size
  obtain ⟨n, hn⟩ : ∃ n, n = l.length := ⟨_, rfl⟩
  rw [← hn]
  have HN := Lib.hid hn
  have hn2 : n ≤ 1099511627776 := by omega
  clear hn hG2 hH1 hB1 hZ2 hT1
  go_wp2_with fail
  go_loopw [31] (fun i wr => ∃ k : Nat, k ≤ 8 ∧ i = .int .i64 k ∧ TR w2 w2.heap.size n k wr) (fun i _ => 8 - (intOf i).toNat)
  case atStart => exact ⟨0, by omega, rfl, (Below.refl _ _).alloc (Nat.le_refl _) _, _, Bk.fresh w2 _ _, rfl, fun j hj => absurd hj (by omega)⟩
  case round =>
    obtain ⟨k, hk, rfl, hR⟩ := hrel
    by_cases hk8 : k < 8
    · have c0 := (hR.blk.elim fun ds h => h.1.frozen k)
      have hcell : ∃ v, wr.cell? ⟨w2.heap.size, k, none⟩ = some v := hR.blk.elim fun ds h => ⟨ds[k]'(by omega), by rw [h.1.cell k]; exact Array.getElem?_eq_getElem (by omega)⟩
      obtain ⟨v, cv⟩ := hcell
      have hR := Lib.hid hR
      have hkk : k = 0 ∨ k = 1 ∨ k = 2 ∨ k = 3 ∨ k = 4 ∨ k = 5 ∨ k = 6 ∨ k = 7 := by omega
      rcases hkk with rfl | rfl | rfl | rfl | rfl | rfl | rfl | rfl
      all_goals
        go_wp2_with fail
        go_roundw
        case rel => refine ⟨_, ?_, ?_, hR.out.put (Nat.le_refl _) ?_ _ ?_⟩ <;> first | omega | rfl | (simp [Sh.tail8] <;> omega)
        case measure => simp [intOf]
    · obtain rfl : k = 8 := by omega
      have hcv := hR.say
      have hts : (strN (Sh.tail8 n)).size = 8 := by simp [strN, Sh.tail8, ByteArray.size]
      have htb := Lib.hid (byt_strN (Sh.tail8 n) (by intro y hy; unfold Sh.tail8 at hy; simp at hy; omega))
      have hH3 := Lib.hid (hH2.out.below hR.bel g2)
      have hB3 := Lib.hid (hB2.out.trans (hR.bel.mono (by omega)))
      generalize strN (Sh.tail8 n) = ts at *
      have hT3 := Lib.hid (hT.below hB3.out hT.lt)
      have g3 : w.heap.size < wr.heap.size := Nat.lt_of_lt_of_le g2 hR.bel.size
      have hR := Lib.hid hR
      clear hH2 hB2
      go_wp2_with fail
      refine (write_any w.heap.size _ _ wr hH3.out hT3.out hT.lt (by rw [hts]; simp only [List.length_append, List.length_replicate]; have : (byt ⟨#[128]⟩).length = 1 := rfl; have : Sh.zeros l.length ≤ 64 := by unfold Sh.zeros; omega
                                                                     omega)).mono ?_
      rintro e w4 ⟨rfl, hG4, hH4⟩
      have hB4 := Lib.hid (below_one hB3.out hG4 (by omega) (fun g hg => by cases hg; exact Nat.le_refl _))
      have g4 : w.heap.size < w4.heap.size := Nat.lt_of_lt_of_le g3 hG4.size
      have hpad : l ++ (byt ⟨#[128]⟩ ++ List.replicate (Sh.zeros l.length) 0) ++ byt ts = Sh.padded l := by
        rw [htb.out, HN.out]; rfl
      rw [hpad] at hH4
      clear hpad hG4 hH3 hB3 hT3 hcv
      obtain ⟨cs4, p4, hb4, hm4⟩ := hH4
      have hS : Hid (Sh.sha l = (Sh.blocks Sh.s0 (Sh.padded l) ((Sh.padded l).length / 64)).bytes) := rfl
      have hok := Sh.blocks_ok Sh.s0_ok (Sh.padded l) ((Sh.padded l).length / 64)
      have hst := hm4.hc.state
      generalize Sh.blocks Sh.s0 (Sh.padded l) ((Sh.padded l).length / 64) = S at *
      have h8 := eight_of (fun j hj => (hb4.cell _).trans (hst j hj))
      clear hst hm4 hb4
      obtain ⟨i0, hi0, hz0, hz1, hz2⟩ := info_parts info_u8
      go_wp2_with (at_make; refine wpList_make_own _ rfl _ _ 43 rfl w.heap.size 5 i0 _ 1 Tryd.underlying43 hi0 hz0 hz1 _ _ _ 32 rfl rfl (by omega) (by rw [hz2]; omega) (by unfold maxLen; omega) (by omega) ?_; intro w5 hown hgrow; obtain ⟨e0, e1, e2, e3, e4, e5, e6, e7⟩ := h8.grow hgrow (by simp) g4)
      have hB5 := Lib.hid (hB4.out.grown hgrow (by omega) (by intro k hk; cases hk))
      clear hgrow h8 hB4 e0 e1 e2 e3 e4 e5 e6 e7
      have hok := Lib.hid hok
      go_loopw [7, 49] (fun v i wr => ∃ k : Nat, k ≤ 8 ∧ i = .int .i64 k ∧ wr.ownsRow w.heap.size 5 1 v (4 * k) (cellsB (S.bytes.take (4 * k))) ∧ Hid (Below w.heap.size w wr)) (fun _ i _ => 8 - (intOf i).toNat)
      case atStart => exact ⟨0, by omega, rfl, hown, hB5⟩
      case round =>
        clear hown hB5
        obtain ⟨k, hk, rfl, hown, hB⟩ := hrel
        have hwr := hB.out.size
        by_cases hk8 : k < 8
        · have hix := index8 S k hk8 wr
          have lx := ok_lt hok.out k
          have hbm := Lib.hid (bytes_more S k hk8)
          generalize S.l.getD k 0 = x at *
          have hown := Lib.hid hown
          go_wp2_with (at_builtin; refine wpList_append_own _ rfl _ _ _ rfl w.heap.size 5 i0 _ 1 1 Tryd.underlying43 hi0 hz0 hz1 hz2 rfl (by omega) u7 (4 * k) _ rfl (hown.out.alloc _) ⟨wr.heap.size, 0, none⟩ 4 4 [.int .u8 ((x : Int) / 16777216), .int .u8 ((x : Int) / 65536 % 256), .int .u8 ((x : Int) / 256 % 256), .int .u8 ((x : Int) % 256)] rfl rfl (World.news_of_block (heap_alloc_new _ _)) (by simp [Value.oneCell']) (by unfold maxLen; omega) (by omega) (by simp; omega) ?_; intro v2 w6 hown2 hgrow2 _)
          have hB6 := Lib.hid ((hB.out.alloc (by omega) _).grown hgrow2 (by simp; omega) (by intro g hg; exact (hown.out.lt g hg).1))
          clear hgrow2
          go_roundw
          case rel => exact ⟨k + 1, by omega, by go_num, by rw [hbm.out, cellsB_app]; exact hown2, hB6⟩
          case measure => simp [intOf]; omega
        · obtain rfl : k = 8 := by omega
          have e : cellsB (S.bytes.take (4 * 8)) = cellsU8 (S.bytes.map UInt8.ofNat) := by
            rw [hS.out.symm, cellsB_u8 _ (Sh.sha_lt l), hS.out]; rfl
          rw [e] at hown
          have hcv := run_convert_own (P := Tryd.prog) 43 5 9 Tryd.underlying43 Tryd.underlying5 Tryd.underlying9 hown
          clear hown e
          go_wp2_with fail
          go_ret
          exact ⟨by rw [hS.out]; rfl, hB.out⟩
end Go.Proofs.YtflfmacfodkedaaDoor
