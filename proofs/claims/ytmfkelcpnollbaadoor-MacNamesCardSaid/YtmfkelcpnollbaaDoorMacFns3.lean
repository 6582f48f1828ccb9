/-
  The walks of package mac's Same, the document's Block, combined and Of, and the statements' own combined and bytes.
-/
import Derived.Test.YtmfkelcpnollbaaDoorMacFns2
namespace Go.Proofs.YtmfkelcpnollbaaDoor
set_option linter.unusedSimpArgs false
set_option linter.unusedVariables false
open Go Go.RowKit
attribute [local irreducible] Sh.sha Mc.blk

theorem msame_any (s t : ByteArray) (w : World) : Calls Tryd.prog 9 #[.string s, .string t] w fun e w' => e = .returned (.bool (s.toList == t.toList)) ∧ w = w' := by
  go_enter Tryd.func9, Tryd.ntmps9
  go_wp2_with fail
  go_ret
  exact ⟨rfl, rfl⟩

/-- So many of one byte. -/
def reps (n c : Nat) : ByteArray := strN (List.replicate n c)
theorem byt_reps (n c : Nat) (hc : c < 256) : byt (reps n c) = List.replicate n c := byt_strN _ (fun y hy => by have := List.eq_of_mem_replicate hy; omega)
theorem reps_size (n c : Nat) (hc : c < 256) : (reps n c).size = n := by rw [← byt_len, byt_reps n c hc, List.length_replicate]
set_option maxHeartbeats 800000 in
theorem lbytes_any (n c : Nat) (w : World) (hn : n ≤ 100000) (hc : c < 256) :
    Calls Tryd.prog 12 #[.int .i64 n, .int .u8 c] w fun e w' => e = .returned (.string (reps n c)) ∧ Below w.heap.size w w' := by
  have hmk := run_make_row' (P := Tryd.prog) 24 5 (.int .u8 0) 1 Tryd.underlying24 info_u8 rfl .i64 .i64 n (by omega) (by omega)
  go_enter Tryd.func12, Tryd.ntmps12
  go_wp2_with fail
  go_loopw [6] (fun i wr => ∃ (k : Nat) (cur : Array Value), k ≤ n ∧ i = .int .i64 k ∧ Bk wr w.heap.size 5 cur ∧ cur.size = n ∧ (∀ j, j < k → cur[j]? = some (.int .u8 (c : Int))) ∧ Below w.heap.size w wr) (fun i _ => n - (intOf i).toNat)
  case atStart => exact ⟨0, _, Nat.zero_le _, rfl, Bk.fresh _ _ _, by simp [madeCells], fun j hj => by omega, (Below.refl _ _).alloc (Nat.le_refl _) _⟩
  case round =>
    obtain ⟨k, cur, hk, rfl, hB, hz, hj, hb⟩ := hrel
    by_cases hlt : k < n
    · obtain ⟨v, hv⟩ : ∃ v, cur[k]? = some v := ⟨_, Array.getElem?_eq_getElem (by omega)⟩
      have hcell : wr.cell? ⟨w.heap.size, k, none⟩ = some v := (hB.cell k).trans hv
      have hfrz : wr.frozen? ⟨w.heap.size, k, none⟩ = false := hB.frozen k
      have K := Lib.hid (And.intro hB (And.intro hz (And.intro hj hb)))
      clear hB hz hj hb hv
      go_wp2_with fail
      go_roundw
      case rel =>
        refine ⟨k + 1, _, by omega, by go_num, K.out.1.put k _, by rw [Array.size_setIfInBounds]; exact K.out.2.1, fun j h => ?_, K.out.2.2.2.setCell (Nat.le_refl _) _⟩
        rw [Array.getElem?_setIfInBounds]
        by_cases e : k = j
        · subst e; rw [if_pos rfl, if_pos (by rw [K.out.2.1]; exact hlt)]
        · rw [if_neg e]; exact K.out.2.2.1 j (by omega)
      case measure => simp [intOf]; omega
    · obtain rfl : k = n := by omega
      have hsay : (convert 24 9 (.slice (some ⟨w.heap.size, 0, none⟩) k k)).run Tryd.prog wr = .ok (.string (reps k c)) wr := by
        have e : reps k c = strOfNums ((List.replicate k c).map fun b : Nat => (b : Int)) := by
          unfold reps strN strOfNums
          rw [List.map_map]
          rfl
        rw [e]
        refine run_convert_bytes_arg wr _ _ Tryd.underlying24 Tryd.underlying5 _ _ _ _ _ (by rw [List.length_map, List.length_replicate]) (fun i hi => ?_) _ Tryd.underlying9
        rw [hB.cell, Nat.zero_add, hj i hi]
        simp [hi]
      have hb' := Lib.hid hb
      clear hB hz hj hb
      go_wp2_with fail
      go_ret
      exact ⟨rfl, hb'.out⟩

theorem byt_data (s : ByteArray) (j : Nat) : (s.data.toList.getD j 0).toNat = (byt s).getD j 0 := by
  unfold byt
  rw [List.getD_eq_getElem?_getD, List.getD_eq_getElem?_getD, List.getElem?_map]
  cases s.data.toList[j]? <;> rfl
/-- The first k bytes of a conversion's row, each with another one; the others as they were. -/
structure Xf (w : World) (b : List Nat) (c k : Nat) (wr : World) : Prop where
  bel : Below w.heap.size w wr
  blk : ∃ cs, Bf wr w.heap.size 5 cs ∧ b.length ≤ cs.size ∧ (∀ j, j < k → cs[j]? = some (.int .u8 ((b.getD j 0 ^^^ c : Nat) : Int))) ∧ (∀ j, k ≤ j → j < b.length → cs[j]? = some (.int .u8 ((b.getD j 0 : Nat) : Int)))
theorem setIf_size (cs : Array Value) (k : Nat) (v : Value) : (cs.setIfInBounds k v).size = cs.size := Array.size_setIfInBounds
theorem Bf.put' {w : World} {g : Nat} {t : TypeId} {cs : Array Value} (h : Bf w g t cs) (i : Nat) (u : Value) : Bf (w.setCell ⟨g, i, none⟩ u) g t (cs.setIfInBounds i u) := by
  have := h.put i u
  unfold Bf at this ⊢
  rw [this, setIf_size]
theorem Xf.put {w wr : World} {b : List Nat} {c k : Nat} (h : Xf w b c k wr) (hk : k < b.length) (x : Int) (hx : x = ((b.getD k 0 ^^^ c : Nat) : Int)) : Xf w b c (k + 1) (wr.setCell ⟨w.heap.size, k, none⟩ (.int .u8 x)) := by
  obtain ⟨hB, cs, h1, h2, h3, h4⟩ := h
  refine ⟨hB.setCell (Nat.le_refl _) _, _, h1.put' k _, by rw [Array.size_setIfInBounds]; exact h2, fun j hj => ?_, fun j hj hj2 => ?_⟩
  · rw [Array.getElem?_setIfInBounds]
    by_cases e : k = j
    · subst e; rw [if_pos rfl, if_pos (by omega), hx]
    · rw [if_neg e]; exact h3 j (by omega)
  · rw [Array.getElem?_setIfInBounds, if_neg (by omega)]
    exact h4 j (by omega) hj2
theorem Xf.say {w wr : World} {b : List Nat} {c n cap : Nat} (h : Xf w b c n wr) (hb : b.length = n) : (convert 24 9 (.slice (some ⟨w.heap.size, 0, none⟩) n cap)).run Tryd.prog wr = .ok (.string (strN (Mc.xo c b))) wr := by
  obtain ⟨hB, cs, h1, h2, h3, h4⟩ := h
  have e : strN (Mc.xo c b) = strOfNums ((Mc.xo c b).map fun b : Nat => (b : Int)) := by
    unfold strN strOfNums
    rw [List.map_map]
    rfl
  have hl : (Mc.xo c b).length = n := by unfold Mc.xo; rw [List.length_map, hb]
  rw [e]
  refine run_convert_bytes_arg wr _ _ Tryd.underlying24 Tryd.underlying5 _ _ _ _ _ (by rw [List.length_map, hl]) (fun i hi => ?_) _ Tryd.underlying9
  rw [Bf.cell h1, show 0 + i = i by omega, h3 i (by omega)]
  unfold Mc.xo
  simp [List.getD_eq_getElem?_getD, show i < b.length by omega]
set_option maxHeartbeats 1000000 in
theorem rcomb_any (s : ByteArray) (c : Nat) (w : World) (hs : s.size ≤ 1000000) (hc : c < 256) : Calls Tryd.prog 23 #[.string s, .int .u8 c] w fun e w' => e = .returned (.string (Mc.xoS c s)) ∧ Below w.heap.size w w' := by
  have hbl := byt_len s
  have hl := Lib.hid (byt_lt s)
  go_enter Tryd.func23, Tryd.ntmps23
  go_wp2_with (first | (refine wpList_bytes_of _ rfl 9 24 _ rfl 5 Tryd.underlying9 Tryd.underlying24 Tryd.underlying5 s rfl ?_
                        intro w1 cap cs hz1 hB1 hc1 hs1 hg1
                        have hX : Hid (Xf w (byt s) c 0 w1) := ⟨below_one (Below.refl _ _) hg1 (Nat.le_refl _) (fun g hg => by cases hg), cs, hB1, by rw [hbl]; exact hz1, fun j hj => absurd hj (by omega), fun j _ hj => by rw [hc1 j (by omega), byt_data]⟩
                        clear hz1 hB1 hc1 hs1 hg1))
  go_loopw [6] (fun i wr => ∃ k : Nat, k ≤ s.size ∧ i = .int .i64 k ∧ Hid (Xf w (byt s) c k wr)) (fun i _ => s.size - (intOf i).toNat)
  case atStart => exact ⟨0, by omega, rfl, hX⟩
  case round =>
    clear hX
    obtain ⟨k, hk, rfl, hR⟩ := hrel
    by_cases hlt : k < s.size
    · have cK : wr.cell? ⟨w.heap.size, k, none⟩ = some (.int .u8 (((byt s).getD k 0 : Nat) : Int)) := hR.out.blk.elim fun cs h => (h.1.cell k).trans (h.2.2.2 k (Nat.le_refl _) (by omega))
      have fK : wr.frozen? ⟨w.heap.size, k, none⟩ = false := hR.out.blk.elim fun cs h => h.1.frozen k (by have := h.2.1; omega)
      have hx := getD_lt256 hl.out k
      have hput := Lib.hid (fun x => hR.out.put (k := k) (by omega) x)
      generalize (byt s).getD k 0 = x at *
      have hxor := Lib.hid (u8_xor_nat x c hx hc)
      go_wp2_with fail
      go_roundw
      case rel => exact ⟨k + 1, by omega, by go_num, hput.out _ hxor.out⟩
      case measure => simp [intOf]; omega
    · obtain rfl : k = s.size := by omega
      have hcv := hR.out.say (cap := cap) hbl
      have hBf := Lib.hid hR.out.bel
      go_wp2_with fail
      go_ret
      exact ⟨rfl, hBf.out⟩
set_option maxHeartbeats 1000000 in
theorem lcomb_any (s : ByteArray) (c : Nat) (w : World) (hs : s.size ≤ 1000000) (hc : c < 256) : Calls Tryd.prog 17 #[.string s, .int .u8 c] w fun e w' => e = .returned (.string (Mc.xoS c s)) ∧ Below w.heap.size w w' := by
  have hbl := byt_len s
  have hl := Lib.hid (byt_lt s)
  go_enter Tryd.func17, Tryd.ntmps17
  go_wp2_with (first | (refine wpList_bytes_of _ rfl 9 24 _ rfl 5 Tryd.underlying9 Tryd.underlying24 Tryd.underlying5 s rfl ?_
                        intro w1 cap cs hz1 hB1 hc1 hs1 hg1
                        have hX : Hid (Xf w (byt s) c 0 w1) := ⟨below_one (Below.refl _ _) hg1 (Nat.le_refl _) (fun g hg => by cases hg), cs, hB1, by rw [hbl]; exact hz1, fun j hj => absurd hj (by omega), fun j _ hj => by rw [hc1 j (by omega), byt_data]⟩
                        clear hz1 hB1 hc1 hs1 hg1))
  go_loopw [6] (fun i wr => ∃ k : Nat, k ≤ s.size ∧ i = .int .i64 k ∧ Hid (Xf w (byt s) c k wr)) (fun i _ => s.size - (intOf i).toNat)
  case atStart => exact ⟨0, by omega, rfl, hX⟩
  case round =>
    clear hX
    obtain ⟨k, hk, rfl, hR⟩ := hrel
    by_cases hlt : k < s.size
    · have cK : wr.cell? ⟨w.heap.size, k, none⟩ = some (.int .u8 (((byt s).getD k 0 : Nat) : Int)) := hR.out.blk.elim fun cs h => (h.1.cell k).trans (h.2.2.2 k (Nat.le_refl _) (by omega))
      have fK : wr.frozen? ⟨w.heap.size, k, none⟩ = false := hR.out.blk.elim fun cs h => h.1.frozen k (by have := h.2.1; omega)
      have hx := getD_lt256 hl.out k
      have hput := Lib.hid (fun x => hR.out.put (k := k) (by omega) x)
      generalize (byt s).getD k 0 = x at *
      have hxor := Lib.hid (u8_xor_nat x c hx hc)
      go_wp2_with fail
      go_roundw
      case rel => exact ⟨k + 1, by omega, by go_num, hput.out _ hxor.out⟩
      case measure => simp [intOf]; omega
    · obtain rfl : k = s.size := by omega
      have hcv := hR.out.say (cap := cap) hbl
      have hBf := Lib.hid hR.out.bel
      go_wp2_with fail
      go_ret
      exact ⟨rfl, hBf.out⟩

/-- So many 0s are laid behind x. -/
def Rb (x : ByteArray) (v : Value) : Prop := ∃ i r, v = .string r ∧ x.size + i ≤ 64 ∧ byt r = byt x ++ List.replicate i 0
theorem Rb.next {x r : ByteArray} {i : Nat} (h : x.size + i < 64) (hr : byt r = byt x ++ List.replicate i 0) : Rb x (.string (r ++ ⟨#[0]⟩)) := by
  refine ⟨i + 1, _, rfl, by omega, ?_⟩
  rw [cat_byt, hr, List.append_assoc, List.replicate_succ']
  rfl
theorem Rb.size {x r : ByteArray} {i : Nat} (hr : byt r = byt x ++ List.replicate i 0) : r.size = x.size + i := by
  have := congrArg List.length hr
  rw [byt_len, List.length_append, byt_len, List.length_replicate] at this
  omega
theorem Rb.done {k x r : ByteArray} {i : Nat} (h : x.size + i = 64) (hr : byt r = byt x ++ List.replicate i 0) (hx : Mc.short (byt k) = byt x) : r = Mc.blkS k := by
  apply byt_inj
  rw [hr, Mc.byt_blk]
  unfold Mc.blk
  rw [hx, byt_len]
  congr 2
  omega
set_option maxHeartbeats 1000000 in
theorem rBlock_any (k : ByteArray) (w : World) (hk : k.size ≤ 1099511627776) : Calls Tryd.prog 15 #[.string k] w fun e w' => e = .returned (.string (Mc.blkS k)) ∧ Below w.heap.size w w' := by
  by_cases h : 64 < k.size
  · have hgt : decide (64 < (k.size : Int)) = true := by simp; omega
    have hx : Mc.short (byt k) = byt (shaS k) := by
      unfold Mc.short
      rw [if_neg (by rw [byt_len]; omega), Mc.byt_shaS]
    have hz := shaS_size k
    go_enter Tryd.func15, Tryd.ntmps15
    go_wp2_with fail
    refine (rsum_any k _ hk).mono ?_
    rintro e w1 ⟨rfl, hb⟩
    have hB := Lib.hid hb
    clear hb
    rw [show strN (Sh.sha (byt k)) = shaS k from rfl]
    go_wp2_with fail
    go_loop [0] (fun v => Rb (shaS k) v) (fun v => 64 - szOf v)
    case atStart => exact ⟨0, _, rfl, by omega, by rw [List.replicate_zero, List.append_nil]⟩
    case round =>
      obtain ⟨i, r, rfl, hi, hr⟩ := hrel
      have hsz := Rb.size hr
      by_cases hlt : (shaS k).size + i < 64
      · have hN := Lib.hid (Rb.next hlt hr)
        have HR := Lib.hid hr
        clear hr
        have hrs : r.size < 64 := by omega
        clear hsz
        go_wp2_with fail
        go_round
        case rel => exact hN.out
        case measure =>
          simp only [szOf]
          rw [ByteArray.size_append]
          show 64 - (r.size + 1) < _
          omega
      · have he := Rb.done (by omega) hr hx
        have hrs : r.size = 64 := by omega
        have HR := Lib.hid hr
        have HE := Lib.hid he
        clear hr he hsz
        go_wp2_with fail
        go_ret
        exact ⟨by rw [HE.out]; rfl, hB.out⟩
  · have hgt : decide (64 < (k.size : Int)) = false := by simp; omega
    have hx : Mc.short (byt k) = byt k := by
      unfold Mc.short
      rw [if_pos (by rw [byt_len]; omega)]
    go_enter Tryd.func15, Tryd.ntmps15
    go_wp2_with fail
    go_loop [0] (fun v => Rb (k) v) (fun v => 64 - szOf v)
    case atStart => exact ⟨0, _, rfl, by omega, by rw [List.replicate_zero, List.append_nil]⟩
    case round =>
      obtain ⟨i, r, rfl, hi, hr⟩ := hrel
      have hsz := Rb.size hr
      by_cases hlt : (k).size + i < 64
      · have hN := Lib.hid (Rb.next hlt hr)
        have HR := Lib.hid hr
        clear hr
        have hrs : r.size < 64 := by omega
        clear hsz
        go_wp2_with fail
        go_round
        case rel => exact hN.out
        case measure =>
          simp only [szOf]
          rw [ByteArray.size_append]
          show 64 - (r.size + 1) < _
          omega
      · have he := Rb.done (by omega) hr hx
        have hrs : r.size = 64 := by omega
        have HR := Lib.hid hr
        have HE := Lib.hid he
        clear hr he hsz
        go_wp2_with fail
        go_ret
        exact ⟨by rw [HE.out]; rfl, Below.refl _ _⟩
set_option maxHeartbeats 1000000 in
theorem rof_any (k s : ByteArray) (w : World) (hk : k.size ≤ 1048576) (hs : s.size ≤ 1048576) : Calls Tryd.prog 13 #[.string k, .string s] w fun e w' => e = .returned (.string (Mc.ofS k s)) ∧ Below w.heap.size w w' := by
  have hOf := Lib.hid (ofS_eq k s)
  have hbz := Mc.blkS_size k
  go_enter Tryd.func13, Tryd.ntmps13
  go_wp2_with fail
  refine (rBlock_any k _ (by omega)).mono ?_
  rintro e w1 ⟨rfl, hb⟩
  have hB := Lib.hid hb
  clear hb
  go_wp2_with fail
  refine (rcomb_any (Mc.blkS k) 92 _ (by omega) (by decide)).mono ?_
  rintro e w2 ⟨rfl, hb⟩
  have hB := Lib.hid (hB.out.trans (hb.mono hB.out.size))
  clear hb
  go_wp2_with fail
  refine (rcomb_any (Mc.blkS k) 54 _ (by omega) (by decide)).mono ?_
  rintro e w3 ⟨rfl, hb⟩
  have hB := Lib.hid (hB.out.trans (hb.mono hB.out.size))
  clear hb
  have x1 := xoS64 54 (by decide) k
  have x2 := xoS64 92 (by decide) k
  generalize Mc.xoS 54 (Mc.blkS k) = a at *
  generalize Mc.xoS 92 (Mc.blkS k) = b at *
  go_wp2_with fail
  refine (rsum_any _ _ (by rw [ByteArray.size_append]; omega)).mono ?_
  rintro e w4 ⟨rfl, hb⟩
  have hB := Lib.hid (hB.out.trans (hb.mono hB.out.size))
  clear hb
  rw [show strN (Sh.sha (byt (a ++ s))) = shaS (a ++ s) from rfl]
  have x3 := shaS_size (a ++ s)
  generalize shaS (a ++ s) = c at *
  go_wp2_with fail
  refine (rsum_any _ _ (by rw [ByteArray.size_append]; omega)).mono ?_
  rintro e w5 ⟨rfl, hb⟩
  have hB := Lib.hid (hB.out.trans (hb.mono hB.out.size))
  clear hb
  rw [show strN (Sh.sha (byt (b ++ c))) = shaS (b ++ c) from rfl, hOf.out]
  go_wp2_with fail
  go_ret
  exact ⟨rfl, hB.out⟩
end Go.Proofs.YtmfkelcpnollbaaDoor
