/-
  The walk of (*sha.Hash).mix: a block goes into the state.
-/
import Derived.Test.YtflfmacfodkedaaDoorShaFns
import Derived.Test.YtflfmacfodkedaaDoorLex
import Derived.Deep.MidRow
namespace Go.Proofs.YtflfmacfodkedaaDoor
set_option linter.unusedSimpArgs false
set_option linter.unusedVariables false
open Go Go.RowKit

/-- The value of a 32-bit number. -/
abbrev vU (n : Nat) : Value := .int .u32 (n : Int)
/-- The cells of a hash: whether it began, its state, the bytes of its incomplete block, its size. -/
structure HC (cs : Array Value) (s : Sh.St) (p : List Nat) (n : Nat) : Prop where
  size : cs.size = 74
  begun : cs[0]? = some (.bool true)
  state : ∀ j, j < 8 → cs[1 + j]? = some (vU (s.l.getD j 0))
  part : ∀ j, j < 64 → cs[9 + j]? = some (.int .u8 (p.getD j 0 : Nat))
  len : cs[73]? = some (.int .i64 (n : Int))

/-- The table of the rounds stands. -/
structure Tb (w : World) : Prop where
  rnd : ∀ i, i < 64 → w.cell? ⟨2, i, none⟩ = some (vU (Sh.kk i))
  ini : ∀ i, i < 8 → w.cell? ⟨1, i, none⟩ = some (vU (Sh.s0.l.getD i 0))

theorem word_int (a b c d : Nat) (ha : a < 256) (hb : b < 256) (hc : c < 256) (hd : d < 256) :
    bits .or .u32 (bits .or .u32 (bits .or .u32 ((a : Int) * 16777216) ((b : Int) * 65536)) ((c : Int) * 256)) (d : Int) = ((a * 16777216 + b * 65536 + c * 256 + d : Nat) : Int) := by
  have e1 : (a : Int) * 16777216 = ((a * 16777216 : Nat) : Int) := by simp
  have e2 : (b : Int) * 65536 = ((b * 65536 : Nat) : Int) := by simp
  have e3 : (c : Int) * 256 = ((c * 256 : Nat) : Int) := by simp
  rw [e1, e2, e3, u32_or_nat _ _ (by omega) (by omega), nat_join 24 (a * 16777216) (b * 65536) (by omega) (by omega),
    u32_or_nat _ _ (by omega) (by omega), nat_join 16 (a * 16777216 + b * 65536) (c * 256) (by omega) (by omega),
    u32_or_nat _ _ (by omega) (by omega), nat_join 8 (a * 16777216 + b * 65536 + c * 256) d (by omega) (by omega)]
theorem getD_lt256 {p : List Nat} (hp : ∀ x ∈ p, x < 256) (j : Nat) : p.getD j 0 < 256 := by
  rw [List.getD_eq_getElem?_getD]
  cases h : p[j]? with
  | none => decide
  | some x => exact hp x (List.mem_of_getElem? h)
theorem xor_int (a b : Nat) (ha : a < 4294967296) (hb : b < 4294967296) : bits .xor .u32 (a : Int) (b : Int) = ((a ^^^ b : Nat) : Int) := u32_xor_nat a b ha hb
theorem rl {x n : Nat} (hx : x < 4294967296) (hn : n ≤ 31) : Sh.rotr x n < 4294967296 := Sh.rotr_lt hx hn
theorem xl {a b : Nat} (ha : a < 4294967296) (hb : b < 4294967296) : a ^^^ b < 4294967296 := Sh.xor_lt ha hb
theorem sg0_int (x : Nat) (h : x < 4294967296) : bits .xor .u32 (bits .xor .u32 (Sh.rotr x 7 : Nat) (Sh.rotr x 18 : Nat)) ((x : Int) / 8) = ((Sh.sg0 x : Nat) : Int) := by
  rw [show (x : Int) / 8 = ((x / 8 : Nat) : Int) by omega, xor_int _ _ (rl h (by omega)) (rl h (by omega)), xor_int _ _ (xl (rl h (by omega)) (rl h (by omega))) (by omega)]
  rfl
theorem sg1_int (x : Nat) (h : x < 4294967296) : bits .xor .u32 (bits .xor .u32 (Sh.rotr x 17 : Nat) (Sh.rotr x 19 : Nat)) ((x : Int) / 1024) = ((Sh.sg1 x : Nat) : Int) := by
  rw [show (x : Int) / 1024 = ((x / 1024 : Nat) : Int) by omega, xor_int _ _ (rl h (by omega)) (rl h (by omega)), xor_int _ _ (xl (rl h (by omega)) (rl h (by omega))) (by omega)]
  rfl
theorem bg1_int (x : Nat) (h : x < 4294967296) : bits .xor .u32 (bits .xor .u32 (Sh.rotr x 6 : Nat) (Sh.rotr x 11 : Nat)) (Sh.rotr x 25 : Nat) = ((Sh.bg1 x : Nat) : Int) := by
  rw [xor_int _ _ (rl h (by omega)) (rl h (by omega)), xor_int _ _ (xl (rl h (by omega)) (rl h (by omega))) (rl h (by omega))]
  rfl
theorem bg0_int (x : Nat) (h : x < 4294967296) : bits .xor .u32 (bits .xor .u32 (Sh.rotr x 2 : Nat) (Sh.rotr x 13 : Nat)) (Sh.rotr x 22 : Nat) = ((Sh.bg0 x : Nat) : Int) := by
  rw [xor_int _ _ (rl h (by omega)) (rl h (by omega)), xor_int _ _ (xl (rl h (by omega)) (rl h (by omega))) (rl h (by omega))]
  rfl
theorem not_nat (e : Nat) (h : e < 4294967296) : 4294967295 ^^^ e = 4294967295 - e := by
  have h1 : (BitVec.allOnes 32 ^^^ BitVec.ofNat 32 e).toNat = 4294967295 - e := by
    rw [BitVec.allOnes_xor, BitVec.toNat_not, BitVec.toNat_ofNat, Nat.mod_eq_of_lt h]
  rw [BitVec.toNat_xor, BitVec.toNat_ofNat, Nat.mod_eq_of_lt h] at h1
  exact h1
theorem not_int (e : Nat) (h : e < 4294967296) : bits .xor .u32 IntKind.u32.max (e : Int) = ((4294967295 - e : Nat) : Int) := by
  rw [show IntKind.u32.max = ((4294967295 : Nat) : Int) from rfl, xor_int _ _ (by omega) h, not_nat e h]
theorem and_int (a b : Nat) (ha : a < 4294967296) (hb : b < 4294967296) : bits .and .u32 (a : Int) (b : Int) = ((a &&& b : Nat) : Int) := u32_and_nat a b ha hb
theorem al {a : Nat} (b : Nat) (ha : a < 4294967296) : a &&& b < 4294967296 := Sh.and_lt b ha
theorem ch_int (e f g : Nat) (he : e < 4294967296) (hf : f < 4294967296) (hg : g < 4294967296) :
    bits .xor .u32 (bits .and .u32 (e : Int) (f : Int)) (bits .and .u32 (bits .xor .u32 IntKind.u32.max (e : Int)) (g : Int)) = ((Sh.ch e f g : Nat) : Int) := by
  rw [not_int e he, and_int _ _ he hf, and_int _ _ (by omega) hg, xor_int _ _ (al _ he) (al _ (by omega))]
  rfl
theorem maj_int (a b c : Nat) (ha : a < 4294967296) (hb : b < 4294967296) (hc : c < 4294967296) :
    bits .xor .u32 (bits .xor .u32 (bits .and .u32 (a : Int) (b : Int)) (bits .and .u32 (a : Int) (c : Int))) (bits .and .u32 (b : Int) (c : Int)) = ((Sh.maj a b c : Nat) : Int) := by
  rw [and_int _ _ ha hb, and_int _ _ ha hc, and_int _ _ hb hc, xor_int _ _ (al _ ha) (al _ ha), xor_int _ _ (xl (al _ ha) (al _ ha)) (al _ hb)]
  rfl
/-- The first k words of a hash's state written over. -/
def updC (cs : Array Value) (f : Nat → Value) : Nat → Array Value
  | 0 => cs
  | k + 1 => (updC cs f k).setIfInBounds (1 + k) (f k)
theorem updC_size (cs : Array Value) (f : Nat → Value) : ∀ k, (updC cs f k).size = cs.size
  | 0 => rfl
  | k + 1 => by rw [updC, Array.size_setIfInBounds, updC_size cs f k]
theorem updC_in (cs : Array Value) (f : Nat → Value) : ∀ (k j : Nat), j < k → 1 + j < cs.size → (updC cs f k)[1 + j]? = some (f j)
  | 0, j, h, _ => absurd h (by omega)
  | k + 1, j, h, hs => by
    rw [updC, Array.getElem?_setIfInBounds]
    by_cases e : 1 + k = 1 + j
    · obtain rfl : k = j := by omega
      rw [if_pos rfl, if_pos (by rw [updC_size]; exact hs)]
    · rw [if_neg e]; exact updC_in cs f k j (by omega) hs
theorem updC_out (cs : Array Value) (f : Nat → Value) : ∀ (k j : Nat), j = 0 ∨ 1 + k ≤ j → (updC cs f k)[j]? = cs[j]?
  | 0, j, _ => rfl
  | k + 1, j, h => by
    rw [updC, Array.getElem?_setIfInBounds, if_neg (by omega)]
    exact updC_out cs f k j (by omega)
theorem updC_hc {cs : Array Value} {s S : Sh.St} {p : List Nat} {n : Nat} (h : HC cs s p n) (f : Nat → Value) (hf : ∀ j, j < 8 → f j = vU (S.l.getD j 0)) : HC (updC cs f 8) S p n where
  size := by rw [updC_size]; exact h.size
  begun := by rw [updC_out _ _ _ _ (Or.inl rfl)]; exact h.begun
  state := fun j hj => by rw [updC_in cs f 8 j hj (by rw [h.size]; omega), hf j hj]
  part := fun j hj => by rw [updC_out _ _ _ _ (Or.inr (by omega))]; exact h.part j hj
  len := by rw [updC_out _ _ _ _ (Or.inr (by omega))]; exact h.len
theorem plus_l (s v : Sh.St) (j : Nat) (hj : j < 8) : (Sh.plus s v).l.getD j 0 = (s.l.getD j 0 + v.l.getD j 0) % Sh.M := by
  rcases j with _ | _ | _ | _ | _ | _ | _ | _ | j
  all_goals first | rfl | omega
/-- A word of a state and one of another, added. -/
def plusV (s R : Sh.St) (j : Nat) : Value := vU ((s.l.getD j 0 + R.l.getD j 0) % Sh.M)
theorem round_cells (a b c d e f g h vk vw q1 q2 : Nat) (h1 : q1 = Sh.bg1 e) (h2 : q2 = Sh.ch e f g) :
    (((((((((Array.mk ((Sh.St.l ⟨a, b, c, d, e, f, g, h⟩).map vU)).setIfInBounds 0 (.int .u32 (((h : Int) + q1 + q2 + vk + vw + (Sh.bg0 a : Nat) + (Sh.maj a b c : Nat)) % 4294967296))).setIfInBounds 1 (vU a)).setIfInBounds 2 (vU b)).setIfInBounds 3 (vU c)).setIfInBounds 4 (.int .u32 (((d : Int) + ((h : Int) + q1 + q2 + vk + vw)) % 4294967296))).setIfInBounds 5 (vU e)).setIfInBounds 6 (vU f)).setIfInBounds 7 (vU g)) = Array.mk ((Sh.rnd ⟨a, b, c, d, e, f, g, h⟩ vk vw).l.map vU) := by
  have e1 : ((h : Int) + q1 + q2 + vk + vw + (Sh.bg0 a : Nat) + (Sh.maj a b c : Nat)) % 4294967296 = (((Sh.first ⟨a, b, c, d, e, f, g, h⟩ vk vw + Sh.second ⟨a, b, c, d, e, f, g, h⟩) % Sh.M : Nat) : Int) := by
    unfold Sh.first Sh.second Sh.M
    simp only
    rw [← h1, ← h2]
    generalize Sh.bg0 a = y1
    generalize Sh.maj a b c = y2
    omega
  have e2 : ((d : Int) + ((h : Int) + q1 + q2 + vk + vw)) % 4294967296 = (((d + Sh.first ⟨a, b, c, d, e, f, g, h⟩ vk vw) % Sh.M : Nat) : Int) := by
    unfold Sh.first Sh.M
    simp only
    rw [← h1, ← h2]
    omega
  rw [e1, e2]
  simp only [Sh.rnd, Sh.St.l, List.map_cons, List.map_nil, List.setIfInBounds_toArray, List.set_cons_zero, List.set_cons_succ]
theorem vU_add (x y : Nat) : vU ((x + y) % Sh.M) = .int .u32 (((x : Int) + y) % 4294967296) := by
  show Value.int .u32 (((x + y) % 4294967296 : Nat) : Int) = _
  congr 1
theorem row_at (R : Sh.St) (j : Nat) (hj : j < 8) : (Array.mk (R.l.map vU))[j]? = some (vU (R.l.getD j 0)) := by
  rcases j with _ | _ | _ | _ | _ | _ | _ | _ | j
  all_goals first | omega | simp [Sh.St.l]
theorem ok_lt {s : Sh.St} (h : s.ok) (j : Nat) : s.l.getD j 0 < 4294967296 := by
  obtain ⟨h0, h1, h2, h3, h4, h5, h6, h7⟩ := h
  unfold Sh.M at *
  rcases j with _ | _ | _ | _ | _ | _ | _ | _ | j
  all_goals first | assumption | (simp [Sh.St.l])
/-- One word more. -/
theorem more_words {ds : Array Value} {v : Nat → Nat} {k : Nat} (hk : k < ds.size) (hW : ∀ j, j < k → ds[j]? = some (vU (v j))) (x : Value) (hx : x = vU (v k)) :
    ∀ j, j < k + 1 → (ds.setIfInBounds k x)[j]? = some (vU (v j)) := by
  intro j hj
  rw [Array.getElem?_setIfInBounds]
  by_cases h : k = j
  · subst h; rw [if_pos rfl, if_pos hk, hx]
  · rw [if_neg h]; exact hW j (by omega)
set_option maxRecDepth 100000 in
set_option maxHeartbeats 4000000 in
theorem mix_any (h n : Nat) (cs : Array Value) (s : Sh.St) (p : List Nat) (w : World) (hb : Bk w h 86 cs) (hc : HC cs s p n) (hs : s.ok) (hp : ∀ x ∈ p, x < 256) (hpl : p.length = 64) (hT : Tb w) :
    Calls Tryd.prog 59 #[.pointer (some ⟨h, 0, none⟩)] w fun e w' => e = .returned (.tuple #[]) ∧ w.grownBy w' (some h) ∧ ∃ cs', Bk w' h 86 cs' ∧ HC cs' (Sh.comp s p) p n := by
  have cell : ∀ j, w.cell? ⟨h, j, none⟩ = cs[j]? := fun j => hb.cell j
  have hlt := hb.lt
  go_enter Tryd.func59, Tryd.ntmps59
  go_wp2_with fail
  go_loopw [21] (fun i wr => ∃ k : Nat, k ≤ 16 ∧ i = .int .i64 k ∧ Hid (Below w.heap.size w wr) ∧ ∃ ds : Array Value, Hid (Bk wr w.heap.size 88 ds) ∧ ds.size = 64 ∧ Hid (∀ j, j < k → ds[j]? = some (vU (Sh.ws p j)))) (fun i _ => 16 - (intOf i).toNat)
  case atStart => exact ⟨0, by omega, rfl, (Below.refl _ _).alloc (Nat.le_refl _) _, _, Bk.fresh w _ _, rfl, fun j hj => absurd hj (by omega)⟩
  case round =>
    obtain ⟨k, hk, rfl, hB, ds, hD, hds, hW⟩ := hrel
    by_cases hk16 : k < 16
    · have hBh := hb.below hB.out hlt
      have c0 : wr.cell? ⟨h, 9 + 4 * k, none⟩ = some (.int .u8 (p.getD (4 * k) 0 : Nat)) := (hBh.cell _).trans (hc.part (4 * k) (by omega))
      have c1 : wr.cell? ⟨h, 9 + (4 * k + 1), none⟩ = some (.int .u8 (p.getD (4 * k + 1) 0 : Nat)) := (hBh.cell _).trans (hc.part (4 * k + 1) (by omega))
      have c2 : wr.cell? ⟨h, 9 + (4 * k + 2), none⟩ = some (.int .u8 (p.getD (4 * k + 2) 0 : Nat)) := (hBh.cell _).trans (hc.part (4 * k + 2) (by omega))
      have c3 : wr.cell? ⟨h, 9 + (4 * k + 3), none⟩ = some (.int .u8 (p.getD (4 * k + 3) 0 : Nat)) := (hBh.cell _).trans (hc.part (4 * k + 3) (by omega))
      have l0 := getD_lt256 hp (4 * k); have l1 := getD_lt256 hp (4 * k + 1); have l2 := getD_lt256 hp (4 * k + 2); have l3 := getD_lt256 hp (4 * k + 3)
      have hwd : Hid (vU (p.getD (4 * k) 0 * 16777216 + p.getD (4 * k + 1) 0 * 65536 + p.getD (4 * k + 2) 0 * 256 + p.getD (4 * k + 3) 0) = vU (Sh.ws p k)) := by
        show _ = _
        rw [Sh.ws_low p k hk16]; rfl
      generalize p.getD (4 * k) 0 = y0 at *
      generalize p.getD (4 * k + 1) 0 = y1 at *
      generalize p.getD (4 * k + 2) 0 = y2 at *
      generalize p.getD (4 * k + 3) 0 = y3 at *
      have hbs : Hid (∀ W, W = wr → Bk W w.heap.size 88 ds) := fun W e => by rw [e]; exact hD.out
      have cD : ∀ i, (wr.cell? ⟨w.heap.size, i, none⟩) = ds[i]? := fun i => hD.out.cell i
      have fD : wr.frozen? ⟨w.heap.size, k, none⟩ = false := hD.out.frozen k
      have cK : wr.cell? ⟨w.heap.size, k, none⟩ = some (ds[k]'(by omega)) := by rw [cD k]; exact Array.getElem?_eq_getElem (by omega)
      clear cD
      go_wp2_with fail
      refine Lex.wp_region_drawn 0 43 (by kernel_rfl) (by kernel_rfl) ?_
      simp only [List.take_succ_cons, List.take_zero, List.drop_succ_cons, List.drop_zero, Lex.moved, Lex.movOf, Act.put, Act.eval, List.setIfInBounds_toArray, List.set_cons_zero, List.set_cons_succ, Lex.getD_zero, Lex.getD_succ]
      repeat (go_big_quiet_step (fail))
      refine wpQuiet_nil ?_
      intro _ hw'
      obtain ⟨nq, hw''⟩ := hw'
      subst hw''
      go_wp2_with fail
      refine NoPanic.normal ?_
      go_wp2_with fail
      go_roundw
      case rel =>
        refine ⟨k + 1, by omega, by go_num, ?_, _, hD.out.put k _, ?_, more_words (by omega) hW.out _ ?_⟩
        · exact below_one (below_drawn hB.out nq) (one_put (one_refl _ _) k _) hB.out.size (fun g hg => by cases hg; exact Nat.le_refl _)
        · simpa using hds
        · rw [word_int y0 y1 y2 y3 l0 l1 l2 l3]; exact hwd.out
      case measure => simp [intOf]; omega
    · obtain rfl : k = 16 := by omega
      go_wp2_with fail
      go_loopw [4] (fun i wr => ∃ k : Nat, 16 ≤ k ∧ k ≤ 64 ∧ i = .int .i64 k ∧ Hid (Below w.heap.size w wr) ∧ ∃ ds : Array Value, Hid (Bk wr w.heap.size 88 ds) ∧ ds.size = 64 ∧ Hid (∀ j, j < k → ds[j]? = some (vU (Sh.ws p j)))) (fun i _ => 64 - (intOf i).toNat)
      case atStart => exact ⟨16, by omega, by omega, rfl, hB, ds, hD, hds, hW⟩
      case round =>
        clear hB hD hds hW
        obtain ⟨k, hk0, hk, rfl, hB, ds, hD, hds, hW⟩ := hrel
        by_cases hk64 : k < 64
        · have hcell : ∀ i, i < k → wr.cell? ⟨w.heap.size, i, none⟩ = some (vU (Sh.ws p i)) := fun i hi => (hD.out.cell i).trans (hW.out i hi)
          have hws : Hid (vU (Sh.ws p k) = vU ((Sh.ws p (k - 16) + Sh.sg0 (Sh.ws p (k - 15)) + Sh.ws p (k - 7) + Sh.sg1 (Sh.ws p (k - 2))) % Sh.M)) := by
            show _ = _
            rw [Sh.ws_high p k hk0 hk64]
          have c1 := hcell (k - 15) (by omega)
          have c2 := hcell (k - 2) (by omega)
          have c3 := hcell (k - 16) (by omega)
          have c4 := hcell (k - 7) (by omega)
          have l1 := Sh.ws_lt hp (k - 15) (by omega)
          have l2 := Sh.ws_lt hp (k - 2) (by omega)
          have l3 := Sh.ws_lt hp (k - 16) (by omega)
          have l4 := Sh.ws_lt hp (k - 7) (by omega)
          clear hcell
          unfold Sh.M at l1 l2 l3 l4
          generalize Sh.ws p (k - 15) = x at *
          generalize Sh.ws p (k - 2) = y at *
          generalize Sh.ws p (k - 16) = z at *
          generalize Sh.ws p (k - 7) = v at *
          have fD : wr.frozen? ⟨w.heap.size, k, none⟩ = false := hD.out.frozen k
          have cK : wr.cell? ⟨w.heap.size, k, none⟩ = some (ds[k]'(by omega)) := by rw [hD.out.cell k]; exact Array.getElem?_eq_getElem (by omega)
          have t1 : ((k : Int) - 15).toNat = k - 15 := by omega
          have t2 : ((k : Int) - 2).toNat = k - 2 := by omega
          have t3 : ((k : Int) - 16).toNat = k - 16 := by omega
          have t4 : ((k : Int) - 7).toNat = k - 7 := by omega
          have q1 : IntKind.i64.wrap ((k : Int) - 15) = (k : Int) - 15 := IntWalk.i64_in _ (by omega)
          have q2 : IntKind.i64.wrap ((k : Int) - 2) = (k : Int) - 2 := IntWalk.i64_in _ (by omega)
          have q3 : IntKind.i64.wrap ((k : Int) - 16) = (k : Int) - 16 := IntWalk.i64_in _ (by omega)
          have q4 : IntKind.i64.wrap ((k : Int) - 7) = (k : Int) - 7 := IntWalk.i64_in _ (by omega)
          have W := Lib.hid (And.intro q3 q4)
          clear q3 q4
          go_wp2_with fail
          go_quiet (fail)
          clear q1 q2
          have S0 := Lib.hid (sg0_int x l1)
          have S1 := Lib.hid (sg1_int y l2)
          have L0 := Sh.sg0_lt (x := x) l1
          have L1 := Sh.sg1_lt (x := y) l2
          unfold Sh.M at L0 L1
          go_wp2_with fail
          refine (rot_at (-7) x 7 _ l1 (by omega) (by omega) rfl).mono ?_
          rintro e _ ⟨rfl, rfl⟩
          go_wp2_with fail
          refine (rot_at (-18) x 18 _ l1 (by omega) (by omega) rfl).mono ?_
          rintro e _ ⟨rfl, rfl⟩
          go_wp2_with fail
          rw [S0.out]
          generalize Sh.sg0 x = sx at *
          refine (rot_at (-17) y 17 _ l2 (by omega) (by omega) rfl).mono ?_
          rintro e _ ⟨rfl, rfl⟩
          go_wp2_with fail
          refine (rot_at (-19) y 19 _ l2 (by omega) (by omega) rfl).mono ?_
          rintro e _ ⟨rfl, rfl⟩
          go_wp2_with fail
          rw [S1.out]
          generalize Sh.sg1 y = sy at *
          obtain ⟨q3, q4⟩ := W.out
          refine Lex.wp_region_drawn 0 15 (by kernel_rfl) (by kernel_rfl) ?_
          simp only [List.take_succ_cons, List.take_zero, List.drop_succ_cons, List.drop_zero, Lex.moved, Lex.movOf, Act.put, Act.eval, List.setIfInBounds_toArray, List.set_cons_zero, List.set_cons_succ, Lex.getD_zero, Lex.getD_succ]
          repeat (go_big_quiet_step (fail))
          refine wpQuiet_nil ?_
          intro _ hw'
          obtain ⟨nq2, hw''⟩ := hw'
          subst hw''
          clear q3 q4
          go_wp2_with fail
          refine NoPanic.normal ?_
          go_wp2_with fail
          go_roundw
          case rel =>
            (repeat apply Exists.intro)
            refine ⟨?rel2, rfl⟩
            case rel2 =>
              refine ⟨k + 1, by omega, by omega, by go_num, ?_, _, (hD.out.drawn _).put k _, ?_, more_words (by omega) hW.out _ ?_⟩
              · exact below_one (below_drawn hB.out _) (one_put (one_refl _ _) k _) hB.out.size (fun g hg => by cases hg; exact Nat.le_refl _)
              · simpa using hds
              · rw [hws.out]
                unfold vU Sh.M
                congr 1
                try omega
          all_goals (simp [intOf]; omega)
        · obtain rfl : k = 64 := by omega
          have hBh := hb.below hB.out hlt
          have st : ∀ j, j < 8 → wr.cell? ⟨h, 1 + j, none⟩ = some (vU (s.l.getD j 0)) := fun j hj => (hBh.cell _).trans (hc.state j hj)
          have st0 : wr.cell? ⟨h, 1, none⟩ = some (vU s.a) := st 0 (by omega)
          have st1 : wr.cell? ⟨h, 2, none⟩ = some (vU s.b) := st 1 (by omega)
          have st2 : wr.cell? ⟨h, 3, none⟩ = some (vU s.c) := st 2 (by omega)
          have st3 : wr.cell? ⟨h, 4, none⟩ = some (vU s.d) := st 3 (by omega)
          have st4 : wr.cell? ⟨h, 5, none⟩ = some (vU s.e) := st 4 (by omega)
          have st5 : wr.cell? ⟨h, 6, none⟩ = some (vU s.f) := st 5 (by omega)
          have st6 : wr.cell? ⟨h, 7, none⟩ = some (vU s.g) := st 6 (by omega)
          have st7 : wr.cell? ⟨h, 8, none⟩ = some (vU s.h) := st 7 (by omega)
          obtain ⟨g, hg⟩ : ∃ g, g = w.heap.size := ⟨_, rfl⟩
          have hwg : Hid (∀ j, j < 64 → wr.cell? ⟨g, j, none⟩ = some (vU (Sh.ws p j))) := fun j hj => by rw [hg]; exact (hD.out.cell j).trans (hW.out j hj)
          have hglt : g < wr.heap.size := by rw [hg]; exact hD.out.lt
          have hrk : Hid (∀ j, j < 64 → wr.cell? ⟨2, j, none⟩ = some (vU (Sh.kk j))) := fun j hj => ((bcell hB.out).1 _ j (World.block_lt_of_cell? w _ (hT.rnd j hj))).trans (hT.rnd j hj)
          have hwB : Hid (Below w.heap.size w wr) := hB
          rw [← hg] at hB hD ⊢
          have HG := Lib.hid hg
          clear hg
          go_wp2_with fail
          obtain ⟨wy, rfl⟩ : ∃ wy : World, wy = wr := ⟨_, rfl⟩
          go_loopw [115] (fun i wq => ∃ k : Nat, k ≤ 64 ∧ i = .int .i64 k ∧ Hid (Below wy.heap.size wy wq) ∧ Hid (Bk wq wy.heap.size 80 (Array.mk ((Sh.rounds s p k).l.map vU)))) (fun i _ => 64 - (intOf i).toNat)
          case atStart =>
            refine ⟨0, by omega, rfl, ?_, ?_⟩
            · exact (Below.refl _ _).alloc (Nat.le_refl _) _
            · exact Bk.fresh wy _ _
          case round =>
            clear hB
            obtain ⟨k, hk, rfl, hB2, hD2⟩ := hrel
            by_cases hk64 : k < 64
            · have hS := Sh.rounds_ok hs p k
              have hnx : Hid (Sh.rounds s p (k + 1) = Sh.rnd (Sh.rounds s p k) (Sh.kk k) (Sh.ws p k)) := rfl
              have lw := Sh.ws_lt hp k hk64
              have lk := Sh.kk_lt k hk64
              have cw : wr.cell? ⟨g, k, none⟩ = some (vU (Sh.ws p k)) := ((bcell hB2.out).1 g k hglt).trans (hwg.out k hk64)
              have ck : wr.cell? ⟨2, k, none⟩ = some (vU (Sh.kk k)) := ((bcell hB2.out).1 _ k (World.block_lt_of_cell? wy _ (hrk.out k hk64))).trans (hrk.out k hk64)
              generalize Sh.rounds s p k = S at *
              obtain ⟨a, b, c, d, e, f, g', h'⟩ := S
              obtain ⟨la, lb, lc, ld, le, lf, lg, lh⟩ := hS
              simp only at la lb lc ld le lf lg lh
              unfold Sh.M at la lb lc ld le lf lg lh lw lk
              generalize Sh.ws p k = vw at *
              generalize Sh.kk k = vk at *
              have x0 : wr.cell? ⟨wy.heap.size, 0, none⟩ = some (vU a) := hD2.out.cell 0
              have x1 : wr.cell? ⟨wy.heap.size, 1, none⟩ = some (vU b) := hD2.out.cell 1
              have x2 : wr.cell? ⟨wy.heap.size, 2, none⟩ = some (vU c) := hD2.out.cell 2
              have x3 : wr.cell? ⟨wy.heap.size, 3, none⟩ = some (vU d) := hD2.out.cell 3
              have x4 : wr.cell? ⟨wy.heap.size, 4, none⟩ = some (vU e) := hD2.out.cell 4
              have x5 : wr.cell? ⟨wy.heap.size, 5, none⟩ = some (vU f) := hD2.out.cell 5
              have x6 : wr.cell? ⟨wy.heap.size, 6, none⟩ = some (vU g') := hD2.out.cell 6
              have x7 : wr.cell? ⟨wy.heap.size, 7, none⟩ = some (vU h') := hD2.out.cell 7
              have fz : ∀ j, wr.frozen? ⟨wy.heap.size, j, none⟩ = false := hD2.out.frozen
              go_wp2_with fail
              go_quiet (fail)
              go_wp2_with fail
              refine (rot_at (-6) e 6 _ le (by omega) (by omega) rfl).mono ?_
              rintro e' _ ⟨rfl, rfl⟩
              go_wp2_with fail
              refine (rot_at (-11) e 11 _ le (by omega) (by omega) rfl).mono ?_
              rintro e' _ ⟨rfl, rfl⟩
              go_wp2_with fail
              refine (rot_at (-25) e 25 _ le (by omega) (by omega) rfl).mono ?_
              rintro e' _ ⟨rfl, rfl⟩
              go_wp2_with fail
              rw [bg1_int e le, ch_int e f g' le lf lg]
              obtain ⟨q1, hq1⟩ : ∃ q, q = Sh.bg1 e := ⟨_, rfl⟩
              obtain ⟨q2, hq2⟩ : ∃ q, q = Sh.ch e f g' := ⟨_, rfl⟩
              rw [← hq1, ← hq2]
              have HQ := Lib.hid (And.intro hq1 hq2)
              clear hq1 hq2
              obtain ⟨wq, hwq⟩ : ∃ wq : World, wq = wr.drewN nq := ⟨_, rfl⟩
              rw [← hwq]
              have y7 : wq.cell? ⟨wy.heap.size, 7, none⟩ = some (vU h') := by rw [hwq]; exact x7
              have yk : wq.cell? ⟨2, k, none⟩ = some (vU vk) := by rw [hwq]; exact ck
              have yw : wq.cell? ⟨g, k, none⟩ = some (vU vw) := by rw [hwq]; exact cw
              have k0 : (0 : Int) ≤ (k : Int) := by omega
              have k1 : (k : Int) < 64 := by omega
              go_quiet (fail)
              go_wp2_with fail
              refine (rot_at (-2) a 2 _ la (by omega) (by omega) rfl).mono ?_
              rintro e' _ ⟨rfl, rfl⟩
              go_wp2_with fail
              refine (rot_at (-13) a 13 _ la (by omega) (by omega) rfl).mono ?_
              rintro e' _ ⟨rfl, rfl⟩
              go_wp2_with fail
              refine (rot_at (-22) a 22 _ la (by omega) (by omega) rfl).mono ?_
              rintro e' _ ⟨rfl, rfl⟩
              go_wp2_with fail
              rw [bg0_int a la, maj_int a b c la lb lc]
              go_roundw
              case rel =>
                (repeat apply Exists.intro)
                refine ⟨?rel2, rfl⟩
                case rel2 =>
                  refine ⟨k + 1, by omega, by go_num, ?_, ?_⟩
                  · exact ((((((((below_drawn hB2.out _).setCell (Nat.le_refl _) _).setCell (Nat.le_refl _) _).setCell (Nat.le_refl _) _).setCell (Nat.le_refl _) _).setCell (Nat.le_refl _) _).setCell (Nat.le_refl _) _).setCell (Nat.le_refl _) _).setCell (Nat.le_refl _) _
                  · rw [hnx.out, ← round_cells a b c d e f g' h' vk vw q1 q2 HQ.out.1 HQ.out.2]
                    exact ((((((((hD2.out.drawn _).put 0 _).put 1 _).put 2 _).put 3 _).put 4 _).put 5 _).put 6 _).put 7 _
              all_goals (simp [intOf]; omega)
            · obtain rfl : k = 64 := by omega
              have hR := Sh.rounds_ok hs p 64
              have hcomp : Hid (Sh.comp s p = Sh.plus s (Sh.rounds s p 64)) := rfl
              generalize Sh.rounds s p 64 = R at *
              obtain ⟨wz, rfl⟩ : ∃ wz : World, wz = wr := ⟨_, rfl⟩
              have hzB := Lib.hid (hwB.out.trans (hB2.out.mono hwB.out.size))
              have hBz := Lib.hid (hb.below hzB.out hlt)
              have hhy : h < wy.heap.size := Nat.lt_of_lt_of_le hlt hwB.out.size
              go_wp2_with fail
              go_loopw [196] (fun i wq => ∃ k : Nat, k ≤ 8 ∧ i = .int .i64 k ∧ Hid (wz.grownBy wq (some h)) ∧ Hid (Bk wq h 86 (updC cs (plusV s R) k))) (fun i _ => 8 - (intOf i).toNat)
              case atStart => exact ⟨0, by omega, rfl, Lib.hid (one_refl _ _), hBz⟩
              case round =>
                obtain ⟨k, hk, rfl, hG, hU⟩ := hrel
                by_cases hk8 : k < 8
                · have lx := ok_lt hs k
                  have ly := ok_lt hR k
                  have hpv : Hid (plusV s R k = vU ((s.l.getD k 0 + R.l.getD k 0) % Sh.M)) := rfl
                  have cx : wr.cell? ⟨h, 1 + k, none⟩ = some (vU (s.l.getD k 0)) := ((hU.out.cell _).trans (updC_out cs _ k (1 + k) (Or.inr (Nat.le_refl _)))).trans (hc.state k hk8)
                  have cy : wr.cell? ⟨wy.heap.size, k, none⟩ = some (vU (R.l.getD k 0)) := ((hD2.out.grow hG.out (by simp; omega)).cell _).trans (row_at R k hk8)
                  have fx : wr.frozen? ⟨h, 1 + k, none⟩ = false := hU.out.frozen _
                  generalize s.l.getD k 0 = x at *
                  generalize R.l.getD k 0 = y at *
                  go_wp2_with fail
                  refine Lex.wp_region_drawn 0 13 (by kernel_rfl) (by kernel_rfl) ?_
                  simp only [List.take_succ_cons, List.take_zero, List.drop_succ_cons, List.drop_zero, Lex.moved, Lex.movOf, Act.put, Act.eval, List.setIfInBounds_toArray, List.set_cons_zero, List.set_cons_succ, Lex.getD_zero, Lex.getD_succ]
                  repeat (go_big_quiet_step (fail))
                  refine wpQuiet_nil ?_
                  intro _ hw'
                  obtain ⟨nq4, hw''⟩ := hw'
                  subst hw''
                  go_wp2_with fail
                  refine NoPanic.normal ?_
                  go_wp2_with fail
                  go_roundw
                  case rel =>
                    refine ⟨k + 1, by omega, by go_num, ?_, ?_⟩
                    · exact one_put (one_draw hG.out _) _ _
                    · have hput := (hU.out.drawn nq4).put (1 + k) (plusV s R k)
                      rw [show updC cs (plusV s R) (k + 1) = (updC cs (plusV s R) k).setIfInBounds (1 + k) (plusV s R k) from rfl]
                      rw [hpv.out, vU_add] at hput ⊢
                      exact hput
                  case measure => simp [intOf]; omega
                · obtain rfl : k = 8 := by omega
                  go_wp2_with fail
                  go_end0
                  refine ⟨rfl, one_then (one_below hzB.out (some h)) hG.out (Or.inl rfl), _, hU.out, ?_⟩
                  rw [hcomp.out]
                  exact updC_hc hc _ fun j hj => by rw [plus_l s R j hj]; rfl
end Go.Proofs.YtflfmacfodkedaaDoor
