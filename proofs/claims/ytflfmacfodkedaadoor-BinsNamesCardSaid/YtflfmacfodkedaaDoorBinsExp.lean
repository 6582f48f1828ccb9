/-
  The walks of slices.Clone for strings and of bins.Expand, where there are delegations.
-/
import Derived.Test.YtflfmacfodkedaaDoorBinsTexts
import Derived.Test.YtflfmacfodkedaaDoorFirst
import Derived.Test.YtflfmacfodkedaaDoorLex
import Derived.Deep.MidRow
namespace Go.Proofs.YtflfmacfodkedaaDoor
set_option linter.unusedSimpArgs false
set_option linter.unusedVariables false
open Go Go.RowKit

theorem own_drawn {w : World} {B n : Nat} {e : TypeId} {size : Nat} {v : Value} {xs : List Value} (h : w.ownsRow B e size v n xs) (k : Nat) : (w.drewN k).ownsRow B e size v n xs := h
theorem own_mono {w : World} {B B' n : Nat} {e : TypeId} {size : Nat} {v : Value} {xs : List Value} (h : w.ownsRow B e size v n xs) (hb : B' ≤ B) : w.ownsRow B' e size v n xs :=
  ⟨h.1, h.2.imp id fun ⟨g, cap, cur, h1, h2, h3⟩ => ⟨g, cap, cur, h1, Nat.le_trans hb h2, h3⟩⟩
theorem own_slice {w : World} {B n : Nat} {e : TypeId} {size : Nat} {v : Value} {xs : List Value} (h : w.ownsRow B e size v n xs) : ∃ a l c, v = .slice a l c := by
  rcases h.2 with ⟨rfl, _⟩ | ⟨g, cap, cur, rfl, _⟩ <;> exact ⟨_, _, _, rfl⟩
theorem own_keep {w w' : World} {B n : Nat} {e : TypeId} {size : Nat} {v : Value} {xs : List Value} (h : w.ownsRow B e size v n xs) (hb : Below w.heap.size w w') : w'.ownsRow B e size v n xs :=
  h.kept (one_below hb none) (by cases v.ownBlock <;> simp)
set_option maxRecDepth 20000 in
set_option maxHeartbeats 1000000 in
theorem sclone_any (A : Option Addr) (ls : List ByteArray) (cap : Nat) (w : World) (hc : Strs w A ls) (hl : ls.length ≤ 1000000) :
    Calls Tryd.prog 49 #[.slice A ls.length cap] w fun e w' => ∃ v, e = .returned v ∧ w'.ownsRow w.heap.size 9 1 v ls.length (strsL ls) ∧ Below w.heap.size w w' := by
  obtain ⟨i0, hi0, hz0, hz1, hz2⟩ := info_parts info_str
  cases A with
  | none =>
    obtain rfl : ls = [] := by
      cases ls with
      | nil => rfl
      | cons x r => obtain ⟨a, e, _⟩ := hc 0 (by simp); cases e
    have q24 : ∀ (w : World) (a : Option Addr) (n c n' c' : Nat), (binOp .eql 22 (.slice a n c) (.slice none n' c')).run Tryd.prog w = .ok (.bool a.isNone) w := fun w a n c n' c' => Lib.run_eql_slice_nil w _ _ a n c n' c' Tryd.underlying22
    go_enter Tryd.func49, Tryd.ntmps49
    go_wp2_with fail
    go_ret
    exact ⟨_, rfl, World.ownsRow_nil _ _ _ _, Below.refl _ _⟩
  | some a =>
    have HC := Lib.hid hc
    clear hc
    have q24 : ∀ (w : World) (a : Option Addr) (n c n' c' : Nat), (binOp .eql 22 (.slice a n c) (.slice none n' c')).run Tryd.prog w = .ok (.bool a.isNone) w := fun w a n c n' c' => Lib.run_eql_slice_nil w _ _ a n c n' c' Tryd.underlying22
    go_enter Tryd.func49, Tryd.ntmps49
    go_wp2_with (at_builtin; refine wpList_append_own _ rfl _ _ _ rfl w.heap.size 9 i0 _ 1 16 Tryd.underlying22 hi0 hz0 hz1 hz2 rfl (by omega) _ _ _ rfl (World.ownsRow_made w #[] 0 (Nat.le_refl _) (Nat.zero_le _) rfl) a ls.length cap (strsL ls) rfl ?qc1 ?qc2 ?qc3 ?qc4 ?qc5 ?qc6 ?_)
    case qc1 => unfold strsL; rw [List.length_map]; omega
    case qc2 =>
      intro j u hj
      have hjl : j < ls.length := by
        have := (List.getElem?_eq_some_iff.1 hj).1
        unfold strsL at this
        rwa [List.length_map] at this
      obtain ⟨a', e, hb, hc⟩ := HC.out j hjl
      cases e
      have e2 : u = .string (ls.getD j ByteArray.empty) := by
        unfold strsL at hj
        rw [List.getElem?_map, List.getElem?_eq_getElem hjl] at hj
        rw [List.getD_eq_getElem?_getD, List.getElem?_eq_getElem hjl]
        exact (Option.some.inj hj).symm
      rw [e2]
      exact Lib.cell?_alloc_some _ hc
    case qc3 => intro u hu; obtain ⟨x, _, rfl⟩ := List.mem_map.1 hu; rfl
    case qc4 => unfold maxLen; omega
    case qc5 => omega
    case qc6 => simp
    intro v' w1 hown hgrow hnil
    go_wp2_with fail
    go_ret
    exact ⟨_, rfl, by simpa using hown, ((Below.refl _ w).alloc (Nat.le_refl _) _).grown hgrow (by simp) (by intro k hk; simp [Value.ownBlock] at hk; omega)⟩

/-- 'make([]T, n)' of whatever cells: the block is new, and its size known. -/
theorem wpList_make_wide {P : Program} (w : World) {ops : Array Oper} {rest : List Oper} {o : Oper} {a : Act} {Q : Exit → Act → World → Prop}
    (hg : o.guard = none) (l c : Operand) (t : TypeId) (hop : o.op = Op.makeSlice t l c)
    (e : TypeId) (z : Value) (size bytes : Nat) (ht : P.underlying t = some (.slice e)) (hinfo : (P.info? e).map (fun i => (i.zero, i.size, i.bytes)) = some (some z, size, bytes))
    (kl kc : IntKind) (L : Int) (n : Nat) (hl : a.eval l = .int kl L) (hc : a.eval c = .int kc L) (hL : L = (n : Int)) (b2 : bytes * n ≤ 281474976710656) (b3 : n ≤ 9223372036854775807)
    (hK : ∀ w' b cs, b = w.heap.size → w'.heap.size = b + 1 → cs.size = n * size → Bk w' b e cs → w.grownBy w' none → wpList P ops Q rest (a.put o.dst (.slice (some ⟨b, 0, none⟩) n n)) w') :
    wpList P ops Q (o :: rest) a w := by
  obtain ⟨i, hi, hzz⟩ := Option.map_eq_some_iff.1 hinfo
  simp only [Prod.mk.injEq] at hzz
  obtain ⟨hz, hs, hb⟩ := hzz
  refine wpList_plain hg fun K hK' => ?_
  subst hL
  have hb' : (i.bytes : Int) * (n : Int) ≤ 281474976710656 := by
    have h : ((i.bytes * n : Nat) : Int) ≤ 281474976710656 := by rw [hb]; omega
    rwa [Int.natCast_mul] at h
  have hrun := run_make (P := P) w t e i z ht hi hz kl kc n n (by omega) (Int.le_refl _) hb' (by omega)
  simp only [Int.toNat_natCast, hs] at hrun
  unfold Oper.wp
  simp [execOp, hop, hl, hc, hrun, Result.andThen]
  exact hK' _ _ (hK _ _ _ rfl (by simp) (by simp [madeCells]) (Bk.fresh w e _) (World.grownBy_alloc w _ none))
theorem Bk.puts {g : Nat} {t : TypeId} : ∀ (vs : List Value) (o : Nat) (w : World) (cs : Array Value), Bk w g t cs → ∃ cs', Bk (w.setCells g o vs) g t cs' ∧ cs'.size = cs.size
  | [], _, _, cs, h => ⟨cs, h, rfl⟩
  | v :: r, o, w, cs, h => by
    obtain ⟨cs', h1, h2⟩ := Bk.puts r (o + 1) _ _ (h.put o v)
    exact ⟨cs', h1, by rw [h2, Array.size_setIfInBounds]⟩
theorem one_puts {a : World} {g : Nat} : ∀ (vs : List Value) (o : Nat) (w : World), a.grownBy w (some g) → a.grownBy (w.setCells g o vs) (some g)
  | [], _, _, h => h
  | v :: r, o, w, h => one_puts r (o + 1) _ (one_put h o v)
theorem range_below {w w' : World} {b o : Nat} {cs : List Value} (h : w.rangeAt b o cs) (hb : Below w.heap.size w w') (hlt : b < w.heap.size) : w'.rangeAt b o cs := fun j v hv => (hb.cell (p := ⟨b, o + j, none⟩) hlt).trans (h j v hv)
theorem there_of {w : World} {g o n : Nat} {t : TypeId} {cs : Array Value} (h : Bk w g t cs) (hn : o + n ≤ cs.size) : w.there g o n := fun j hj =>
  ⟨by rw [h.cell, Array.getElem?_eq_getElem (by omega)]; rfl, h.frozen _⟩

/-! ### Delegations -/
/-- The cells of a delegation. -/
def dlC (p : ByteArray) (th : Int) (k : Nat) (v u : Value) (j : Nat) : List Value := [.string (Bn.roleT k p j), .int .i64 th, v, .bool true, .slice none 0 0, u]
/-- The first i delegations are laid. -/
structure Dq (p : ByteArray) (th : Int) (ids : List ByteArray) (k g i : Nat) (V U : Nat → Value) (wr : World) : Prop where
  blk : ∃ cs, Bk wr g 51 cs ∧ cs.size = 2 ^ k * 6
  cells : ∀ j, j < i → wr.rangeAt g (6 * j) (dlC p th k (V j) (U j) j)
  ids : ∀ j, j < i → wr.ownsRow (g + 1) 9 1 (V j) ids.length (strsL ids)
  pre : ∀ j, j < i → wr.ownsRow (g + 1) 9 1 (U j) (Bn.prefs k j).length (strsL (Bn.prefs k j))
theorem Dq.below {p : ByteArray} {th : Int} {ids : List ByteArray} {k g i : Nat} {V U : Nat → Value} {wr w' : World} (h : Dq p th ids k g i V U wr) (hb : Below wr.heap.size wr w') : Dq p th ids k g i V U w' := by
  obtain ⟨⟨cs, h1, h2⟩, h3, h4, h5⟩ := h
  exact ⟨⟨cs, h1.below hb h1.lt, h2⟩, fun j hj => range_below (h3 j hj) hb h1.lt, fun j hj => own_keep (h4 j hj) hb, fun j hj => own_keep (h5 j hj) hb⟩
theorem Dq.drawn {p : ByteArray} {th : Int} {ids : List ByteArray} {k g i : Nat} {V U : Nat → Value} {wr : World} (h : Dq p th ids k g i V U wr) (n : Nat) : Dq p th ids k g i V U (wr.drewN n) := by
  obtain ⟨⟨cs, h1, h2⟩, h3, h4, h5⟩ := h
  exact ⟨⟨cs, h1.drawn n, h2⟩, fun j hj => h3 j hj, fun j hj => own_drawn (h4 j hj) n, fun j hj => own_drawn (h5 j hj) n⟩
theorem Dq.next {p : ByteArray} {th : Int} {ids : List ByteArray} {k g i : Nat} {V U : Nat → Value} {wr : World} {v u : Value} (h : Dq p th ids k g i V U wr) (hi : i < 2 ^ k) (hv : wr.ownsRow (g + 1) 9 1 v ids.length (strsL ids))
    (hu : wr.ownsRow (g + 1) 9 1 u (Bn.prefs k i).length (strsL (Bn.prefs k i))) : Dq p th ids k g (i + 1) (fun j => if j = i then v else V j) (fun j => if j = i then u else U j) (wr.setCells g (6 * i) (dlC p th k v u i)) := by
  obtain ⟨⟨cs, h1, h2⟩, h3, h4, h5⟩ := h
  obtain ⟨cs', k1, k2⟩ := Bk.puts (dlC p th k v u i) (6 * i) wr cs h1
  have hg : wr.grownBy (wr.setCells g (6 * i) (dlC p th k v u i)) (some g) := one_puts _ _ _ (one_refl _ _)
  have hne : ∀ {x : Value} {n : Nat} {xs : List Value}, wr.ownsRow (g + 1) 9 1 x n xs → x.ownBlock = none ∨ x.ownBlock ≠ some g := fun hx => by
    right
    intro e
    have := (hx.lt g e).1
    omega
  refine ⟨⟨cs', k1, by rw [k2, h2]⟩, fun j hj => ?_, fun j hj => ?_, fun j hj => ?_⟩
  · by_cases e : j = i
    · subst e
      simp only [if_true]
      exact World.rangeAt_setCells_same wr g (6 * j) _ (there_of h1 (by show 6 * j + 6 ≤ _; omega))
    · simp only [if_neg e]
      exact World.rangeAt_setCells_apart (h3 j (by omega)) _ _ _ (.inr (.inl (by show 6 * j + 6 ≤ _; omega)))
  · by_cases e : j = i
    · subst e; simp only [if_true]; exact hv.kept hg (hne hv)
    · simp only [if_neg e]; exact (h4 j (by omega)).kept hg (hne (h4 j (by omega)))
  · by_cases e : j = i
    · subst e; simp only [if_true]; exact hu.kept hg (hne hu)
    · simp only [if_neg e]; exact (h5 j (by omega)).kept hg (hne (h5 j (by omega)))
theorem fa_bins (g : Nat) (W : World) : (Instr.fieldAt 34 (.pointer (some ⟨g, 0, none⟩)) 0).run Tryd.prog W = .ok (.pointer (some ⟨g, 0, none⟩)) W := by kernel_rfl
theorem fa_auth0 (g : Nat) (W : World) : (Instr.fieldAt 32 (.pointer (some ⟨g, 0, none⟩)) 0).run Tryd.prog W = .ok (.pointer (some ⟨g, 0, none⟩)) W := by kernel_rfl
theorem fa_auth1 (g : Nat) (W : World) : (Instr.fieldAt 32 (.pointer (some ⟨g, 0, none⟩)) 1).run Tryd.prog W = .ok (.pointer (some ⟨g, 1, none⟩)) W := by kernel_rfl
theorem ix_deleg (g n c j : Nat) (W : World) (h : j < n) : (Instr.indexAt 46 (.slice (some ⟨g, 0, none⟩) n c) (.int .i64 (j : Int))).run Tryd.prog W = .ok (.pointer (some ⟨g, 6 * j, none⟩)) W := by
  have und : Tryd.prog.underlying 46 = some (.slice (Tryd.prog.elem 46)) := by kernel_rfl
  have sz : (sizeOf (Tryd.prog.elem 46)).run Tryd.prog W = .ok 6 W := by kernel_rfl
  rw [run_indexAt_slice W 46 _ _ _ _ _ und]
  simp [Result.andThen, sz, h, Addr.add]
  split
  · obtain rfl : j = 0 := by omega
    rfl
  · rw [Nat.mul_comm]
theorem ld_int (g o : Nat) (v : Value) (W : World) (h : W.cell? ⟨g, o, none⟩ = some v) : (Instr.loadAt 3 (.pointer (some ⟨g, o, none⟩))).run Tryd.prog W = .ok v W := by
  have a3 : (isAgg 3).run Tryd.prog W = .ok false W := by kernel_rfl
  simp [Instr.loadAt, Instr.sureAddr, loadVar, a3, Result.andThen, go_sem, h]
theorem ld_strs (g o : Nat) (v : Value) (W : World) (h : W.cell? ⟨g, o, none⟩ = some v) : (Instr.loadAt 22 (.pointer (some ⟨g, o, none⟩))).run Tryd.prog W = .ok v W := by
  have a3 : (isAgg 22).run Tryd.prog W = .ok false W := by kernel_rfl
  simp [Instr.loadAt, Instr.sureAddr, loadVar, a3, Result.andThen, go_sem, h]
theorem one6 (s : ByteArray) (th : Int) (va : Option Addr) (vn vc : Nat) (ua : Option Addr) (un uc : Nat) : (#[.string s, .int .i64 th, .slice va vn vc, .bool true, .slice none 0 0, .slice ua un uc] : Array Value).all (·.oneCell') = true := by
  simp [Value.oneCell']
theorem info_deleg : (Tryd.prog.info? 51).map (fun i => (i.zero, i.size, i.bytes)) = some (some (.agg #[.string ⟨#[]⟩, .int .i64 0, .slice none 0 0, .bool false, .slice none 0 0, .slice none 0 0]), 6, 104) := by kernel_rfl
theorem deleg_size : (Tryd.prog.info? 51).map (·.size) = some 6 := by kernel_rfl
attribute [local irreducible] Sh.sha shaS Bn.prd Bn.dig Bn.goesS Bn.roleS Bn.roleE Bn.wrong Bn.prefL Bn.binN Bn.isP Bn.bin Bn.be4 Bn.prefs Bn.prefE
/-- What a round needs, and leaves. -/
structure Xq (w : World) (th : Int) (A : Option Addr) (ls : List ByteArray) (cap k : Nat) (p : ByteArray) (g i : Nat) (wr : World) : Prop where
  bel : Below w.heap.size w wr
  box : Bk wr w.heap.size 34 #[.int .i64 th, .slice A ls.length cap, .int .i64 k, .string p]
  del : ∃ V U, Dq p th ls k g i V U wr
theorem Xq.next {w : World} {th : Int} {A : Option Addr} {ls : List ByteArray} {cap k : Nat} {p : ByteArray} {g i : Nat} {wr : World} {v u : Value} (h : Xq w th A ls cap k p g i wr) (hgw : w.heap.size < g) (hi : i < 2 ^ k) (hv : wr.ownsRow (g + 1) 9 1 v ls.length (strsL ls))
    (hu : wr.ownsRow (g + 1) 9 1 u (Bn.prefs k i).length (strsL (Bn.prefs k i))) : Xq w th A ls cap k p g (i + 1) (wr.setCells g (6 * i) (dlC p th k v u i)) := by
  have hg : wr.grownBy (wr.setCells g (6 * i) (dlC p th k v u i)) (some g) := one_puts _ _ _ (one_refl _ _)
  obtain ⟨V, U, hD⟩ := h.del
  exact ⟨below_one h.bel hg h.bel.size (fun x hx => by cases hx; omega), h.box.grow hg (fun e => by have := Option.some.inj e; omega), _, _, hD.next hi hv hu⟩
theorem Xq.there {w : World} {th : Int} {A : Option Addr} {ls : List ByteArray} {cap k : Nat} {p : ByteArray} {g i : Nat} {wr : World} (h : Xq w th A ls cap k p g i wr) (hi : i < 2 ^ k) : wr.there g (6 * i) 6 := by
  obtain ⟨V, U, hD⟩ := h.del
  obtain ⟨cs, h1, h2⟩ := hD.blk
  exact there_of h1 (by omega)
theorem Xq.below {w : World} {th : Int} {A : Option Addr} {ls : List ByteArray} {cap k : Nat} {p : ByteArray} {g i : Nat} {wr w' : World} (h : Xq w th A ls cap k p g i wr) (hb : Below wr.heap.size wr w') : Xq w th A ls cap k p g i w' :=
  ⟨h.bel.trans (hb.mono h.bel.size), h.box.below hb h.box.lt, h.del.elim fun V h2 => h2.elim fun U h3 => ⟨V, U, h3.below hb⟩⟩

set_option maxRecDepth 20000 in
set_option maxHeartbeats 1000000 in
theorem bExpand_any (th : Int) (k : Nat) (A : Option Addr) (ls : List ByteArray) (cap : Nat) (p : ByteArray) (w : World) (hp : p.size ≤ 1000000) (hw0 : Bn.wrong k p = 0) (h6 : k ≤ 6) (hc : Strs w A ls) (hl : ls.length ≤ 1000000) :
    Calls Tryd.prog 27 #[.agg #[.int .i64 th, .slice A ls.length cap, .int .i64 k, .string p]] w fun e w' => ∃ g V U, e = .returned (.tuple #[.slice (some ⟨g, 0, none⟩) (2 ^ k) (2 ^ k), .int .i64 0]) ∧ w.heap.size ≤ g ∧ Dq p th ls k g (2 ^ k) V U w' ∧ Below w.heap.size w w' := by
  have hk1 : 1 ≤ k := by
    obtain ⟨h, _, _⟩ := Bn.wrong_zero hw0
    have := (Bn.may_iff k).1 h
    omega
  have HC := Lib.hid hc
  clear hc
  have HW := Lib.hid hw0
  have HR : Hid (∀ j, j < 2 ^ k → Bn.roleS k p j = Bn.roleT k p j ∧ Bn.roleE k p j = 0) := fun j hj => ⟨(role_ok hw0 hj).1, (role_ok hw0 hj).2⟩
  have HP : Hid (∀ j, j < 2 ^ k → Bn.prefL k j = Bn.prefs k j ∧ Bn.prefE k j = 0) := fun j hj => prefL_yes hk1 (by omega) hj
  have HN := Lib.hid (fun g i (h : i < 2 ^ k) V U wr v u (hD : Dq p th ls k g i V U wr) hv hu => hD.next (v := v) (u := u) h hv hu)
  have HQ : Hid (∀ g V U i wr, Dq p th ls k g i V U wr → ∃ cs, Bk wr g 51 cs ∧ cs.size = 2 ^ k * 6) := fun g V U i wr h => h.blk
  have hpow : ((2 ^ k : Nat) : Int) = (2 : Int) ^ k := by rw [Int.natCast_pow]; rfl
  have hhi : 2 ^ k ≤ 2 ^ 6 := Nat.pow_le_pow_right (by omega) h6
  have hlo : 0 < 2 ^ k := Nat.two_pow_pos _
  obtain ⟨q, hq⟩ : ∃ q, q = 2 ^ k := ⟨_, rfl⟩
  rw [← hq] at hpow hhi hlo HR HP HQ HN ⊢
  have HQ2 := Lib.hid hq
  have hq64 : q ≤ 64 := hhi
  have hpw := hpow.symm
  clear hq hhi hpow
  go_enter Tryd.func27, Tryd.ntmps27
  go_wp2_with fail
  refine (bWrong_any th k A ls.length cap p _ hp).mono ?_
  rintro e w1 ⟨rfl, hb⟩
  rw [hw0]
  have hk := Lib.hid ((Bk.fresh w 34 #[.int .i64 th, .slice A ls.length cap, .int .i64 k, .string p]).below hb (Bk.fresh w 34 #[.int .i64 th, .slice A ls.length cap, .int .i64 k, .string p]).lt)
  have hB := Lib.hid (((Below.refl w.heap.size w).alloc (Nat.le_refl _) _).trans (hb.mono (by simp)))
  clear hb hw0
  have c2 : w1.cell? ⟨w.heap.size, 2, none⟩ = some (.int .i64 k) := hk.out.cell 2
  go_wp2_with (first
    | (refine wpList_make_wide _ rfl _ _ 46 rfl 51 _ 6 104 Tryd.underlying46 info_deleg _ _ _ q rfl rfl rfl (by omega) (by omega) ?_
       intro wn g cs hg hsz hcs hBk hgr
       have hE : Hid (Xq w th A ls cap k p g 0 wn) := ⟨below_one hB.out hgr hB.out.size (fun g hg => by cases hg), hk.out.grow hgr (by simp), fun _ => undef, fun _ => undef, ⟨cs, hBk, by rw [← HQ2.out]; exact hcs⟩, fun j hj => absurd hj (by omega), fun j hj => absurd hj (by omega), fun j hj => absurd hj (by omega)⟩
       have hgw : w.heap.size < g := by have := hk.out.lt; omega
       clear hg hsz hcs hBk hgr hk hB c2))
  go_loopw [25] (fun i wr => ∃ j : Nat, j ≤ q ∧ i = .int .i64 j ∧ Hid (Xq w th A ls cap k p g j wr)) (fun i _ => q - (intOf i).toNat)
  case atStart => exact ⟨0, by omega, rfl, hE⟩
  case round =>
    clear hE
    obtain ⟨j, hj, rfl, hR⟩ := hrel
    by_cases hlt : j < q
    · have c0 : wr.cell? ⟨w.heap.size, 0, none⟩ = some (.int .i64 th) := hR.out.box.cell 0
      have c1 : wr.cell? ⟨w.heap.size, 1, none⟩ = some (.slice A ls.length cap) := hR.out.box.cell 1
      have c2 : wr.cell? ⟨w.heap.size, 2, none⟩ = some (.int .i64 k) := hR.out.box.cell 2
      have c3 : wr.cell? ⟨w.heap.size, 3, none⟩ = some (.string p) := hR.out.box.cell 3
      obtain ⟨hr1, hr2⟩ := HR.out j hlt
      obtain ⟨hp1, hp2⟩ := HP.out j hlt
      go_wp2_with fail
      refine (bRole_any th k A ls.length cap p j _ hp (by omega)).mono ?_
      rintro e wa ⟨rfl, hb⟩
      rw [hr1, hr2]
      have hR2 := Lib.hid (hR.out.below hb)
      clear hb c0 c1 c2 c3 hR
      have c0 : wa.cell? ⟨w.heap.size, 0, none⟩ = some (.int .i64 th) := hR2.out.box.cell 0
      have c1 : wa.cell? ⟨w.heap.size, 1, none⟩ = some (.slice A ls.length cap) := hR2.out.box.cell 1
      have c2 : wa.cell? ⟨w.heap.size, 2, none⟩ = some (.int .i64 k) := hR2.out.box.cell 2
      have c3 : wa.cell? ⟨w.heap.size, 3, none⟩ = some (.string p) := hR2.out.box.cell 3
      go_wp2_with fail
      refine (bPrefixes_any k j _ (by omega)).mono ?_
      rintro e wb ⟨u, rfl, hown, hb⟩
      rw [hp2]
      rw [hp1] at hown
      have hR3 := Lib.hid (hR2.out.below hb)
      have hgl : g < wa.heap.size := hR2.out.del.elim fun V h2 => h2.elim fun U h3 => h3.blk.elim fun cs h4 => h4.1.lt
      have hO := Lib.hid (own_mono hown (Nat.succ_le_of_lt hgl))
      clear hb c0 c1 c2 c3 hR2 hown hgl
      go_wp2_with fail
      refine Fst.wp_region_heldf (fun W => Bk W w.heap.size 34 #[.int .i64 th, .slice A ls.length cap, .int .i64 k, .string p]) [0, 1, 2, 3, 4, 5, 6, 7, 8, 11] 5 (by kernel_rfl) (by kernel_rfl) hR3.out.box ?_
      refine ⟨_, .inl ⟨rfl, fun W _ => BigFrame.run_move _ rfl W⟩, ?_⟩
      try simp only [Fst.wpFstS, Act.put, Act.eval, List.getD_cons_zero, List.getD_cons_succ, List.setIfInBounds_toArray, List.set_cons_zero, List.set_cons_succ, Lex.getD_zero, Lex.getD_succ]
      refine ⟨_, .inl ⟨rfl, fun W _ => BigFrame.run_move _ rfl W⟩, ?_⟩
      try simp only [Fst.wpFstS, Act.put, Act.eval, List.getD_cons_zero, List.getD_cons_succ, List.setIfInBounds_toArray, List.set_cons_zero, List.set_cons_succ, Lex.getD_zero, Lex.getD_succ]
      refine ⟨_, .inl ⟨rfl, fun W _ => BigFrame.run_move _ rfl W⟩, ?_⟩
      try simp only [Fst.wpFstS, Act.put, Act.eval, List.getD_cons_zero, List.getD_cons_succ, List.setIfInBounds_toArray, List.set_cons_zero, List.set_cons_succ, Lex.getD_zero, Lex.getD_succ]
      refine ⟨.pointer (some ⟨w.heap.size, 0, none⟩), .inl ⟨rfl, fun W hW => ?_⟩, ?_⟩
      · simp only [Act.put, Act.eval, List.getD_cons_zero, List.getD_cons_succ, Lex.getD_zero, Lex.getD_succ, execOp]
        simp [fa_bins, Result.andThen]
      try simp only [Fst.wpFstS, Act.put, Act.eval, List.getD_cons_zero, List.getD_cons_succ, List.setIfInBounds_toArray, List.set_cons_zero, List.set_cons_succ, Lex.getD_zero, Lex.getD_succ]
      refine ⟨.pointer (some ⟨w.heap.size, 0, none⟩), .inl ⟨rfl, fun W hW => ?_⟩, ?_⟩
      · simp only [Act.put, Act.eval, List.getD_cons_zero, List.getD_cons_succ, Lex.getD_zero, Lex.getD_succ, execOp]
        simp [fa_auth0, Result.andThen]
      try simp only [Fst.wpFstS, Act.put, Act.eval, List.getD_cons_zero, List.getD_cons_succ, List.setIfInBounds_toArray, List.set_cons_zero, List.set_cons_succ, Lex.getD_zero, Lex.getD_succ]
      refine ⟨.int .i64 th, .inl ⟨rfl, fun W hW => ?_⟩, ?_⟩
      · simp only [Act.put, Act.eval, List.getD_cons_zero, List.getD_cons_succ, Lex.getD_zero, Lex.getD_succ, execOp]
        simp [ld_int _ _ _ W (hW.cell 0), Result.andThen]
      try simp only [Fst.wpFstS, Act.put, Act.eval, List.getD_cons_zero, List.getD_cons_succ, List.setIfInBounds_toArray, List.set_cons_zero, List.set_cons_succ, Lex.getD_zero, Lex.getD_succ]
      refine ⟨.pointer (some ⟨w.heap.size, 0, none⟩), .inl ⟨rfl, fun W hW => ?_⟩, ?_⟩
      · simp only [Act.put, Act.eval, List.getD_cons_zero, List.getD_cons_succ, Lex.getD_zero, Lex.getD_succ, execOp]
        simp [fa_bins, Result.andThen]
      try simp only [Fst.wpFstS, Act.put, Act.eval, List.getD_cons_zero, List.getD_cons_succ, List.setIfInBounds_toArray, List.set_cons_zero, List.set_cons_succ, Lex.getD_zero, Lex.getD_succ]
      refine ⟨.pointer (some ⟨w.heap.size, 1, none⟩), .inl ⟨rfl, fun W hW => ?_⟩, ?_⟩
      · simp only [Act.put, Act.eval, List.getD_cons_zero, List.getD_cons_succ, Lex.getD_zero, Lex.getD_succ, execOp]
        simp [fa_auth1, Result.andThen]
      try simp only [Fst.wpFstS, Act.put, Act.eval, List.getD_cons_zero, List.getD_cons_succ, List.setIfInBounds_toArray, List.set_cons_zero, List.set_cons_succ, Lex.getD_zero, Lex.getD_succ]
      refine ⟨.slice A ls.length cap, .inl ⟨rfl, fun W hW => ?_⟩, ?_⟩
      · simp only [Act.put, Act.eval, List.getD_cons_zero, List.getD_cons_succ, Lex.getD_zero, Lex.getD_succ, execOp]
        simp [ld_strs _ _ _ W (hW.cell 1), Result.andThen]
      try simp only [Fst.wpFstS, Act.put, Act.eval, List.getD_cons_zero, List.getD_cons_succ, List.setIfInBounds_toArray, List.set_cons_zero, List.set_cons_succ, Lex.getD_zero, Lex.getD_succ]
      refine ⟨_, .inl ⟨rfl, fun W _ => BigFrame.run_move _ rfl W⟩, ?_⟩
      try simp only [Fst.wpFstS, Act.put, Act.eval, List.getD_cons_zero, List.getD_cons_succ, List.setIfInBounds_toArray, List.set_cons_zero, List.set_cons_succ, Lex.getD_zero, Lex.getD_succ]
      obtain ⟨wc, hwc⟩ : ∃ wc : World, wc = { wb with drawn := wb.drawn + 1 } := ⟨_, rfl⟩
      rw [← hwc]
      have hR4 : Hid (Xq w th A ls cap k p g j wc) := by rw [hwc]; exact Lib.hid (hR3.out.below ⟨rfl, rfl, rfl, Nat.le_refl _, fun _ _ => rfl⟩)
      have hO4 := own_drawn hO.out 1
      rw [show wb.drewN 1 = wc from hwc.symm] at hO4
      have hO4 := Lib.hid hO4
      clear hwc hO hR3
      refine Fst.held_one (i := 9) (by kernel_rfl) (by kernel_rfl) ?_
      simp only [List.getD_cons_zero, List.getD_cons_succ]
      go_wp2_with fail
      refine (sclone_any A ls cap _ (HC.out.below hR4.out.bel) hl).mono ?_
      rintro e wd ⟨v, rfl, hown, hb⟩
      have hR5 := Lib.hid (hR4.out.below hb)
      have hO5 := Lib.hid (own_keep hO4.out hb)
      have hgl : g < wc.heap.size := hR4.out.del.elim fun V h2 => h2.elim fun U h3 => h3.blk.elim fun cs h4 => h4.1.lt
      have hV := Lib.hid (own_mono hown (Nat.succ_le_of_lt hgl))
      obtain ⟨va, vn, vc, rfl⟩ := own_slice hown
      obtain ⟨ua, un, uc, rfl⟩ := own_slice hO5.out
      clear hb hown hgl hR4 hO4
      go_wp2_with fail
      refine NoPanic.normal ?_
      show _ ∧ wpAnyH _ _ _ _ _ _ _ _ _
      refine ⟨hR5.out.box, ?_⟩
      refine Fst.held_one (i := 10) (by kernel_rfl) (by kernel_rfl) ?_
      simp only [List.getD_cons_zero, List.getD_cons_succ]
      go_wp2_with fail
      refine NoPanic.normal ?_
      show _ ∧ wpAnyH _ _ _ _ _ _ _ _ _
      refine ⟨hR5.out.box, ?_⟩
      refine Fst.held_one (i := 12) (by kernel_rfl) (by kernel_rfl) ?_
      simp only [List.getD_cons_zero, List.getD_cons_succ]
      go_wp2_with fail
      refine NoPanic.normal ?_
      show _ ∧ wpAnyH _ _ _ _ _ _ _ _ _
      refine ⟨hR5.out.box, ?_⟩
      have hix := fun W => ix_deleg g q q j W hlt
      refine Fst.held_one (i := 13) (by kernel_rfl) (by kernel_rfl) ?_
      simp only [List.getD_cons_zero, List.getD_cons_succ]
      go_wp2_with fail
      refine NoPanic.normal ?_
      show _ ∧ wpAnyH _ _ _ _ _ _ _ _ _
      refine ⟨hR5.out.box, ?_⟩
      refine Fst.held_one (i := 14) (by kernel_rfl) (by kernel_rfl) ?_
      simp only [List.getD_cons_zero, List.getD_cons_succ]
      have hth := hR5.out.there (by rw [← HQ2.out]; exact hlt)
      have hX := Lib.hid (hR5.out.next hgw (by rw [← HQ2.out]; exact hlt) hV.out hO5.out)
      refine wpList_store_mid rfl 51 _ _ rfl g (6 * j) #[.string (Bn.roleT k p j), .int .i64 th, .slice va vn vc, .bool true, .slice none 0 0, .slice ua un uc] rfl rfl hth deleg_size (one6 _ _ _ _ _ _ _ _) ?_
      have hX2 : Hid (Xq w th A ls cap k p g (j + 1) (wd.setCells g (6 * j) (#[.string (Bn.roleT k p j), .int .i64 th, .slice va vn vc, .bool true, .slice none 0 0, .slice ua un uc] : Array Value).toList)) := hX
      obtain ⟨we, hwe⟩ : ∃ we, we = wd.setCells g (6 * j) (#[.string (Bn.roleT k p j), .int .i64 th, .slice va vn vc, .bool true, .slice none 0 0, .slice ua un uc] : Array Value).toList := ⟨_, rfl⟩
      rw [← hwe] at hX2 ⊢
      clear hX hth hwe hR5 hV hO5
      go_wp2_with fail
      refine NoPanic.normal ?_
      show _ ∧ wpAnyH _ _ _ _ _ _ _ _ _
      refine ⟨hX2.out.box, ?_⟩
      refine Fst.held_end (by kernel_rfl) ?_
      go_wp2_with fail
      go_roundw
      case rel => exact ⟨j + 1, by omega, by go_num, hX2⟩
      case measure => simp [intOf]; omega
    · obtain rfl : j = q := by omega
      obtain ⟨V, U, hD⟩ := hR.out.del
      have HD := Lib.hid hD
      have hBf := Lib.hid hR.out.bel
      clear hR hD
      go_wp2_with fail
      go_ret2
      exact ⟨g, V, U, rfl, Nat.le_of_lt hgw, HD.out, hBf.out⟩
theorem bExpand_err (th b : Int) (A : Option Addr) (l c : Nat) (p : ByteArray) (w : World) (hp : p.size ≤ 1000000) (hw0 : Bn.wrong b p ≠ 0) :
    Calls Tryd.prog 27 #[.agg #[.int .i64 th, .slice A l c, .int .i64 b, .string p]] w fun e w' => e = .returned (.tuple #[.slice none 0 0, .int .i64 (Bn.wrong b p)]) ∧ Below w.heap.size w w' := by
  have hne : (Bn.wrong b p != 0) = true := bne_iff_ne.2 hw0
  go_enter Tryd.func27, Tryd.ntmps27
  go_wp2_with fail
  refine (bWrong_any th b A l c p _ hp).mono ?_
  rintro e w1 ⟨rfl, hb⟩
  have hB := Lib.hid (((Below.refl w.heap.size w).alloc (Nat.le_refl _) _).trans (hb.mono (by simp)))
  clear hb
  go_wp2_with fail
  go_ret2
  exact ⟨rfl, hB.out⟩
set_option maxRecDepth 20000 in
set_option maxHeartbeats 1000000 in
theorem same_any (th : Int) (A1 A2 : Option Addr) (c1 c2 : Nat) (ls : List ByteArray) (w : World) (h1 : Strs w A1 ls) (h2 : Strs w A2 ls) (hl : ls.length ≤ 1000000) :
    Calls Tryd.prog 29 #[.agg #[.int .i64 th, .slice A1 ls.length c1], .agg #[.int .i64 th, .slice A2 ls.length c2]] w fun e w' => e = .returned (.bool true) ∧ Below w.heap.size w w' := by
  have H1 := Lib.hid h1
  have H2 := Lib.hid h2
  clear h1 h2
  have K1 := Lib.hid (Bk.grow (Bk.fresh w 32 #[.int .i64 th, .slice A1 ls.length c1]) (World.grownBy_alloc _ (.cells #[.int .i64 th, .slice A2 ls.length c2] 32 (0, 0)) none) (by simp))
  have K2 := Lib.hid (Bk.fresh (w.alloc (.cells #[.int .i64 th, .slice A1 ls.length c1] 32 (0, 0))) 32 #[.int .i64 th, .slice A2 ls.length c2])
  have hB : Hid (Below w.heap.size w ((w.alloc (.cells #[.int .i64 th, .slice A1 ls.length c1] 32 (0, 0))).alloc (.cells #[.int .i64 th, .slice A2 ls.length c2] 32 (0, 0)))) := ((Below.refl _ _).alloc (Nat.le_refl _) _).alloc (by simp) _
  rw [show (w.alloc (.cells #[.int .i64 th, .slice A1 ls.length c1] 32 (0, 0))).heap.size = w.heap.size + 1 by simp] at K2
  go_enter Tryd.func29, Tryd.ntmps29
  go_wp2_with fail
  generalize (w.alloc (.cells #[.int .i64 th, .slice A1 ls.length c1] 32 (0, 0))).alloc (.cells #[.int .i64 th, .slice A2 ls.length c2] 32 (0, 0)) = w2 at *
  go_loopw [5] (fun i wr => ∃ k : Nat, k ≤ ls.length ∧ i = .int .i64 k ∧ Hid (Below w.heap.size w wr ∧ Bk wr w.heap.size 32 #[.int .i64 th, .slice A1 ls.length c1] ∧ Bk wr (w.heap.size + 1) 32 #[.int .i64 th, .slice A2 ls.length c2])) (fun i _ => ls.length - (intOf i).toNat)
  case atStart => exact ⟨0, by omega, rfl, Lib.hid ⟨hB.out, K1.out, K2.out⟩⟩
  case round =>
    clear hB K1 K2
    obtain ⟨k, hk, rfl, hR⟩ := hrel
    have b1 : wr.cell? ⟨w.heap.size, 1, none⟩ = some (.slice A1 ls.length c1) := hR.out.2.1.cell 1
    have b2 : wr.cell? ⟨w.heap.size + 1, 1, none⟩ = some (.slice A2 ls.length c2) := hR.out.2.2.cell 1
    by_cases hlt : k < ls.length
    · obtain ⟨a1, rfl, ab1, ac1⟩ := H1.out k hlt
      obtain ⟨a2, rfl, ab2, ac2⟩ := H2.out k hlt
      have e1 : wr.cell? (a1.add k) = some (.string (ls.getD k ByteArray.empty)) := (hR.out.1.cell (by rw [add_block]; exact ab1)).trans ac1
      have e2 : wr.cell? (a2.add k) = some (.string (ls.getD k ByteArray.empty)) := (hR.out.1.cell (by rw [add_block]; exact ab2)).trans ac2
      generalize ls.getD k ByteArray.empty = x at *
      have hxx : (x.toList != x.toList) = false := bne_self_eq_false _
      clear ac1 ac2
      go_wp2_with fail
      go_quiet (fail)
      have hR2 : Hid (Below w.heap.size w (wr.drewN nq) ∧ Bk (wr.drewN nq) w.heap.size 32 #[.int .i64 th, .slice (some a1) ls.length c1] ∧ Bk (wr.drewN nq) (w.heap.size + 1) 32 #[.int .i64 th, .slice (some a2) ls.length c2]) := Lib.hid ⟨below_drawn hR.out.1 nq, hR.out.2.1.drawn nq, hR.out.2.2.drawn nq⟩
      go_wp2_with fail
      go_roundw
      case rel => exact ⟨k + 1, by omega, by go_num, hR2⟩
      case measure => simp [intOf]; omega
    · have hB := Lib.hid hR.out.1
      go_wp2_with fail
      go_ret
      exact ⟨rfl, hB.out⟩
set_option maxRecDepth 200000 in
set_option maxHeartbeats 1000000 in
theorem long_any (th : Int) (A : Option Addr) (cap : Nat) (ls : List ByteArray) (g : Nat) (w : World) (hc : Strs w A ls) (hz : ∀ i, i < ls.length → (ls.getD i ByteArray.empty).size ≤ maxLen) (hl : ls.length ≤ maxLen) (hg : Bk w g 32 #[.int .i64 th, .slice A ls.length cap]) :
    Calls Tryd.prog 28 #[.slice (some ⟨g, 0, none⟩) 1 1] w fun e w' => ∃ r : Bool, e = .returned (.bool r) ∧ (r = false → ls.length ≤ 500) ∧ w = w' := by
  have hl2 : ls.length ≤ 9223372036854775807 := by unfold maxLen at hl; omega
  have HC := Lib.hid hc
  have HZ := Lib.hid hz
  clear hc hz hl
  have b1 : w.cell? ⟨g, 1, none⟩ = some (.slice A ls.length cap) := hg.cell 1
  clear hg
  go_enter Tryd.func28, Tryd.ntmps28
  go_wp2_with fail
  go_loop [3, 4] (fun n i => ∃ m j : Nat, j ≤ 1 ∧ i = .int .i64 j ∧ n = .int .i64 m ∧ m ≤ 20000 ∧ (j = 0 → m = 0) ∧ (j = 1 → m < 5000 → 10 * ls.length ≤ m)) (fun _ i => 1 - (intOf i).toNat)
  case atStart => exact ⟨0, 0, by omega, rfl, rfl, by omega, fun _ => rfl, fun h => by omega⟩
  case round =>
    obtain ⟨m, j, hj, rfl, rfl, hm, h0, h1⟩ := hrel
    by_cases hj1 : j = 1
    · subst hj1
      have h1 := h1 rfl
      by_cases hm5 : m < 5000
      · have hgt : decide (5000 ≤ (m : Int)) = false := by simp; omega
        go_wp2_with fail
        go_ret
        exact .inl ⟨rfl, by first | (have := h1 hm5; omega) | (have := h1 trivial; omega), rfl⟩
      · have hgt : decide (5000 ≤ (m : Int)) = true := by simp; omega
        go_wp2_with fail
        go_ret
        exact .inr ⟨rfl, rfl⟩
    · obtain rfl : j = 0 := by omega
      obtain rfl : m = 0 := h0 rfl
      clear h0 h1 hj1
      go_wp2_with fail
      go_loop [3, 5] (fun n i => ∃ m k : Nat, k ≤ ls.length ∧ i = .int .i64 k ∧ n = .int .i64 m ∧ m ≤ 20000 ∧ 10 * k ≤ m) (fun _ i => ls.length - (intOf i).toNat)
      case atStart => exact ⟨0, 0, by omega, rfl, rfl, by omega, by omega⟩
      case round =>
        obtain ⟨m, k, hk, rfl, rfl, hm, hmk⟩ := hrel
        by_cases hlt : k < ls.length
        · by_cases hm5 : m < 5000
          · obtain ⟨a, rfl, ab, ac⟩ := HC.out k hlt
            have hpz := HZ.out k hlt
            generalize ls.getD k ByteArray.empty = x at *
            have hx2 : x.size ≤ 9223372036854775807 := by unfold maxLen at hpz; omega
            by_cases hx5 : x.size ≤ 5000
            · go_wp2_with fail
              go_round
              case rel => exact ⟨m + 10 + x.size, k + 1, by omega, by go_num, congrArg _ (by omega), by omega, by omega⟩
              case measure => simp [intOf]; omega
            · go_wp2_with fail
              go_round
              case rel => exact ⟨m + 5010, k + 1, by omega, by go_num, congrArg _ (by omega), by omega, by omega⟩
              case measure => simp [intOf]; omega
          · go_wp2_with fail
            go_round
            case rel => exact ⟨m, 1, by omega, by go_num, rfl, hm, fun h => by omega, fun _ h => by omega⟩
            case measure => simp [intOf]
        · go_wp2_with fail
          go_round
          case rel => exact ⟨m, 1, by omega, by go_num, rfl, hm, fun h => by omega, fun _ h => by omega⟩
          case measure => simp [intOf]

end Go.Proofs.YtflfmacfodkedaaDoor
