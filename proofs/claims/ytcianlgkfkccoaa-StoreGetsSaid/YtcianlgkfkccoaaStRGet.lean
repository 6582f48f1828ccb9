/-
  The walk of the reference's Get.
-/
import Derived.Test.YtcianlgkfkccoaaStRef
import Derived.Test.YtcianlgkfkccoaaStOnceI
import Derived.Test.YtcianlgkfkccoaaHeldG
import Derived.Laws.AppendOwnNone
namespace Go.Proofs.Ytcianlgkfkccoaa
set_option linter.unusedSimpArgs false
set_option linter.unusedVariables false
open Go Go.RowKit

theorem rix (t : TypeId) (h : Try.prog.underlying t = some (.slice (Try.prog.elem t))) : True := trivial
/-- append(own, row...): a row of one's own behind, nil or not. -/
theorem wpList_append_row {P : Program} (w : World) {ops : Array Oper} {rest : List Oper} {o : Oper} {a : Act} {Q : Exit → Act → World → Prop} (hgd : o.guard = none) (s x : Operand) (t : TypeId)
    (ho : o.op = .call { callee := .builtin .append, args := #[s, x], argTypes := #[t, t] })
    (base : Nat) (e : TypeId) (i : TypeInfo) (z : Value) (size bytes : Nat) (ht : P.underlying t = some (.slice e)) (hi : P.info? e = some i) (hz : i.zero = some z)
    (hsize : i.size = size) (hby : i.bytes = bytes) (hzs : z.cells.size = size) (hsz : 0 < size)
    (v : Value) (n : Nat) (xs : List Value) (hs : a.eval s = v) (hown : w.ownsRow base e size v n xs)
    (B m : Nat) (vs : Value) (ys : List Value) (hx : a.eval x = vs) (hsrc : w.ownsRow B e size vs m ys) (h1 : ∀ u ∈ ys, u.oneCell' = true)
    (h63 : n + m ≤ maxLen) (hbytes : (n + m) * bytes ≤ 140737488355328) (hbase : base ≤ w.heap.size)
    (h : ∀ v' w', w'.ownsRow base e size v' (n + m) (xs ++ ys) → w.grownBy w' v.ownBlock → wpList P ops Q rest (a.put o.dst v') w') : wpList P ops Q (o :: rest) a w := by
  have hl := hsrc.1
  rcases own_news hsrc with ⟨rfl, rfl, rfl⟩ | ⟨g, cap, rfl, _, _, hcell⟩
  · refine wpList_append_own_none hgd s x t ho base e i size ht hi v n xs hs hown hx ?_
    exact h v w (by simpa using hown) ⟨rfl, rfl, rfl, Nat.le_refl _, fun _ _ _ => rfl⟩
  · exact wpList_append_own w hgd s x t ho base e i z size bytes ht hi hz hsize hby hzs hsz v n xs hs hown ⟨g, 0, none⟩ m cap ys hx hl hcell h1 h63 hbytes hbase (fun v' w' h2 h3 _ => h v' w' h2 h3)
theorem datas_one (l : List St.En) : ∀ u ∈ datas l, u.oneCell' = true := by
  intro u hu
  obtain ⟨x, _, rfl⟩ := List.mem_map.1 hu
  rfl
/-- What comes of the first file of a name, before the cap is looked at. -/
def RT : Option ByteArray → Value → Value → Prop
  | none, v, s => v = .string ⟨#[]⟩ ∧ s = .int .i64 (-1)
  | some d, v, s => v = .string d ∧ s = .int .i64 d.size
theorem RT.form {x : Option ByteArray} {v s : Value} {fs : List (ByteArray × ByteArray)} {n : ByteArray} {c : Int} (h : RT x v s) (hx : St.first fs n = x) (hc : 0 ≤ c) : ∃ (d : ByteArray) (z : Int), v = .string d ∧ s = .int .i64 z ∧ -1 ≤ z ∧ z ≤ d.size ∧ (c < z → St.fetch fs n c = ⟨n, c, -2, ⟨#[]⟩⟩) ∧ (¬ c < z → St.fetch fs n c = ⟨n, c, z, d⟩) := by
  unfold St.fetch
  rw [hx]
  cases x with
  | none =>
    obtain ⟨rfl, rfl⟩ := h
    exact ⟨_, _, rfl, rfl, by omega, by simp, fun h => by omega, fun _ => rfl⟩
  | some d =>
    obtain ⟨rfl, rfl⟩ := h
    refine ⟨_, _, rfl, rfl, by omega, by omega, fun h => ?_, fun h => ?_⟩
    · unfold St.came; exact if_neg (by omega)
    · unfold St.came; exact if_pos (by omega)
theorem drop_hit {fs : List (ByteArray × ByteArray)} {n : ByteArray} {k : Nat} (hk : k < fs.length) (h : (fs.getD k (⟨#[]⟩, ⟨#[]⟩)).1 = n) : St.first (fs.drop k) n = some (fs.getD k (⟨#[]⟩, ⟨#[]⟩)).2 := by
  rw [List.getD_eq_getElem?_getD, List.getElem?_eq_getElem hk] at h ⊢
  rw [List.drop_eq_getElem_cons hk, St.first]
  exact if_pos h
theorem drop_miss {fs : List (ByteArray × ByteArray)} {n : ByteArray} {k : Nat} (hk : k < fs.length) (h : (fs.getD k (⟨#[]⟩, ⟨#[]⟩)).1 ≠ n) : St.first (fs.drop k) n = St.first (fs.drop (k + 1)) n := by
  rw [List.getD_eq_getElem?_getD, List.getElem?_eq_getElem hk] at h
  rw [List.drop_eq_getElem_cons hk, St.first]
  exact if_neg h
theorem fa_rst0 (g : Nat) (W : World) : (Instr.fieldAt 49 (.pointer (some ⟨g, 0, none⟩)) 0).run Try.prog W = .ok (.pointer (some ⟨g, 0, none⟩)) W := by kernel_rfl
theorem fa_rst2 (g : Nat) (W : World) : (Instr.fieldAt 49 (.pointer (some ⟨g, 0, none⟩)) 2).run Try.prog W = .ok (.pointer (some ⟨g, 2, none⟩)) W := by kernel_rfl
theorem ld_fets (g o : Nat) (v : Value) (W : World) (h : W.cell? ⟨g, o, none⟩ = some v) : (Instr.loadAt 44 (.pointer (some ⟨g, o, none⟩))).run Try.prog W = .ok v W := by
  have a3 : (isAgg 44).run Try.prog W = .ok false W := by kernel_rfl
  simp [Instr.loadAt, Instr.sureAddr, loadVar, a3, Result.andThen, go_sem, h]

set_option maxRecDepth 20000 in
set_option maxHeartbeats 1000000 in
theorem rget_bad (g : Nat) (n : ByteArray) (c : Int) (w : World) (h : c < 0 ∨ 65536 < c) :
    Calls Try.prog 17 #[.pointer (some ⟨g, 0, none⟩), .string n, .int .i64 c] w fun e w' => e = .returned (.tuple #[.string ⟨#[]⟩, .int .i64 0, .int .i64 1]) ∧ w = w' := by
  by_cases hc : c < 0
  · have c0 : decide (c < 0) = true := decide_eq_true hc
    go_enter Try.func17, Try.ntmps17
    go_wp2_with fail
    go_ret3
    exact ⟨rfl, rfl⟩
  · have c0 : decide (c < 0) = false := decide_eq_false hc
    have c1 : decide (65536 < c) = true := decide_eq_true (by omega)
    go_enter Try.func17, Try.ntmps17
    go_wp2_with fail
    go_ret3
    exact ⟨rfl, rfl⟩
set_option maxRecDepth 20000 in
set_option maxHeartbeats 1000000 in
theorem rget_hit {w : World} {g : Nat} {lv dv : Value} {F : Nat → Prop} {repo : ByteArray} {A : Option Addr} {nf cap : Nat} {l : List St.En} {e : St.En} (h : RParts w g lv dv F repo A nf cap l) (n : ByteArray) (c : Int) (h1 : St.One l) (hll : l.length ≤ 1000000) (hc : 0 ≤ c) (hc2 : c ≤ 65536) (hlk : St.look l n = some e) :
    Calls Try.prog 17 #[.pointer (some ⟨g, 0, none⟩), .string n, .int .i64 c] w fun x w' => x = .returned (.tuple #[.string e.data, .int .i64 e.size, .int .i64 0]) ∧ Below w.heap.size w w' := by
  have c0 : decide (c < 0) = false := decide_eq_false (by omega)
  have c1 : decide (65536 < c) = false := decide_eq_false (by omega)
  obtain ⟨la, lc, rfl, hF⟩ := Fets.of_own h.list
  have HF := Lib.hid hF
  have HK := Lib.hid hlk
  have H1 := Lib.hid h1
  have HD := Lib.hid h.data
  have hgl := h.row.lt
  have HR := Lib.hid h.row
  clear h hF hlk h1
  have g2 := HR.out.cell 2
  go_enter Try.func17, Try.ntmps17
  go_wp2_with fail
  go_loop [9] (fun v => ∃ k : Nat, k ≤ l.length ∧ v = .int .i64 k ∧ Hid (∀ j, j < k → (l.getD j en0).name ≠ n)) (fun v => l.length - (intOf v).toNat)
  case atStart => exact ⟨0, Nat.zero_le _, rfl, fun j hj => by omega⟩
  case round =>
    obtain ⟨k, hk, rfl, hno⟩ := hrel
    by_cases hlt : k < l.length
    · have hat : Hid ((l.getD k en0).name = n → St.look l n = some (l.getD k en0)) := fun h => look_hit H1.out hlt h
      obtain ⟨db, dc, rfl, dd⟩ := dat_cell HD.out k hlt
      have g3 := HR.out.cell 3
      obtain ⟨b, o, rfl, hbl, a0, a1, a2, a3⟩ := HF.out k hlt
      have i0 : (0 : Int) ≤ (k : Int) := by omega
      have i1 : (k : Int) < (l.length : Int) := by omega
      by_cases he : (l.getD k en0).name = n
      · have n0 := eq_true he
        have hex : Hid (e = l.getD k en0) := by have h2 := hat.out he; rw [HK.out] at h2; exact Option.some.inj h2
        clear hat HK he
        generalize l.getD k en0 = x at *
        go_wp2_with fail
        go_quiet (fail)
        go_wp2_with fail
        go_ret3
        obtain rfl := hex.out
        exact ⟨rfl, below_drawn (Below.refl _ _) _⟩
      · have n0 := eq_false he
        have hno2 : Hid (∀ j, j < k + 1 → (l.getD j en0).name ≠ n) := fun j hj => by
          by_cases ej : j = k
          · rw [ej]; exact he
          · exact hno.out j (by omega)
        clear hat he
        generalize l.getD k en0 = x at *
        go_wp2_with fail
        go_round
        case rel => exact ⟨k + 1, by omega, by go_num, hno2⟩
        case measure => simp [intOf]; omega
    · have hkk : k = l.length := by omega
      subst hkk
      have := look_miss hno.out
      rw [HK.out] at this
      cases this
/-- What the region of Get reads of the store. -/
def RSees (W : World) (g : Nat) (repo : ByteArray) (lv : Value) : Prop := W.cell? ⟨g, 0, none⟩ = some (.string repo) ∧ W.cell? ⟨g, 2, none⟩ = some lv
theorem keeps_put {w0 w : World} {g : Nat} (h : Keeps (fun b => b = g) w0 w) (i : Nat) (v : Value) : Keeps (fun b => b = g) w0 (w.setCell ⟨g, i, none⟩ v) :=
  h.trans ⟨rfl, rfl, rfl, by simp [World.setCell], fun k _ hk => Below.heap_setCell w ⟨g, i, none⟩ v k hk⟩ (fun x hx => .inl hx)
set_option maxRecDepth 20000 in
set_option maxHeartbeats 4000000 in
theorem rget_miss {w : World} {g : Nat} {lv dv : Value} {F : Nat → Prop} {repo : ByteArray} {A : Option Addr} {cap : Nat} {fs : List (ByteArray × ByteArray)} {l : List St.En} (h : RParts w g lv dv F repo A fs.length cap l) (hf : Files w A fs) (n : ByteArray) (c : Int) (hll : l.length ≤ 1000000) (hfl : fs.length ≤ 1000000) (hds : ∀ i, i < fs.length → (fs.getD i (⟨#[]⟩, ⟨#[]⟩)).2.size ≤ 1000000) (hn : n.size ≤ 1000000) (hc : 0 ≤ c) (hc2 : c ≤ 65536) (hlk : St.look l n = none) :
    Calls Try.prog 17 #[.pointer (some ⟨g, 0, none⟩), .string n, .int .i64 c] w fun x w' => x = .returned (.tuple #[.string (St.fetch fs n c).data, .int .i64 (St.fetch fs n c).size, .int .i64 0]) ∧ ∃ F', (∃ lv dv, RParts w' g lv dv F' repo A fs.length cap (l ++ [St.fetch fs n c])) ∧ Keeps F w w' ∧ ∀ b, F' b → F b ∨ w.heap.size ≤ b := by
  have c0 : decide (c < 0) = false := decide_eq_false (by omega)
  have c1 : decide (65536 < c) = false := decide_eq_false (by omega)
  obtain ⟨i0, hi0, hz0, hz1, hz2⟩ := info_parts info_fetch
  obtain ⟨j0, hj0, hy0, hy1, hy2⟩ := info_parts info_string
  obtain ⟨la, lc, rfl, hF⟩ := Fets.of_own h.list
  have HF := Lib.hid hF
  have HFI := Lib.hid hf
  have HDS := Lib.hid hds
  have HNO : Hid (∀ j, j < l.length → (l.getD j en0).name ≠ n) := fun j hj => by
    refine (St.look_none l n).1 hlk _ ?_
    rw [List.getD_eq_getElem?_getD, List.getElem?_eq_getElem hj]
    exact List.getElem_mem hj
  have HL := Lib.hid h.list
  have HD := Lib.hid h.data
  have HFG := Lib.hid h.fg
  have hgl := h.row.lt
  have HR := Lib.hid h.row
  obtain ⟨nf, hnf⟩ : ∃ nf, nf = fs.length := ⟨_, rfl⟩
  clear h hF hlk hf hds
  have g2 := HR.out.cell 2
  have g1 := HR.out.cell 1
  obtain ⟨x, hx⟩ : ∃ x, x = St.fetch fs n c := ⟨_, rfl⟩
  rw [← hx]
  have HX := Lib.hid hx
  clear hx
  have HS : Hid (∀ W : World, Below w.heap.size w W → RSees W g repo (.slice la l.length lc)) := fun W hW => by
    have hb := bk_keep HR.out (Keeps.of_below (F := fun _ => False) hW) (fun h => h)
    exact ⟨hb.cell 0, hb.cell 2⟩
  go_enter Try.func17, Try.ntmps17
  go_wp2_with fail
  go_loop [9] (fun v => ∃ k : Nat, k ≤ l.length ∧ v = .int .i64 k) (fun v => l.length - (intOf v).toNat)
  case atStart => exact ⟨0, Nat.zero_le _, rfl⟩
  case round =>
    obtain ⟨k, hk, rfl⟩ := hrel
    by_cases hlt : k < l.length
    · obtain ⟨b, o, rfl, hbl, a0, a1, a2, a3⟩ := HF.out k hlt
      have he := HNO.out k hlt
      have i0 : (0 : Int) ≤ (k : Int) := by omega
      have i1 : (k : Int) < (l.length : Int) := by omega
      have n0 := eq_false he
      clear he
      generalize l.getD k en0 = x at *
      go_wp2_with fail
      go_round
      case rel => exact ⟨k + 1, by omega, by go_num⟩
      case measure => simp [intOf]; omega
    · have hkk : k = l.length := by omega
      subst hkk
      go_wp2_with fail
      go_loopw [10, 11, 12] (fun v s i wr => ∃ k : Nat, k ≤ fs.length ∧ i = .int .i64 ((k : Int) - 1) ∧ Hid (RT (St.first (fs.drop k) n) v s) ∧ Hid (Below w.heap.size w wr)) (fun _ _ i _ => (intOf i + 1).toNat)
      case atStart => exact ⟨fs.length, Nat.le_refl _, rfl, by rw [List.drop_length]; exact ⟨rfl, rfl⟩, Below.refl _ _⟩
      case round =>
        obtain ⟨k, hk, rfl, hT, HB⟩ := hrel
        have hbk := bk_keep HR.out (Keeps.of_below (F := fun _ => False) HB.out) (fun h => h)
        have g2 := hbk.cell 2
        have g1 := hbk.cell 1
        clear hbk
        cases k with
        | zero =>
          have i0 : ((0 : Nat) : Int) - 1 = -1 := by omega
          rw [i0]
          clear i0
          obtain ⟨d, z, rfl, rfl, hz1', hz2', hbig, hfit⟩ := hT.out.form (fs := fs) (c := c) (by rw [List.drop_zero]) hc
          clear hT
          by_cases hcz : c < z
          · obtain rfl := HX.out.trans (hbig hcz)
            have c2 : decide (c < z) = true := decide_eq_true hcz
            clear hbig hfit
            go_wp2_with fail
            refine HG.wp_region_G (fun W => RSees W g repo (.slice la l.length lc)) 19 [0, 2, 3, 4, 5, 7, 8, 9, 10, 11, 12, 13, 14] 7 (by kernel_rfl) (by kernel_rfl) (by have h := HS.out wr HB.out; exact h) ?_
            refine ⟨_, .inl ⟨rfl, fun W _ => BigFrame.run_move _ rfl W⟩, ?_⟩
            try simp only [Fst.wpFstS, Act.put, Act.eval, List.getD_cons_zero, List.getD_cons_succ, List.setIfInBounds_toArray, List.set_cons_zero, List.set_cons_succ, Lex.getD_zero, Lex.getD_succ]
            refine ⟨_, .inl ⟨rfl, fun W _ => BigFrame.run_move _ rfl W⟩, ?_⟩
            try simp only [Fst.wpFstS, Act.put, Act.eval, List.getD_cons_zero, List.getD_cons_succ, List.setIfInBounds_toArray, List.set_cons_zero, List.set_cons_succ, Lex.getD_zero, Lex.getD_succ]
            refine ⟨.pointer (some ⟨g, 0, none⟩), .inl ⟨rfl, fun W hW => ?_⟩, ?_⟩
            · simp only [Act.put, Act.eval, List.getD_cons_zero, List.getD_cons_succ, Lex.getD_zero, Lex.getD_succ, execOp]
              simp [go_sem, Result.andThen]
            try simp only [Fst.wpFstS, Act.put, Act.eval, List.getD_cons_zero, List.getD_cons_succ, List.setIfInBounds_toArray, List.set_cons_zero, List.set_cons_succ, Lex.getD_zero, Lex.getD_succ]
            refine ⟨.pointer (some ⟨g, 2, none⟩), .inl ⟨rfl, fun W hW => ?_⟩, ?_⟩
            · simp only [Act.put, Act.eval, List.getD_cons_zero, List.getD_cons_succ, Lex.getD_zero, Lex.getD_succ, execOp]
              simp [fa_rst2, Result.andThen]
            try simp only [Fst.wpFstS, Act.put, Act.eval, List.getD_cons_zero, List.getD_cons_succ, List.setIfInBounds_toArray, List.set_cons_zero, List.set_cons_succ, Lex.getD_zero, Lex.getD_succ]
            refine ⟨.slice la l.length lc, .inl ⟨rfl, fun W hW => ?_⟩, ?_⟩
            · simp only [Act.put, Act.eval, List.getD_cons_zero, List.getD_cons_succ, Lex.getD_zero, Lex.getD_succ, execOp]
              simp [ld_fets _ _ _ _ hW.2, Result.andThen]
            try simp only [Fst.wpFstS, Act.put, Act.eval, List.getD_cons_zero, List.getD_cons_succ, List.setIfInBounds_toArray, List.set_cons_zero, List.set_cons_succ, Lex.getD_zero, Lex.getD_succ]
            refine ⟨_, .inl ⟨rfl, fun W _ => BigFrame.run_move _ rfl W⟩, ?_⟩
            try simp only [Fst.wpFstS, Act.put, Act.eval, List.getD_cons_zero, List.getD_cons_succ, List.setIfInBounds_toArray, List.set_cons_zero, List.set_cons_succ, Lex.getD_zero, Lex.getD_succ]
            refine ⟨.pointer (some ⟨g, 0, none⟩), .inl ⟨rfl, fun W hW => ?_⟩, ?_⟩
            · simp only [Act.put, Act.eval, List.getD_cons_zero, List.getD_cons_succ, Lex.getD_zero, Lex.getD_succ, execOp]
              simp [go_sem, Result.andThen]
            try simp only [Fst.wpFstS, Act.put, Act.eval, List.getD_cons_zero, List.getD_cons_succ, List.setIfInBounds_toArray, List.set_cons_zero, List.set_cons_succ, Lex.getD_zero, Lex.getD_succ]
            refine ⟨.pointer (some ⟨g, 0, none⟩), .inl ⟨rfl, fun W hW => ?_⟩, ?_⟩
            · simp only [Act.put, Act.eval, List.getD_cons_zero, List.getD_cons_succ, Lex.getD_zero, Lex.getD_succ, execOp]
              simp [fa_rst0, Result.andThen]
            try simp only [Fst.wpFstS, Act.put, Act.eval, List.getD_cons_zero, List.getD_cons_succ, List.setIfInBounds_toArray, List.set_cons_zero, List.set_cons_succ, Lex.getD_zero, Lex.getD_succ]
            refine ⟨.string repo, .inl ⟨rfl, fun W hW => ?_⟩, ?_⟩
            · simp only [Act.put, Act.eval, List.getD_cons_zero, List.getD_cons_succ, Lex.getD_zero, Lex.getD_succ, execOp]
              simp [ld_str _ _ _ _ hW.1, Result.andThen]
            try simp only [Fst.wpFstS, Act.put, Act.eval, List.getD_cons_zero, List.getD_cons_succ, List.setIfInBounds_toArray, List.set_cons_zero, List.set_cons_succ, Lex.getD_zero, Lex.getD_succ]
            refine ⟨_, .inl ⟨rfl, fun W _ => BigFrame.run_move _ rfl W⟩, ?_⟩
            try simp only [Fst.wpFstS, Act.put, Act.eval, List.getD_cons_zero, List.getD_cons_succ, List.setIfInBounds_toArray, List.set_cons_zero, List.set_cons_succ, Lex.getD_zero, Lex.getD_succ]
            refine ⟨_, .inl ⟨rfl, fun W _ => BigFrame.run_move _ rfl W⟩, ?_⟩
            try simp only [Fst.wpFstS, Act.put, Act.eval, List.getD_cons_zero, List.getD_cons_succ, List.setIfInBounds_toArray, List.set_cons_zero, List.set_cons_succ, Lex.getD_zero, Lex.getD_succ]
            refine ⟨_, .inl ⟨rfl, fun W _ => BigFrame.run_move _ rfl W⟩, ?_⟩
            try simp only [Fst.wpFstS, Act.put, Act.eval, List.getD_cons_zero, List.getD_cons_succ, List.setIfInBounds_toArray, List.set_cons_zero, List.set_cons_succ, Lex.getD_zero, Lex.getD_succ]
            refine ⟨.agg #[.string repo, .string n, .int .i64 c, .int .i64 (-2)], .inl ⟨rfl, fun W hW => ?_⟩, ?_⟩
            · simp only [Act.put, Act.eval, List.getD_cons_zero, List.getD_cons_succ, Lex.getD_zero, Lex.getD_succ, execOp]
              simp [bld_fetch, Result.andThen]
            try simp only [Fst.wpFstS, Act.put, Act.eval, List.getD_cons_zero, List.getD_cons_succ, List.setIfInBounds_toArray, List.set_cons_zero, List.set_cons_succ, Lex.getD_zero, Lex.getD_succ]
            obtain ⟨wc, hwc⟩ : ∃ wc : World, wc = { wr with drawn := wr.drawn + 1 } := ⟨_, rfl⟩
            rw [← hwc]
            have HB : Hid (Below w.heap.size w wc) := by rw [hwc]; exact ⟨HB.out.os, HB.out.tape, HB.out.output, HB.out.size, HB.out.block⟩
            clear hwc
            refine HG.two (i := 1) (j := 15) (by kernel_rfl) (by kernel_rfl) ?_ ?_
            · -- 1 first
              simp only [List.getD_cons_zero, List.getD_cons_succ]
              go_wp2_with fail
              refine NoPanic.normal ?_
              show _ ∧ HG.wpAnyG _ _ _ _ _ _ _ _ _ _
              obtain ⟨wd, hw_wd⟩ : ∃ W : World, W = wc.alloc (.cells #[] 41 (0, 0)) := ⟨_, rfl⟩
              rw [← hw_wd]
              have hsz_wd : Hid (wd.heap.size = wc.heap.size + 1) := by show _ = _; rw [hw_wd]; simp
              have HE : Hid (wd.ownsRow w.heap.size 41 4 (.slice (some ⟨wc.heap.size, 0, none⟩) 0 0) 0 []) := by rw [hw_wd]; exact World.ownsRow_made _ #[] 0 HB.out.size (Nat.zero_le _) rfl
              have HB : Hid (Below w.heap.size w wd) := by rw [hw_wd]; exact HB.out.alloc HB.out.size _
              clear hw_wd
              first | refine ⟨fun _ => HS.out _ HB.out, ?_⟩ | refine ⟨HS.out _ HB.out, ?_⟩
              refine HG.two (i := 6) (j := 15) (by kernel_rfl) (by kernel_rfl) ?_ ?_
              · -- 1, 6, 15
                simp only [List.getD_cons_zero, List.getD_cons_succ]
                have hlist := own_keep HL.out HB.out
                go_wp2_with (at_builtin; go_must (refine wpList_append_row _ rfl _ _ _ rfl w.heap.size 41 i0 _ 4 48 Try.underlying44 hi0 hz0 hz1 hz2 rfl (by omega) (.slice (some ⟨wc.heap.size, 0, none⟩) 0 0) 0 [] rfl HE.out 0 l.length (.slice la l.length lc) (fetC repo l) rfl hlist (fetC_one _ _) (by unfold maxLen; omega) (by omega) HB.out.size ?_))
                clear hlist
                intro v6 we hown6 hgrow6
                have H6 : Hid (we.ownsRow w.heap.size 41 4 v6 l.length (fetC repo l)) := by
                  show World.ownsRow _ _ _ _ _ _ _
                  simpa using hown6
                have HB : Hid (Below w.heap.size w we) := HB.out.grown hgrow6 HB.out.size (fun k hk => (HE.out.lt k hk).1)
                clear hown6 hgrow6 HE
                go_wp2_with fail
                refine NoPanic.normal ?_
                show _ ∧ HG.wpAnyG _ _ _ _ _ _ _ _ _ _
                first | refine ⟨fun _ => HS.out _ HB.out, ?_⟩ | refine ⟨HS.out _ HB.out, ?_⟩
                refine HG.one (i := 15) (by kernel_rfl) (by kernel_rfl) ?_
                simp only [List.getD_cons_zero, List.getD_cons_succ]
                go_wp2_with fail
                refine NoPanic.normal ?_
                show _ ∧ HG.wpAnyG _ _ _ _ _ _ _ _ _ _
                obtain ⟨wf, hw_wf⟩ : ∃ W : World, W = we.alloc (.cells #[.string repo, .string n, .int .i64 c, .int .i64 (-2)] 41 (0, 0)) := ⟨_, rfl⟩
                rw [← hw_wf]
                have hsz_wf : Hid (wf.heap.size = we.heap.size + 1) := by show _ = _; rw [hw_wf]; simp
                have hb7 : Hid (wf.heap[we.heap.size]? = some (.cells #[.string repo, .string n, .int .i64 c, .int .i64 (-2)] 41 (0, 0))) := by rw [hw_wf]; exact heap_alloc_new _ _
                have H6 : Hid (wf.ownsRow w.heap.size 41 4 v6 l.length (fetC repo l)) := by rw [hw_wf]; exact H6.out.alloc _
                have HB : Hid (Below w.heap.size w wf) := by rw [hw_wf]; exact HB.out.alloc HB.out.size _
                clear hw_wf
                first | refine ⟨fun _ => HS.out _ HB.out, ?_⟩ | refine ⟨HS.out _ HB.out, ?_⟩
                refine HG.one (i := 16) (by kernel_rfl) (by kernel_rfl) ?_
                simp only [List.getD_cons_zero, List.getD_cons_succ]
                go_wp2_with (at_builtin; go_must (refine wpList_append_own_at _ rfl _ _ _ rfl w.heap.size 41 i0 _ 4 48 Try.underlying44 hi0 hz0 hz1 hz2 rfl (by omega) v6 l.length _ rfl H6.out ⟨we.heap.size, 0, none⟩ 1 1 [.string repo, .string n, .int .i64 c, .int .i64 (-2)] rfl rfl (World.news_of_block hb7.out) (by simp [Value.oneCell']) (by unfold maxLen; omega) (by omega) HB.out.size ?_))
                intro v7 wg hown7 hgrow7 _ _
                have HB : Hid (Below w.heap.size w wg) := HB.out.grown hgrow7 HB.out.size (fun k hk => (H6.out.lt k hk).1)
                obtain ⟨va, vl, vc, rfl⟩ := own_slice hown7
                have H7 : Hid (wg.ownsRow w.heap.size 41 4 (.slice va vl vc) (l.length + 1) (fetC repo (l ++ [⟨n, c, -2, ⟨#[]⟩⟩]))) := by
                  show World.ownsRow _ _ _ _ _ _ _
                  rw [fetC_snoc]; exact hown7
                clear hown7 hgrow7 H6 hb7
                go_wp2_with fail
                refine NoPanic.normal ?_
                show _ ∧ HG.wpAnyG _ _ _ _ _ _ _ _ _ _
                first | refine ⟨fun _ => HS.out _ HB.out, ?_⟩ | refine ⟨HS.out _ HB.out, ?_⟩
                refine HG.one (i := 17) (by kernel_rfl) (by kernel_rfl) ?_
                simp only [List.getD_cons_zero, List.getD_cons_succ]
                go_wp2_with fail
                refine NoPanic.normal ?_
                show _ ∧ HG.wpAnyG _ _ _ _ _ _ _ _ _ _
                first | refine ⟨fun _ => HS.out _ HB.out, ?_⟩ | refine ⟨HS.out _ HB.out, ?_⟩
                refine HG.one (i := 18) (by kernel_rfl) (by kernel_rfl) ?_
                simp only [List.getD_cons_zero, List.getD_cons_succ]
                go_wp2_with fail
                refine NoPanic.normal ?_
                show _ ∧ HG.wpAnyG _ _ _ _ _ _ _ _ _ _
                first | refine ⟨fun _ => HS.out _ HB.out, ?_⟩ | refine ⟨HS.out _ HB.out, ?_⟩
                refine HG.one (i := 19) (by kernel_rfl) (by kernel_rfl) ?_
                simp only [List.getD_cons_zero, List.getD_cons_succ]
                have hbk := bk_keep HR.out (Keeps.of_below (F := fun _ => False) HB.out) (fun h => h)
                have z2 := hbk.cell 2
                have z2f := hbk.frozen 2
                go_wp2_with fail
                obtain ⟨wh, hwh⟩ : ∃ W : World, W = wg.setCell ⟨g, 2, none⟩ (.slice va vl vc) := ⟨_, rfl⟩
                rw [← hwh]
                have HRh : Hid (Bk wh g 49 #[.string repo, .slice A fs.length cap, .slice va vl vc, dv]) := by rw [hwh]; exact hbk.put 2 _
                have HK : Hid (Keeps (fun b => b = g) w wh) := by rw [hwh]; exact keeps_put (Keeps.of_below HB.out) 2 _
                have H7 : Hid (wh.ownsRow w.heap.size 41 4 (.slice va vl vc) (l.length + 1) (fetC repo (l ++ [⟨n, c, -2, ⟨#[]⟩⟩]))) := by rw [hwh]; exact row_keep H7.out (keeps_put (Keeps.refl _ _) 2 _) (fun b hb he => by have := (H7.out.lt b hb).1; omega)
                clear hbk z2 z2f hwh HB
                refine NoPanic.normal ?_
                show _ ∧ HG.wpAnyG _ _ _ _ _ _ _ _ _ _
                first | refine ⟨fun h => absurd rfl h, ?_⟩ | refine ⟨trivial, ?_⟩
                refine HG.end_ (by kernel_rfl) ?_
                have HDh := Lib.hid (row_keep HD.out HK.out (fun b hb he => by subst he; exact own_bk HD.out HR.out (by decide) hb))
                have g3 := HRh.out.cell 3
                have hglh := HRh.out.lt
                obtain ⟨da, dn, dc, rfl⟩ := own_slice HD.out
                go_wp2_with (at_builtin; go_must (refine wpList_append_row _ rfl _ _ _ rfl w.heap.size 9 j0 _ 1 16 Try.underlying47 hj0 hy0 hy1 hy2 rfl (by omega) _ 0 [] rfl (World.ownsRow_made _ #[] 0 HK.out.size (Nat.zero_le _) rfl) 0 l.length (.slice da dn dc) (datas l) rfl (HDh.out.alloc _) (datas_one _) (by unfold maxLen; omega) (by omega) (by rw [World.size_alloc]; have := HK.out.size; omega) ?_))
                intro v8 wi hown8 hgrow8
                have H8 : Hid (wi.ownsRow w.heap.size 9 1 v8 l.length (datas l)) := by
                  show World.ownsRow _ _ _ _ _ _ _
                  simpa using hown8
                have hks := HK.out.size
                have hGR : Hid (Below wh.heap.size wh wi) := ((Below.refl _ wh).alloc (Nat.le_refl _) _).grown hgrow8 (by simp) (by intro k hk; simp [Value.ownBlock] at hk; omega)
                have H7 := Lib.hid (own_keep H7.out hGR.out)
                have HRi := Lib.hid (bk_keep HRh.out (Keeps.of_below (F := fun _ => False) hGR.out) (fun h => h))
                have HK := Lib.hid (HK.out.trans (Keeps.of_below (F := fun _ => False) hGR.out) (fun x h => h.elim))
                have hks2 := HK.out.size
                clear hown8 hgrow8 hGR g3 HRh HDh
                go_wp2_with (at_builtin; go_must (refine wpList_append_own_at _ rfl _ _ _ rfl w.heap.size 9 j0 _ 1 16 Try.underlying47 hj0 hy0 hy1 hy2 rfl (by omega) v8 l.length _ rfl (H8.out.alloc _) ⟨wi.heap.size, 0, none⟩ 1 1 [.string ⟨#[]⟩] rfl rfl (World.news_of_block (heap_alloc_new _ _)) (by simp [Value.oneCell']) (by unfold maxLen; omega) (by omega) (by rw [World.size_alloc]; omega) ?_))
                intro v9 wj hown9 hgrow9 _ _
                have hG9 : Hid (Keeps (fun b => v8.ownBlock = some b) wi wj) := (Keeps.of_below (F := fun b => v8.ownBlock = some b) ((Below.refl _ wi).alloc (Nat.le_refl _) _)).grown hgrow9 (fun b hb => .inl hb)
                obtain ⟨xa, xl, xc, rfl⟩ := own_slice hown9
                have H9 : Hid (wj.ownsRow w.heap.size 9 1 (.slice xa xl xc) (l.length + 1) (datas (l ++ [⟨n, c, -2, ⟨#[]⟩⟩]))) := by
                  show World.ownsRow _ _ _ _ _ _ _
                  rw [datas_snoc]; exact hown9
                have H7 := Lib.hid (row_keep H7.out hG9.out (fun b hb he => by rcases own_own H7.out H8.out (by decide) with h0 | h0; · rw [h0] at hb; cases hb
                                                                               · exact h0 (hb.trans he.symm)))
                have hbk := bk_keep HRi.out hG9.out (own_bk H8.out HRi.out (by decide))
                have HK := Lib.hid (HK.out.trans hG9.out (fun x hx => .inr (H8.out.lt x hx).1))
                have z3 := hbk.cell 3
                have z3f := hbk.frozen 3
                have HRj := Lib.hid hbk
                clear hbk hown9 hgrow9 hG9 HRi H8
                go_wp2_with fail
                go_ret3
                refine ⟨rfl, fun b => b = g ∨ (Value.slice va vl vc).ownBlock = some b ∨ (Value.slice xa xl xc).ownBlock = some b, ⟨.slice va vl vc, .slice xa xl xc, ?_, ?_, ?_, .inl rfl, fun b hb => .inr (.inl hb), fun b hb => .inr (.inr hb), ?_⟩, ?_, ?_⟩
                · exact HRj.out.put 3 _
                · rw [List.length_append]
                  exact own_mono (row_keep H7.out (keeps_put (Keeps.refl _ _) 3 _) (fun b hb he => by have := (H7.out.lt b hb).1; omega)) (Nat.zero_le _)
                · rw [List.length_append]
                  exact own_mono (row_keep H9.out (keeps_put (Keeps.refl _ _) 3 _) (fun b hb he => by have := (H9.out.lt b hb).1; omega)) (Nat.zero_le _)
                · intro b hb
                  have hzz : (wj.setCell ⟨g, 3, none⟩ (.slice xa xl xc)).heap.size = wj.heap.size := by simp [World.setCell]
                  rw [hzz]
                  rcases hb with rfl | hb | hb
                  · exact HRj.out.lt
                  · exact (H7.out.lt b hb).2
                  · exact (H9.out.lt b hb).2
                · exact (keeps_put HK.out 3 _).mono (fun x hx => by subst hx; exact HFG.out)
                · intro b hb
                  rcases hb with rfl | hb | hb
                  · exact .inl HFG.out
                  · exact .inr (H7.out.lt b hb).1
                  · exact .inr (H9.out.lt b hb).1
              · -- 1, 15, 6
                simp only [List.getD_cons_zero, List.getD_cons_succ]
                go_wp2_with fail
                refine NoPanic.normal ?_
                show _ ∧ HG.wpAnyG _ _ _ _ _ _ _ _ _ _
                obtain ⟨we, hw_we⟩ : ∃ W : World, W = wd.alloc (.cells #[.string repo, .string n, .int .i64 c, .int .i64 (-2)] 41 (0, 0)) := ⟨_, rfl⟩
                rw [← hw_we]
                have hsz_we : Hid (we.heap.size = wd.heap.size + 1) := by show _ = _; rw [hw_we]; simp
                have hb7 : Hid (we.heap[wd.heap.size]? = some (.cells #[.string repo, .string n, .int .i64 c, .int .i64 (-2)] 41 (0, 0))) := by rw [hw_we]; exact heap_alloc_new _ _
                have HE : Hid (we.ownsRow w.heap.size 41 4 (.slice (some ⟨wc.heap.size, 0, none⟩) 0 0) 0 []) := by rw [hw_we]; exact HE.out.alloc _
                have HB : Hid (Below w.heap.size w we) := by rw [hw_we]; exact HB.out.alloc HB.out.size _
                clear hw_we
                first | refine ⟨fun _ => HS.out _ HB.out, ?_⟩ | refine ⟨HS.out _ HB.out, ?_⟩
                refine HG.one (i := 6) (by kernel_rfl) (by kernel_rfl) ?_
                simp only [List.getD_cons_zero, List.getD_cons_succ]
                have hlist := own_keep HL.out HB.out
                go_wp2_with (at_builtin; go_must (refine wpList_append_row _ rfl _ _ _ rfl w.heap.size 41 i0 _ 4 48 Try.underlying44 hi0 hz0 hz1 hz2 rfl (by omega) (.slice (some ⟨wc.heap.size, 0, none⟩) 0 0) 0 [] rfl HE.out 0 l.length (.slice la l.length lc) (fetC repo l) rfl hlist (fetC_one _ _) (by unfold maxLen; omega) (by omega) HB.out.size ?_))
                clear hlist
                intro v6 wf hown6 hgrow6
                have hb7 : Hid (wf.heap[wd.heap.size]? = some (.cells #[.string repo, .string n, .int .i64 c, .int .i64 (-2)] 41 (0, 0))) := by
                  have hlt7 := (Array.getElem?_eq_some_iff.1 hb7.out).1
                  exact (hgrow6.block _ hlt7 (fun he => by have q := hsz_wd.out; simp [Value.ownBlock] at he; omega)).trans hb7.out
                have H6 : Hid (wf.ownsRow w.heap.size 41 4 v6 l.length (fetC repo l)) := by
                  show World.ownsRow _ _ _ _ _ _ _
                  simpa using hown6
                have HB : Hid (Below w.heap.size w wf) := HB.out.grown hgrow6 HB.out.size (fun k hk => (HE.out.lt k hk).1)
                clear hown6 hgrow6 HE
                go_wp2_with fail
                refine NoPanic.normal ?_
                show _ ∧ HG.wpAnyG _ _ _ _ _ _ _ _ _ _
                first | refine ⟨fun _ => HS.out _ HB.out, ?_⟩ | refine ⟨HS.out _ HB.out, ?_⟩
                refine HG.one (i := 16) (by kernel_rfl) (by kernel_rfl) ?_
                simp only [List.getD_cons_zero, List.getD_cons_succ]
                go_wp2_with (at_builtin; go_must (refine wpList_append_own_at _ rfl _ _ _ rfl w.heap.size 41 i0 _ 4 48 Try.underlying44 hi0 hz0 hz1 hz2 rfl (by omega) v6 l.length _ rfl H6.out ⟨wd.heap.size, 0, none⟩ 1 1 [.string repo, .string n, .int .i64 c, .int .i64 (-2)] rfl rfl (World.news_of_block hb7.out) (by simp [Value.oneCell']) (by unfold maxLen; omega) (by omega) HB.out.size ?_))
                intro v7 wg hown7 hgrow7 _ _
                have HB : Hid (Below w.heap.size w wg) := HB.out.grown hgrow7 HB.out.size (fun k hk => (H6.out.lt k hk).1)
                obtain ⟨va, vl, vc, rfl⟩ := own_slice hown7
                have H7 : Hid (wg.ownsRow w.heap.size 41 4 (.slice va vl vc) (l.length + 1) (fetC repo (l ++ [⟨n, c, -2, ⟨#[]⟩⟩]))) := by
                  show World.ownsRow _ _ _ _ _ _ _
                  rw [fetC_snoc]; exact hown7
                clear hown7 hgrow7 H6 hb7
                go_wp2_with fail
                refine NoPanic.normal ?_
                show _ ∧ HG.wpAnyG _ _ _ _ _ _ _ _ _ _
                first | refine ⟨fun _ => HS.out _ HB.out, ?_⟩ | refine ⟨HS.out _ HB.out, ?_⟩
                refine HG.one (i := 17) (by kernel_rfl) (by kernel_rfl) ?_
                simp only [List.getD_cons_zero, List.getD_cons_succ]
                go_wp2_with fail
                refine NoPanic.normal ?_
                show _ ∧ HG.wpAnyG _ _ _ _ _ _ _ _ _ _
                first | refine ⟨fun _ => HS.out _ HB.out, ?_⟩ | refine ⟨HS.out _ HB.out, ?_⟩
                refine HG.one (i := 18) (by kernel_rfl) (by kernel_rfl) ?_
                simp only [List.getD_cons_zero, List.getD_cons_succ]
                go_wp2_with fail
                refine NoPanic.normal ?_
                show _ ∧ HG.wpAnyG _ _ _ _ _ _ _ _ _ _
                first | refine ⟨fun _ => HS.out _ HB.out, ?_⟩ | refine ⟨HS.out _ HB.out, ?_⟩
                refine HG.one (i := 19) (by kernel_rfl) (by kernel_rfl) ?_
                simp only [List.getD_cons_zero, List.getD_cons_succ]
                have hbk := bk_keep HR.out (Keeps.of_below (F := fun _ => False) HB.out) (fun h => h)
                have z2 := hbk.cell 2
                have z2f := hbk.frozen 2
                go_wp2_with fail
                obtain ⟨wh, hwh⟩ : ∃ W : World, W = wg.setCell ⟨g, 2, none⟩ (.slice va vl vc) := ⟨_, rfl⟩
                rw [← hwh]
                have HRh : Hid (Bk wh g 49 #[.string repo, .slice A fs.length cap, .slice va vl vc, dv]) := by rw [hwh]; exact hbk.put 2 _
                have HK : Hid (Keeps (fun b => b = g) w wh) := by rw [hwh]; exact keeps_put (Keeps.of_below HB.out) 2 _
                have H7 : Hid (wh.ownsRow w.heap.size 41 4 (.slice va vl vc) (l.length + 1) (fetC repo (l ++ [⟨n, c, -2, ⟨#[]⟩⟩]))) := by rw [hwh]; exact row_keep H7.out (keeps_put (Keeps.refl _ _) 2 _) (fun b hb he => by have := (H7.out.lt b hb).1; omega)
                clear hbk z2 z2f hwh HB
                refine NoPanic.normal ?_
                show _ ∧ HG.wpAnyG _ _ _ _ _ _ _ _ _ _
                first | refine ⟨fun h => absurd rfl h, ?_⟩ | refine ⟨trivial, ?_⟩
                refine HG.end_ (by kernel_rfl) ?_
                have HDh := Lib.hid (row_keep HD.out HK.out (fun b hb he => by subst he; exact own_bk HD.out HR.out (by decide) hb))
                have g3 := HRh.out.cell 3
                have hglh := HRh.out.lt
                obtain ⟨da, dn, dc, rfl⟩ := own_slice HD.out
                go_wp2_with (at_builtin; go_must (refine wpList_append_row _ rfl _ _ _ rfl w.heap.size 9 j0 _ 1 16 Try.underlying47 hj0 hy0 hy1 hy2 rfl (by omega) _ 0 [] rfl (World.ownsRow_made _ #[] 0 HK.out.size (Nat.zero_le _) rfl) 0 l.length (.slice da dn dc) (datas l) rfl (HDh.out.alloc _) (datas_one _) (by unfold maxLen; omega) (by omega) (by rw [World.size_alloc]; have := HK.out.size; omega) ?_))
                intro v8 wi hown8 hgrow8
                have H8 : Hid (wi.ownsRow w.heap.size 9 1 v8 l.length (datas l)) := by
                  show World.ownsRow _ _ _ _ _ _ _
                  simpa using hown8
                have hks := HK.out.size
                have hGR : Hid (Below wh.heap.size wh wi) := ((Below.refl _ wh).alloc (Nat.le_refl _) _).grown hgrow8 (by simp) (by intro k hk; simp [Value.ownBlock] at hk; omega)
                have H7 := Lib.hid (own_keep H7.out hGR.out)
                have HRi := Lib.hid (bk_keep HRh.out (Keeps.of_below (F := fun _ => False) hGR.out) (fun h => h))
                have HK := Lib.hid (HK.out.trans (Keeps.of_below (F := fun _ => False) hGR.out) (fun x h => h.elim))
                have hks2 := HK.out.size
                clear hown8 hgrow8 hGR g3 HRh HDh
                go_wp2_with (at_builtin; go_must (refine wpList_append_own_at _ rfl _ _ _ rfl w.heap.size 9 j0 _ 1 16 Try.underlying47 hj0 hy0 hy1 hy2 rfl (by omega) v8 l.length _ rfl (H8.out.alloc _) ⟨wi.heap.size, 0, none⟩ 1 1 [.string ⟨#[]⟩] rfl rfl (World.news_of_block (heap_alloc_new _ _)) (by simp [Value.oneCell']) (by unfold maxLen; omega) (by omega) (by rw [World.size_alloc]; omega) ?_))
                intro v9 wj hown9 hgrow9 _ _
                have hG9 : Hid (Keeps (fun b => v8.ownBlock = some b) wi wj) := (Keeps.of_below (F := fun b => v8.ownBlock = some b) ((Below.refl _ wi).alloc (Nat.le_refl _) _)).grown hgrow9 (fun b hb => .inl hb)
                obtain ⟨xa, xl, xc, rfl⟩ := own_slice hown9
                have H9 : Hid (wj.ownsRow w.heap.size 9 1 (.slice xa xl xc) (l.length + 1) (datas (l ++ [⟨n, c, -2, ⟨#[]⟩⟩]))) := by
                  show World.ownsRow _ _ _ _ _ _ _
                  rw [datas_snoc]; exact hown9
                have H7 := Lib.hid (row_keep H7.out hG9.out (fun b hb he => by rcases own_own H7.out H8.out (by decide) with h0 | h0; · rw [h0] at hb; cases hb
                                                                               · exact h0 (hb.trans he.symm)))
                have hbk := bk_keep HRi.out hG9.out (own_bk H8.out HRi.out (by decide))
                have HK := Lib.hid (HK.out.trans hG9.out (fun x hx => .inr (H8.out.lt x hx).1))
                have z3 := hbk.cell 3
                have z3f := hbk.frozen 3
                have HRj := Lib.hid hbk
                clear hbk hown9 hgrow9 hG9 HRi H8
                go_wp2_with fail
                go_ret3
                refine ⟨rfl, fun b => b = g ∨ (Value.slice va vl vc).ownBlock = some b ∨ (Value.slice xa xl xc).ownBlock = some b, ⟨.slice va vl vc, .slice xa xl xc, ?_, ?_, ?_, .inl rfl, fun b hb => .inr (.inl hb), fun b hb => .inr (.inr hb), ?_⟩, ?_, ?_⟩
                · exact HRj.out.put 3 _
                · rw [List.length_append]
                  exact own_mono (row_keep H7.out (keeps_put (Keeps.refl _ _) 3 _) (fun b hb he => by have := (H7.out.lt b hb).1; omega)) (Nat.zero_le _)
                · rw [List.length_append]
                  exact own_mono (row_keep H9.out (keeps_put (Keeps.refl _ _) 3 _) (fun b hb he => by have := (H9.out.lt b hb).1; omega)) (Nat.zero_le _)
                · intro b hb
                  have hzz : (wj.setCell ⟨g, 3, none⟩ (.slice xa xl xc)).heap.size = wj.heap.size := by simp [World.setCell]
                  rw [hzz]
                  rcases hb with rfl | hb | hb
                  · exact HRj.out.lt
                  · exact (H7.out.lt b hb).2
                  · exact (H9.out.lt b hb).2
                · exact (keeps_put HK.out 3 _).mono (fun x hx => by subst hx; exact HFG.out)
                · intro b hb
                  rcases hb with rfl | hb | hb
                  · exact .inl HFG.out
                  · exact .inr (H7.out.lt b hb).1
                  · exact .inr (H9.out.lt b hb).1
            · -- 15, 1, 6
              simp only [List.getD_cons_zero, List.getD_cons_succ]
              go_wp2_with fail
              refine NoPanic.normal ?_
              show _ ∧ HG.wpAnyG _ _ _ _ _ _ _ _ _ _
              obtain ⟨wd, hw_wd⟩ : ∃ W : World, W = wc.alloc (.cells #[.string repo, .string n, .int .i64 c, .int .i64 (-2)] 41 (0, 0)) := ⟨_, rfl⟩
              rw [← hw_wd]
              have hsz_wd : Hid (wd.heap.size = wc.heap.size + 1) := by show _ = _; rw [hw_wd]; simp
              have hb7 : Hid (wd.heap[wc.heap.size]? = some (.cells #[.string repo, .string n, .int .i64 c, .int .i64 (-2)] 41 (0, 0))) := by rw [hw_wd]; exact heap_alloc_new _ _
              have HB : Hid (Below w.heap.size w wd) := by rw [hw_wd]; exact HB.out.alloc HB.out.size _
              clear hw_wd
              first | refine ⟨fun _ => HS.out _ HB.out, ?_⟩ | refine ⟨HS.out _ HB.out, ?_⟩
              refine HG.one (i := 1) (by kernel_rfl) (by kernel_rfl) ?_
              simp only [List.getD_cons_zero, List.getD_cons_succ]
              go_wp2_with fail
              refine NoPanic.normal ?_
              show _ ∧ HG.wpAnyG _ _ _ _ _ _ _ _ _ _
              obtain ⟨we, hw_we⟩ : ∃ W : World, W = wd.alloc (.cells #[] 41 (0, 0)) := ⟨_, rfl⟩
              rw [← hw_we]
              have hsz_we : Hid (we.heap.size = wd.heap.size + 1) := by show _ = _; rw [hw_we]; simp
              have HE : Hid (we.ownsRow w.heap.size 41 4 (.slice (some ⟨wd.heap.size, 0, none⟩) 0 0) 0 []) := by rw [hw_we]; exact World.ownsRow_made _ #[] 0 HB.out.size (Nat.zero_le _) rfl
              have hb7 : Hid (we.heap[wc.heap.size]? = some (.cells #[.string repo, .string n, .int .i64 c, .int .i64 (-2)] 41 (0, 0))) := by rw [hw_we]; exact (Below.heap_alloc _ _ _ (Array.getElem?_eq_some_iff.1 hb7.out).1).trans hb7.out
              have HB : Hid (Below w.heap.size w we) := by rw [hw_we]; exact HB.out.alloc HB.out.size _
              clear hw_we
              first | refine ⟨fun _ => HS.out _ HB.out, ?_⟩ | refine ⟨HS.out _ HB.out, ?_⟩
              refine HG.one (i := 6) (by kernel_rfl) (by kernel_rfl) ?_
              simp only [List.getD_cons_zero, List.getD_cons_succ]
              have hlist := own_keep HL.out HB.out
              go_wp2_with (at_builtin; go_must (refine wpList_append_row _ rfl _ _ _ rfl w.heap.size 41 i0 _ 4 48 Try.underlying44 hi0 hz0 hz1 hz2 rfl (by omega) (.slice (some ⟨wd.heap.size, 0, none⟩) 0 0) 0 [] rfl HE.out 0 l.length (.slice la l.length lc) (fetC repo l) rfl hlist (fetC_one _ _) (by unfold maxLen; omega) (by omega) HB.out.size ?_))
              clear hlist
              intro v6 wf hown6 hgrow6
              have hb7 : Hid (wf.heap[wc.heap.size]? = some (.cells #[.string repo, .string n, .int .i64 c, .int .i64 (-2)] 41 (0, 0))) := by
                have hlt7 := (Array.getElem?_eq_some_iff.1 hb7.out).1
                exact (hgrow6.block _ hlt7 (fun he => by have q := hsz_wd.out; simp [Value.ownBlock] at he; omega)).trans hb7.out
              have H6 : Hid (wf.ownsRow w.heap.size 41 4 v6 l.length (fetC repo l)) := by
                show World.ownsRow _ _ _ _ _ _ _
                simpa using hown6
              have HB : Hid (Below w.heap.size w wf) := HB.out.grown hgrow6 HB.out.size (fun k hk => (HE.out.lt k hk).1)
              clear hown6 hgrow6 HE
              go_wp2_with fail
              refine NoPanic.normal ?_
              show _ ∧ HG.wpAnyG _ _ _ _ _ _ _ _ _ _
              first | refine ⟨fun _ => HS.out _ HB.out, ?_⟩ | refine ⟨HS.out _ HB.out, ?_⟩
              refine HG.one (i := 16) (by kernel_rfl) (by kernel_rfl) ?_
              simp only [List.getD_cons_zero, List.getD_cons_succ]
              go_wp2_with (at_builtin; go_must (refine wpList_append_own_at _ rfl _ _ _ rfl w.heap.size 41 i0 _ 4 48 Try.underlying44 hi0 hz0 hz1 hz2 rfl (by omega) v6 l.length _ rfl H6.out ⟨wc.heap.size, 0, none⟩ 1 1 [.string repo, .string n, .int .i64 c, .int .i64 (-2)] rfl rfl (World.news_of_block hb7.out) (by simp [Value.oneCell']) (by unfold maxLen; omega) (by omega) HB.out.size ?_))
              intro v7 wg hown7 hgrow7 _ _
              have HB : Hid (Below w.heap.size w wg) := HB.out.grown hgrow7 HB.out.size (fun k hk => (H6.out.lt k hk).1)
              obtain ⟨va, vl, vc, rfl⟩ := own_slice hown7
              have H7 : Hid (wg.ownsRow w.heap.size 41 4 (.slice va vl vc) (l.length + 1) (fetC repo (l ++ [⟨n, c, -2, ⟨#[]⟩⟩]))) := by
                show World.ownsRow _ _ _ _ _ _ _
                rw [fetC_snoc]; exact hown7
              clear hown7 hgrow7 H6 hb7
              go_wp2_with fail
              refine NoPanic.normal ?_
              show _ ∧ HG.wpAnyG _ _ _ _ _ _ _ _ _ _
              first | refine ⟨fun _ => HS.out _ HB.out, ?_⟩ | refine ⟨HS.out _ HB.out, ?_⟩
              refine HG.one (i := 17) (by kernel_rfl) (by kernel_rfl) ?_
              simp only [List.getD_cons_zero, List.getD_cons_succ]
              go_wp2_with fail
              refine NoPanic.normal ?_
              show _ ∧ HG.wpAnyG _ _ _ _ _ _ _ _ _ _
              first | refine ⟨fun _ => HS.out _ HB.out, ?_⟩ | refine ⟨HS.out _ HB.out, ?_⟩
              refine HG.one (i := 18) (by kernel_rfl) (by kernel_rfl) ?_
              simp only [List.getD_cons_zero, List.getD_cons_succ]
              go_wp2_with fail
              refine NoPanic.normal ?_
              show _ ∧ HG.wpAnyG _ _ _ _ _ _ _ _ _ _
              first | refine ⟨fun _ => HS.out _ HB.out, ?_⟩ | refine ⟨HS.out _ HB.out, ?_⟩
              refine HG.one (i := 19) (by kernel_rfl) (by kernel_rfl) ?_
              simp only [List.getD_cons_zero, List.getD_cons_succ]
              have hbk := bk_keep HR.out (Keeps.of_below (F := fun _ => False) HB.out) (fun h => h)
              have z2 := hbk.cell 2
              have z2f := hbk.frozen 2
              go_wp2_with fail
              obtain ⟨wh, hwh⟩ : ∃ W : World, W = wg.setCell ⟨g, 2, none⟩ (.slice va vl vc) := ⟨_, rfl⟩
              rw [← hwh]
              have HRh : Hid (Bk wh g 49 #[.string repo, .slice A fs.length cap, .slice va vl vc, dv]) := by rw [hwh]; exact hbk.put 2 _
              have HK : Hid (Keeps (fun b => b = g) w wh) := by rw [hwh]; exact keeps_put (Keeps.of_below HB.out) 2 _
              have H7 : Hid (wh.ownsRow w.heap.size 41 4 (.slice va vl vc) (l.length + 1) (fetC repo (l ++ [⟨n, c, -2, ⟨#[]⟩⟩]))) := by rw [hwh]; exact row_keep H7.out (keeps_put (Keeps.refl _ _) 2 _) (fun b hb he => by have := (H7.out.lt b hb).1; omega)
              clear hbk z2 z2f hwh HB
              refine NoPanic.normal ?_
              show _ ∧ HG.wpAnyG _ _ _ _ _ _ _ _ _ _
              first | refine ⟨fun h => absurd rfl h, ?_⟩ | refine ⟨trivial, ?_⟩
              refine HG.end_ (by kernel_rfl) ?_
              have HDh := Lib.hid (row_keep HD.out HK.out (fun b hb he => by subst he; exact own_bk HD.out HR.out (by decide) hb))
              have g3 := HRh.out.cell 3
              have hglh := HRh.out.lt
              obtain ⟨da, dn, dc, rfl⟩ := own_slice HD.out
              go_wp2_with (at_builtin; go_must (refine wpList_append_row _ rfl _ _ _ rfl w.heap.size 9 j0 _ 1 16 Try.underlying47 hj0 hy0 hy1 hy2 rfl (by omega) _ 0 [] rfl (World.ownsRow_made _ #[] 0 HK.out.size (Nat.zero_le _) rfl) 0 l.length (.slice da dn dc) (datas l) rfl (HDh.out.alloc _) (datas_one _) (by unfold maxLen; omega) (by omega) (by rw [World.size_alloc]; have := HK.out.size; omega) ?_))
              intro v8 wi hown8 hgrow8
              have H8 : Hid (wi.ownsRow w.heap.size 9 1 v8 l.length (datas l)) := by
                show World.ownsRow _ _ _ _ _ _ _
                simpa using hown8
              have hks := HK.out.size
              have hGR : Hid (Below wh.heap.size wh wi) := ((Below.refl _ wh).alloc (Nat.le_refl _) _).grown hgrow8 (by simp) (by intro k hk; simp [Value.ownBlock] at hk; omega)
              have H7 := Lib.hid (own_keep H7.out hGR.out)
              have HRi := Lib.hid (bk_keep HRh.out (Keeps.of_below (F := fun _ => False) hGR.out) (fun h => h))
              have HK := Lib.hid (HK.out.trans (Keeps.of_below (F := fun _ => False) hGR.out) (fun x h => h.elim))
              have hks2 := HK.out.size
              clear hown8 hgrow8 hGR g3 HRh HDh
              go_wp2_with (at_builtin; go_must (refine wpList_append_own_at _ rfl _ _ _ rfl w.heap.size 9 j0 _ 1 16 Try.underlying47 hj0 hy0 hy1 hy2 rfl (by omega) v8 l.length _ rfl (H8.out.alloc _) ⟨wi.heap.size, 0, none⟩ 1 1 [.string ⟨#[]⟩] rfl rfl (World.news_of_block (heap_alloc_new _ _)) (by simp [Value.oneCell']) (by unfold maxLen; omega) (by omega) (by rw [World.size_alloc]; omega) ?_))
              intro v9 wj hown9 hgrow9 _ _
              have hG9 : Hid (Keeps (fun b => v8.ownBlock = some b) wi wj) := (Keeps.of_below (F := fun b => v8.ownBlock = some b) ((Below.refl _ wi).alloc (Nat.le_refl _) _)).grown hgrow9 (fun b hb => .inl hb)
              obtain ⟨xa, xl, xc, rfl⟩ := own_slice hown9
              have H9 : Hid (wj.ownsRow w.heap.size 9 1 (.slice xa xl xc) (l.length + 1) (datas (l ++ [⟨n, c, -2, ⟨#[]⟩⟩]))) := by
                show World.ownsRow _ _ _ _ _ _ _
                rw [datas_snoc]; exact hown9
              have H7 := Lib.hid (row_keep H7.out hG9.out (fun b hb he => by rcases own_own H7.out H8.out (by decide) with h0 | h0; · rw [h0] at hb; cases hb
                                                                             · exact h0 (hb.trans he.symm)))
              have hbk := bk_keep HRi.out hG9.out (own_bk H8.out HRi.out (by decide))
              have HK := Lib.hid (HK.out.trans hG9.out (fun x hx => .inr (H8.out.lt x hx).1))
              have z3 := hbk.cell 3
              have z3f := hbk.frozen 3
              have HRj := Lib.hid hbk
              clear hbk hown9 hgrow9 hG9 HRi H8
              go_wp2_with fail
              go_ret3
              refine ⟨rfl, fun b => b = g ∨ (Value.slice va vl vc).ownBlock = some b ∨ (Value.slice xa xl xc).ownBlock = some b, ⟨.slice va vl vc, .slice xa xl xc, ?_, ?_, ?_, .inl rfl, fun b hb => .inr (.inl hb), fun b hb => .inr (.inr hb), ?_⟩, ?_, ?_⟩
              · exact HRj.out.put 3 _
              · rw [List.length_append]
                exact own_mono (row_keep H7.out (keeps_put (Keeps.refl _ _) 3 _) (fun b hb he => by have := (H7.out.lt b hb).1; omega)) (Nat.zero_le _)
              · rw [List.length_append]
                exact own_mono (row_keep H9.out (keeps_put (Keeps.refl _ _) 3 _) (fun b hb he => by have := (H9.out.lt b hb).1; omega)) (Nat.zero_le _)
              · intro b hb
                have hzz : (wj.setCell ⟨g, 3, none⟩ (.slice xa xl xc)).heap.size = wj.heap.size := by simp [World.setCell]
                rw [hzz]
                rcases hb with rfl | hb | hb
                · exact HRj.out.lt
                · exact (H7.out.lt b hb).2
                · exact (H9.out.lt b hb).2
              · exact (keeps_put HK.out 3 _).mono (fun x hx => by subst hx; exact HFG.out)
              · intro b hb
                rcases hb with rfl | hb | hb
                · exact .inl HFG.out
                · exact .inr (H7.out.lt b hb).1
                · exact .inr (H9.out.lt b hb).1
          · obtain rfl := HX.out.trans (hfit hcz)
            have c2 : decide (c < z) = false := decide_eq_false hcz
            clear hbig hfit
            go_wp2_with fail
            refine HG.wp_region_G (fun W => RSees W g repo (.slice la l.length lc)) 19 [0, 2, 3, 4, 5, 7, 8, 9, 10, 11, 12, 13, 14] 7 (by kernel_rfl) (by kernel_rfl) (by have h := HS.out wr HB.out; exact h) ?_
            refine ⟨_, .inl ⟨rfl, fun W _ => BigFrame.run_move _ rfl W⟩, ?_⟩
            try simp only [Fst.wpFstS, Act.put, Act.eval, List.getD_cons_zero, List.getD_cons_succ, List.setIfInBounds_toArray, List.set_cons_zero, List.set_cons_succ, Lex.getD_zero, Lex.getD_succ]
            refine ⟨_, .inl ⟨rfl, fun W _ => BigFrame.run_move _ rfl W⟩, ?_⟩
            try simp only [Fst.wpFstS, Act.put, Act.eval, List.getD_cons_zero, List.getD_cons_succ, List.setIfInBounds_toArray, List.set_cons_zero, List.set_cons_succ, Lex.getD_zero, Lex.getD_succ]
            refine ⟨.pointer (some ⟨g, 0, none⟩), .inl ⟨rfl, fun W hW => ?_⟩, ?_⟩
            · simp only [Act.put, Act.eval, List.getD_cons_zero, List.getD_cons_succ, Lex.getD_zero, Lex.getD_succ, execOp]
              simp [go_sem, Result.andThen]
            try simp only [Fst.wpFstS, Act.put, Act.eval, List.getD_cons_zero, List.getD_cons_succ, List.setIfInBounds_toArray, List.set_cons_zero, List.set_cons_succ, Lex.getD_zero, Lex.getD_succ]
            refine ⟨.pointer (some ⟨g, 2, none⟩), .inl ⟨rfl, fun W hW => ?_⟩, ?_⟩
            · simp only [Act.put, Act.eval, List.getD_cons_zero, List.getD_cons_succ, Lex.getD_zero, Lex.getD_succ, execOp]
              simp [fa_rst2, Result.andThen]
            try simp only [Fst.wpFstS, Act.put, Act.eval, List.getD_cons_zero, List.getD_cons_succ, List.setIfInBounds_toArray, List.set_cons_zero, List.set_cons_succ, Lex.getD_zero, Lex.getD_succ]
            refine ⟨.slice la l.length lc, .inl ⟨rfl, fun W hW => ?_⟩, ?_⟩
            · simp only [Act.put, Act.eval, List.getD_cons_zero, List.getD_cons_succ, Lex.getD_zero, Lex.getD_succ, execOp]
              simp [ld_fets _ _ _ _ hW.2, Result.andThen]
            try simp only [Fst.wpFstS, Act.put, Act.eval, List.getD_cons_zero, List.getD_cons_succ, List.setIfInBounds_toArray, List.set_cons_zero, List.set_cons_succ, Lex.getD_zero, Lex.getD_succ]
            refine ⟨_, .inl ⟨rfl, fun W _ => BigFrame.run_move _ rfl W⟩, ?_⟩
            try simp only [Fst.wpFstS, Act.put, Act.eval, List.getD_cons_zero, List.getD_cons_succ, List.setIfInBounds_toArray, List.set_cons_zero, List.set_cons_succ, Lex.getD_zero, Lex.getD_succ]
            refine ⟨.pointer (some ⟨g, 0, none⟩), .inl ⟨rfl, fun W hW => ?_⟩, ?_⟩
            · simp only [Act.put, Act.eval, List.getD_cons_zero, List.getD_cons_succ, Lex.getD_zero, Lex.getD_succ, execOp]
              simp [go_sem, Result.andThen]
            try simp only [Fst.wpFstS, Act.put, Act.eval, List.getD_cons_zero, List.getD_cons_succ, List.setIfInBounds_toArray, List.set_cons_zero, List.set_cons_succ, Lex.getD_zero, Lex.getD_succ]
            refine ⟨.pointer (some ⟨g, 0, none⟩), .inl ⟨rfl, fun W hW => ?_⟩, ?_⟩
            · simp only [Act.put, Act.eval, List.getD_cons_zero, List.getD_cons_succ, Lex.getD_zero, Lex.getD_succ, execOp]
              simp [fa_rst0, Result.andThen]
            try simp only [Fst.wpFstS, Act.put, Act.eval, List.getD_cons_zero, List.getD_cons_succ, List.setIfInBounds_toArray, List.set_cons_zero, List.set_cons_succ, Lex.getD_zero, Lex.getD_succ]
            refine ⟨.string repo, .inl ⟨rfl, fun W hW => ?_⟩, ?_⟩
            · simp only [Act.put, Act.eval, List.getD_cons_zero, List.getD_cons_succ, Lex.getD_zero, Lex.getD_succ, execOp]
              simp [ld_str _ _ _ _ hW.1, Result.andThen]
            try simp only [Fst.wpFstS, Act.put, Act.eval, List.getD_cons_zero, List.getD_cons_succ, List.setIfInBounds_toArray, List.set_cons_zero, List.set_cons_succ, Lex.getD_zero, Lex.getD_succ]
            refine ⟨_, .inl ⟨rfl, fun W _ => BigFrame.run_move _ rfl W⟩, ?_⟩
            try simp only [Fst.wpFstS, Act.put, Act.eval, List.getD_cons_zero, List.getD_cons_succ, List.setIfInBounds_toArray, List.set_cons_zero, List.set_cons_succ, Lex.getD_zero, Lex.getD_succ]
            refine ⟨_, .inl ⟨rfl, fun W _ => BigFrame.run_move _ rfl W⟩, ?_⟩
            try simp only [Fst.wpFstS, Act.put, Act.eval, List.getD_cons_zero, List.getD_cons_succ, List.setIfInBounds_toArray, List.set_cons_zero, List.set_cons_succ, Lex.getD_zero, Lex.getD_succ]
            refine ⟨_, .inl ⟨rfl, fun W _ => BigFrame.run_move _ rfl W⟩, ?_⟩
            try simp only [Fst.wpFstS, Act.put, Act.eval, List.getD_cons_zero, List.getD_cons_succ, List.setIfInBounds_toArray, List.set_cons_zero, List.set_cons_succ, Lex.getD_zero, Lex.getD_succ]
            refine ⟨.agg #[.string repo, .string n, .int .i64 c, .int .i64 z], .inl ⟨rfl, fun W hW => ?_⟩, ?_⟩
            · simp only [Act.put, Act.eval, List.getD_cons_zero, List.getD_cons_succ, Lex.getD_zero, Lex.getD_succ, execOp]
              simp [bld_fetch, Result.andThen]
            try simp only [Fst.wpFstS, Act.put, Act.eval, List.getD_cons_zero, List.getD_cons_succ, List.setIfInBounds_toArray, List.set_cons_zero, List.set_cons_succ, Lex.getD_zero, Lex.getD_succ]
            obtain ⟨wc, hwc⟩ : ∃ wc : World, wc = { wr with drawn := wr.drawn + 1 } := ⟨_, rfl⟩
            rw [← hwc]
            have HB : Hid (Below w.heap.size w wc) := by rw [hwc]; exact ⟨HB.out.os, HB.out.tape, HB.out.output, HB.out.size, HB.out.block⟩
            clear hwc
            refine HG.two (i := 1) (j := 15) (by kernel_rfl) (by kernel_rfl) ?_ ?_
            · -- 1 first
              simp only [List.getD_cons_zero, List.getD_cons_succ]
              go_wp2_with fail
              refine NoPanic.normal ?_
              show _ ∧ HG.wpAnyG _ _ _ _ _ _ _ _ _ _
              obtain ⟨wd, hw_wd⟩ : ∃ W : World, W = wc.alloc (.cells #[] 41 (0, 0)) := ⟨_, rfl⟩
              rw [← hw_wd]
              have hsz_wd : Hid (wd.heap.size = wc.heap.size + 1) := by show _ = _; rw [hw_wd]; simp
              have HE : Hid (wd.ownsRow w.heap.size 41 4 (.slice (some ⟨wc.heap.size, 0, none⟩) 0 0) 0 []) := by rw [hw_wd]; exact World.ownsRow_made _ #[] 0 HB.out.size (Nat.zero_le _) rfl
              have HB : Hid (Below w.heap.size w wd) := by rw [hw_wd]; exact HB.out.alloc HB.out.size _
              clear hw_wd
              first | refine ⟨fun _ => HS.out _ HB.out, ?_⟩ | refine ⟨HS.out _ HB.out, ?_⟩
              refine HG.two (i := 6) (j := 15) (by kernel_rfl) (by kernel_rfl) ?_ ?_
              · -- 1, 6, 15
                simp only [List.getD_cons_zero, List.getD_cons_succ]
                have hlist := own_keep HL.out HB.out
                go_wp2_with (at_builtin; go_must (refine wpList_append_row _ rfl _ _ _ rfl w.heap.size 41 i0 _ 4 48 Try.underlying44 hi0 hz0 hz1 hz2 rfl (by omega) (.slice (some ⟨wc.heap.size, 0, none⟩) 0 0) 0 [] rfl HE.out 0 l.length (.slice la l.length lc) (fetC repo l) rfl hlist (fetC_one _ _) (by unfold maxLen; omega) (by omega) HB.out.size ?_))
                clear hlist
                intro v6 we hown6 hgrow6
                have H6 : Hid (we.ownsRow w.heap.size 41 4 v6 l.length (fetC repo l)) := by
                  show World.ownsRow _ _ _ _ _ _ _
                  simpa using hown6
                have HB : Hid (Below w.heap.size w we) := HB.out.grown hgrow6 HB.out.size (fun k hk => (HE.out.lt k hk).1)
                clear hown6 hgrow6 HE
                go_wp2_with fail
                refine NoPanic.normal ?_
                show _ ∧ HG.wpAnyG _ _ _ _ _ _ _ _ _ _
                first | refine ⟨fun _ => HS.out _ HB.out, ?_⟩ | refine ⟨HS.out _ HB.out, ?_⟩
                refine HG.one (i := 15) (by kernel_rfl) (by kernel_rfl) ?_
                simp only [List.getD_cons_zero, List.getD_cons_succ]
                go_wp2_with fail
                refine NoPanic.normal ?_
                show _ ∧ HG.wpAnyG _ _ _ _ _ _ _ _ _ _
                obtain ⟨wf, hw_wf⟩ : ∃ W : World, W = we.alloc (.cells #[.string repo, .string n, .int .i64 c, .int .i64 z] 41 (0, 0)) := ⟨_, rfl⟩
                rw [← hw_wf]
                have hsz_wf : Hid (wf.heap.size = we.heap.size + 1) := by show _ = _; rw [hw_wf]; simp
                have hb7 : Hid (wf.heap[we.heap.size]? = some (.cells #[.string repo, .string n, .int .i64 c, .int .i64 z] 41 (0, 0))) := by rw [hw_wf]; exact heap_alloc_new _ _
                have H6 : Hid (wf.ownsRow w.heap.size 41 4 v6 l.length (fetC repo l)) := by rw [hw_wf]; exact H6.out.alloc _
                have HB : Hid (Below w.heap.size w wf) := by rw [hw_wf]; exact HB.out.alloc HB.out.size _
                clear hw_wf
                first | refine ⟨fun _ => HS.out _ HB.out, ?_⟩ | refine ⟨HS.out _ HB.out, ?_⟩
                refine HG.one (i := 16) (by kernel_rfl) (by kernel_rfl) ?_
                simp only [List.getD_cons_zero, List.getD_cons_succ]
                go_wp2_with (at_builtin; go_must (refine wpList_append_own_at _ rfl _ _ _ rfl w.heap.size 41 i0 _ 4 48 Try.underlying44 hi0 hz0 hz1 hz2 rfl (by omega) v6 l.length _ rfl H6.out ⟨we.heap.size, 0, none⟩ 1 1 [.string repo, .string n, .int .i64 c, .int .i64 z] rfl rfl (World.news_of_block hb7.out) (by simp [Value.oneCell']) (by unfold maxLen; omega) (by omega) HB.out.size ?_))
                intro v7 wg hown7 hgrow7 _ _
                have HB : Hid (Below w.heap.size w wg) := HB.out.grown hgrow7 HB.out.size (fun k hk => (H6.out.lt k hk).1)
                obtain ⟨va, vl, vc, rfl⟩ := own_slice hown7
                have H7 : Hid (wg.ownsRow w.heap.size 41 4 (.slice va vl vc) (l.length + 1) (fetC repo (l ++ [⟨n, c, z, d⟩]))) := by
                  show World.ownsRow _ _ _ _ _ _ _
                  rw [fetC_snoc]; exact hown7
                clear hown7 hgrow7 H6 hb7
                go_wp2_with fail
                refine NoPanic.normal ?_
                show _ ∧ HG.wpAnyG _ _ _ _ _ _ _ _ _ _
                first | refine ⟨fun _ => HS.out _ HB.out, ?_⟩ | refine ⟨HS.out _ HB.out, ?_⟩
                refine HG.one (i := 17) (by kernel_rfl) (by kernel_rfl) ?_
                simp only [List.getD_cons_zero, List.getD_cons_succ]
                go_wp2_with fail
                refine NoPanic.normal ?_
                show _ ∧ HG.wpAnyG _ _ _ _ _ _ _ _ _ _
                first | refine ⟨fun _ => HS.out _ HB.out, ?_⟩ | refine ⟨HS.out _ HB.out, ?_⟩
                refine HG.one (i := 18) (by kernel_rfl) (by kernel_rfl) ?_
                simp only [List.getD_cons_zero, List.getD_cons_succ]
                go_wp2_with fail
                refine NoPanic.normal ?_
                show _ ∧ HG.wpAnyG _ _ _ _ _ _ _ _ _ _
                first | refine ⟨fun _ => HS.out _ HB.out, ?_⟩ | refine ⟨HS.out _ HB.out, ?_⟩
                refine HG.one (i := 19) (by kernel_rfl) (by kernel_rfl) ?_
                simp only [List.getD_cons_zero, List.getD_cons_succ]
                have hbk := bk_keep HR.out (Keeps.of_below (F := fun _ => False) HB.out) (fun h => h)
                have z2 := hbk.cell 2
                have z2f := hbk.frozen 2
                go_wp2_with fail
                obtain ⟨wh, hwh⟩ : ∃ W : World, W = wg.setCell ⟨g, 2, none⟩ (.slice va vl vc) := ⟨_, rfl⟩
                rw [← hwh]
                have HRh : Hid (Bk wh g 49 #[.string repo, .slice A fs.length cap, .slice va vl vc, dv]) := by rw [hwh]; exact hbk.put 2 _
                have HK : Hid (Keeps (fun b => b = g) w wh) := by rw [hwh]; exact keeps_put (Keeps.of_below HB.out) 2 _
                have H7 : Hid (wh.ownsRow w.heap.size 41 4 (.slice va vl vc) (l.length + 1) (fetC repo (l ++ [⟨n, c, z, d⟩]))) := by rw [hwh]; exact row_keep H7.out (keeps_put (Keeps.refl _ _) 2 _) (fun b hb he => by have := (H7.out.lt b hb).1; omega)
                clear hbk z2 z2f hwh HB
                refine NoPanic.normal ?_
                show _ ∧ HG.wpAnyG _ _ _ _ _ _ _ _ _ _
                first | refine ⟨fun h => absurd rfl h, ?_⟩ | refine ⟨trivial, ?_⟩
                refine HG.end_ (by kernel_rfl) ?_
                have HDh := Lib.hid (row_keep HD.out HK.out (fun b hb he => by subst he; exact own_bk HD.out HR.out (by decide) hb))
                have g3 := HRh.out.cell 3
                have hglh := HRh.out.lt
                obtain ⟨da, dn, dc, rfl⟩ := own_slice HD.out
                go_wp2_with (at_builtin; go_must (refine wpList_append_row _ rfl _ _ _ rfl w.heap.size 9 j0 _ 1 16 Try.underlying47 hj0 hy0 hy1 hy2 rfl (by omega) _ 0 [] rfl (World.ownsRow_made _ #[] 0 HK.out.size (Nat.zero_le _) rfl) 0 l.length (.slice da dn dc) (datas l) rfl (HDh.out.alloc _) (datas_one _) (by unfold maxLen; omega) (by omega) (by rw [World.size_alloc]; have := HK.out.size; omega) ?_))
                intro v8 wi hown8 hgrow8
                have H8 : Hid (wi.ownsRow w.heap.size 9 1 v8 l.length (datas l)) := by
                  show World.ownsRow _ _ _ _ _ _ _
                  simpa using hown8
                have hks := HK.out.size
                have hGR : Hid (Below wh.heap.size wh wi) := ((Below.refl _ wh).alloc (Nat.le_refl _) _).grown hgrow8 (by simp) (by intro k hk; simp [Value.ownBlock] at hk; omega)
                have H7 := Lib.hid (own_keep H7.out hGR.out)
                have HRi := Lib.hid (bk_keep HRh.out (Keeps.of_below (F := fun _ => False) hGR.out) (fun h => h))
                have HK := Lib.hid (HK.out.trans (Keeps.of_below (F := fun _ => False) hGR.out) (fun x h => h.elim))
                have hks2 := HK.out.size
                clear hown8 hgrow8 hGR g3 HRh HDh
                go_wp2_with (at_builtin; go_must (refine wpList_append_own_at _ rfl _ _ _ rfl w.heap.size 9 j0 _ 1 16 Try.underlying47 hj0 hy0 hy1 hy2 rfl (by omega) v8 l.length _ rfl (H8.out.alloc _) ⟨wi.heap.size, 0, none⟩ 1 1 [.string d] rfl rfl (World.news_of_block (heap_alloc_new _ _)) (by simp [Value.oneCell']) (by unfold maxLen; omega) (by omega) (by rw [World.size_alloc]; omega) ?_))
                intro v9 wj hown9 hgrow9 _ _
                have hG9 : Hid (Keeps (fun b => v8.ownBlock = some b) wi wj) := (Keeps.of_below (F := fun b => v8.ownBlock = some b) ((Below.refl _ wi).alloc (Nat.le_refl _) _)).grown hgrow9 (fun b hb => .inl hb)
                obtain ⟨xa, xl, xc, rfl⟩ := own_slice hown9
                have H9 : Hid (wj.ownsRow w.heap.size 9 1 (.slice xa xl xc) (l.length + 1) (datas (l ++ [⟨n, c, z, d⟩]))) := by
                  show World.ownsRow _ _ _ _ _ _ _
                  rw [datas_snoc]; exact hown9
                have H7 := Lib.hid (row_keep H7.out hG9.out (fun b hb he => by rcases own_own H7.out H8.out (by decide) with h0 | h0; · rw [h0] at hb; cases hb
                                                                               · exact h0 (hb.trans he.symm)))
                have hbk := bk_keep HRi.out hG9.out (own_bk H8.out HRi.out (by decide))
                have HK := Lib.hid (HK.out.trans hG9.out (fun x hx => .inr (H8.out.lt x hx).1))
                have z3 := hbk.cell 3
                have z3f := hbk.frozen 3
                have HRj := Lib.hid hbk
                clear hbk hown9 hgrow9 hG9 HRi H8
                go_wp2_with fail
                go_ret3
                refine ⟨rfl, fun b => b = g ∨ (Value.slice va vl vc).ownBlock = some b ∨ (Value.slice xa xl xc).ownBlock = some b, ⟨.slice va vl vc, .slice xa xl xc, ?_, ?_, ?_, .inl rfl, fun b hb => .inr (.inl hb), fun b hb => .inr (.inr hb), ?_⟩, ?_, ?_⟩
                · exact HRj.out.put 3 _
                · rw [List.length_append]
                  exact own_mono (row_keep H7.out (keeps_put (Keeps.refl _ _) 3 _) (fun b hb he => by have := (H7.out.lt b hb).1; omega)) (Nat.zero_le _)
                · rw [List.length_append]
                  exact own_mono (row_keep H9.out (keeps_put (Keeps.refl _ _) 3 _) (fun b hb he => by have := (H9.out.lt b hb).1; omega)) (Nat.zero_le _)
                · intro b hb
                  have hzz : (wj.setCell ⟨g, 3, none⟩ (.slice xa xl xc)).heap.size = wj.heap.size := by simp [World.setCell]
                  rw [hzz]
                  rcases hb with rfl | hb | hb
                  · exact HRj.out.lt
                  · exact (H7.out.lt b hb).2
                  · exact (H9.out.lt b hb).2
                · exact (keeps_put HK.out 3 _).mono (fun x hx => by subst hx; exact HFG.out)
                · intro b hb
                  rcases hb with rfl | hb | hb
                  · exact .inl HFG.out
                  · exact .inr (H7.out.lt b hb).1
                  · exact .inr (H9.out.lt b hb).1
              · -- 1, 15, 6
                simp only [List.getD_cons_zero, List.getD_cons_succ]
                go_wp2_with fail
                refine NoPanic.normal ?_
                show _ ∧ HG.wpAnyG _ _ _ _ _ _ _ _ _ _
                obtain ⟨we, hw_we⟩ : ∃ W : World, W = wd.alloc (.cells #[.string repo, .string n, .int .i64 c, .int .i64 z] 41 (0, 0)) := ⟨_, rfl⟩
                rw [← hw_we]
                have hsz_we : Hid (we.heap.size = wd.heap.size + 1) := by show _ = _; rw [hw_we]; simp
                have hb7 : Hid (we.heap[wd.heap.size]? = some (.cells #[.string repo, .string n, .int .i64 c, .int .i64 z] 41 (0, 0))) := by rw [hw_we]; exact heap_alloc_new _ _
                have HE : Hid (we.ownsRow w.heap.size 41 4 (.slice (some ⟨wc.heap.size, 0, none⟩) 0 0) 0 []) := by rw [hw_we]; exact HE.out.alloc _
                have HB : Hid (Below w.heap.size w we) := by rw [hw_we]; exact HB.out.alloc HB.out.size _
                clear hw_we
                first | refine ⟨fun _ => HS.out _ HB.out, ?_⟩ | refine ⟨HS.out _ HB.out, ?_⟩
                refine HG.one (i := 6) (by kernel_rfl) (by kernel_rfl) ?_
                simp only [List.getD_cons_zero, List.getD_cons_succ]
                have hlist := own_keep HL.out HB.out
                go_wp2_with (at_builtin; go_must (refine wpList_append_row _ rfl _ _ _ rfl w.heap.size 41 i0 _ 4 48 Try.underlying44 hi0 hz0 hz1 hz2 rfl (by omega) (.slice (some ⟨wc.heap.size, 0, none⟩) 0 0) 0 [] rfl HE.out 0 l.length (.slice la l.length lc) (fetC repo l) rfl hlist (fetC_one _ _) (by unfold maxLen; omega) (by omega) HB.out.size ?_))
                clear hlist
                intro v6 wf hown6 hgrow6
                have hb7 : Hid (wf.heap[wd.heap.size]? = some (.cells #[.string repo, .string n, .int .i64 c, .int .i64 z] 41 (0, 0))) := by
                  have hlt7 := (Array.getElem?_eq_some_iff.1 hb7.out).1
                  exact (hgrow6.block _ hlt7 (fun he => by have q := hsz_wd.out; simp [Value.ownBlock] at he; omega)).trans hb7.out
                have H6 : Hid (wf.ownsRow w.heap.size 41 4 v6 l.length (fetC repo l)) := by
                  show World.ownsRow _ _ _ _ _ _ _
                  simpa using hown6
                have HB : Hid (Below w.heap.size w wf) := HB.out.grown hgrow6 HB.out.size (fun k hk => (HE.out.lt k hk).1)
                clear hown6 hgrow6 HE
                go_wp2_with fail
                refine NoPanic.normal ?_
                show _ ∧ HG.wpAnyG _ _ _ _ _ _ _ _ _ _
                first | refine ⟨fun _ => HS.out _ HB.out, ?_⟩ | refine ⟨HS.out _ HB.out, ?_⟩
                refine HG.one (i := 16) (by kernel_rfl) (by kernel_rfl) ?_
                simp only [List.getD_cons_zero, List.getD_cons_succ]
                go_wp2_with (at_builtin; go_must (refine wpList_append_own_at _ rfl _ _ _ rfl w.heap.size 41 i0 _ 4 48 Try.underlying44 hi0 hz0 hz1 hz2 rfl (by omega) v6 l.length _ rfl H6.out ⟨wd.heap.size, 0, none⟩ 1 1 [.string repo, .string n, .int .i64 c, .int .i64 z] rfl rfl (World.news_of_block hb7.out) (by simp [Value.oneCell']) (by unfold maxLen; omega) (by omega) HB.out.size ?_))
                intro v7 wg hown7 hgrow7 _ _
                have HB : Hid (Below w.heap.size w wg) := HB.out.grown hgrow7 HB.out.size (fun k hk => (H6.out.lt k hk).1)
                obtain ⟨va, vl, vc, rfl⟩ := own_slice hown7
                have H7 : Hid (wg.ownsRow w.heap.size 41 4 (.slice va vl vc) (l.length + 1) (fetC repo (l ++ [⟨n, c, z, d⟩]))) := by
                  show World.ownsRow _ _ _ _ _ _ _
                  rw [fetC_snoc]; exact hown7
                clear hown7 hgrow7 H6 hb7
                go_wp2_with fail
                refine NoPanic.normal ?_
                show _ ∧ HG.wpAnyG _ _ _ _ _ _ _ _ _ _
                first | refine ⟨fun _ => HS.out _ HB.out, ?_⟩ | refine ⟨HS.out _ HB.out, ?_⟩
                refine HG.one (i := 17) (by kernel_rfl) (by kernel_rfl) ?_
                simp only [List.getD_cons_zero, List.getD_cons_succ]
                go_wp2_with fail
                refine NoPanic.normal ?_
                show _ ∧ HG.wpAnyG _ _ _ _ _ _ _ _ _ _
                first | refine ⟨fun _ => HS.out _ HB.out, ?_⟩ | refine ⟨HS.out _ HB.out, ?_⟩
                refine HG.one (i := 18) (by kernel_rfl) (by kernel_rfl) ?_
                simp only [List.getD_cons_zero, List.getD_cons_succ]
                go_wp2_with fail
                refine NoPanic.normal ?_
                show _ ∧ HG.wpAnyG _ _ _ _ _ _ _ _ _ _
                first | refine ⟨fun _ => HS.out _ HB.out, ?_⟩ | refine ⟨HS.out _ HB.out, ?_⟩
                refine HG.one (i := 19) (by kernel_rfl) (by kernel_rfl) ?_
                simp only [List.getD_cons_zero, List.getD_cons_succ]
                have hbk := bk_keep HR.out (Keeps.of_below (F := fun _ => False) HB.out) (fun h => h)
                have z2 := hbk.cell 2
                have z2f := hbk.frozen 2
                go_wp2_with fail
                obtain ⟨wh, hwh⟩ : ∃ W : World, W = wg.setCell ⟨g, 2, none⟩ (.slice va vl vc) := ⟨_, rfl⟩
                rw [← hwh]
                have HRh : Hid (Bk wh g 49 #[.string repo, .slice A fs.length cap, .slice va vl vc, dv]) := by rw [hwh]; exact hbk.put 2 _
                have HK : Hid (Keeps (fun b => b = g) w wh) := by rw [hwh]; exact keeps_put (Keeps.of_below HB.out) 2 _
                have H7 : Hid (wh.ownsRow w.heap.size 41 4 (.slice va vl vc) (l.length + 1) (fetC repo (l ++ [⟨n, c, z, d⟩]))) := by rw [hwh]; exact row_keep H7.out (keeps_put (Keeps.refl _ _) 2 _) (fun b hb he => by have := (H7.out.lt b hb).1; omega)
                clear hbk z2 z2f hwh HB
                refine NoPanic.normal ?_
                show _ ∧ HG.wpAnyG _ _ _ _ _ _ _ _ _ _
                first | refine ⟨fun h => absurd rfl h, ?_⟩ | refine ⟨trivial, ?_⟩
                refine HG.end_ (by kernel_rfl) ?_
                have HDh := Lib.hid (row_keep HD.out HK.out (fun b hb he => by subst he; exact own_bk HD.out HR.out (by decide) hb))
                have g3 := HRh.out.cell 3
                have hglh := HRh.out.lt
                obtain ⟨da, dn, dc, rfl⟩ := own_slice HD.out
                go_wp2_with (at_builtin; go_must (refine wpList_append_row _ rfl _ _ _ rfl w.heap.size 9 j0 _ 1 16 Try.underlying47 hj0 hy0 hy1 hy2 rfl (by omega) _ 0 [] rfl (World.ownsRow_made _ #[] 0 HK.out.size (Nat.zero_le _) rfl) 0 l.length (.slice da dn dc) (datas l) rfl (HDh.out.alloc _) (datas_one _) (by unfold maxLen; omega) (by omega) (by rw [World.size_alloc]; have := HK.out.size; omega) ?_))
                intro v8 wi hown8 hgrow8
                have H8 : Hid (wi.ownsRow w.heap.size 9 1 v8 l.length (datas l)) := by
                  show World.ownsRow _ _ _ _ _ _ _
                  simpa using hown8
                have hks := HK.out.size
                have hGR : Hid (Below wh.heap.size wh wi) := ((Below.refl _ wh).alloc (Nat.le_refl _) _).grown hgrow8 (by simp) (by intro k hk; simp [Value.ownBlock] at hk; omega)
                have H7 := Lib.hid (own_keep H7.out hGR.out)
                have HRi := Lib.hid (bk_keep HRh.out (Keeps.of_below (F := fun _ => False) hGR.out) (fun h => h))
                have HK := Lib.hid (HK.out.trans (Keeps.of_below (F := fun _ => False) hGR.out) (fun x h => h.elim))
                have hks2 := HK.out.size
                clear hown8 hgrow8 hGR g3 HRh HDh
                go_wp2_with (at_builtin; go_must (refine wpList_append_own_at _ rfl _ _ _ rfl w.heap.size 9 j0 _ 1 16 Try.underlying47 hj0 hy0 hy1 hy2 rfl (by omega) v8 l.length _ rfl (H8.out.alloc _) ⟨wi.heap.size, 0, none⟩ 1 1 [.string d] rfl rfl (World.news_of_block (heap_alloc_new _ _)) (by simp [Value.oneCell']) (by unfold maxLen; omega) (by omega) (by rw [World.size_alloc]; omega) ?_))
                intro v9 wj hown9 hgrow9 _ _
                have hG9 : Hid (Keeps (fun b => v8.ownBlock = some b) wi wj) := (Keeps.of_below (F := fun b => v8.ownBlock = some b) ((Below.refl _ wi).alloc (Nat.le_refl _) _)).grown hgrow9 (fun b hb => .inl hb)
                obtain ⟨xa, xl, xc, rfl⟩ := own_slice hown9
                have H9 : Hid (wj.ownsRow w.heap.size 9 1 (.slice xa xl xc) (l.length + 1) (datas (l ++ [⟨n, c, z, d⟩]))) := by
                  show World.ownsRow _ _ _ _ _ _ _
                  rw [datas_snoc]; exact hown9
                have H7 := Lib.hid (row_keep H7.out hG9.out (fun b hb he => by rcases own_own H7.out H8.out (by decide) with h0 | h0; · rw [h0] at hb; cases hb
                                                                               · exact h0 (hb.trans he.symm)))
                have hbk := bk_keep HRi.out hG9.out (own_bk H8.out HRi.out (by decide))
                have HK := Lib.hid (HK.out.trans hG9.out (fun x hx => .inr (H8.out.lt x hx).1))
                have z3 := hbk.cell 3
                have z3f := hbk.frozen 3
                have HRj := Lib.hid hbk
                clear hbk hown9 hgrow9 hG9 HRi H8
                go_wp2_with fail
                go_ret3
                refine ⟨rfl, fun b => b = g ∨ (Value.slice va vl vc).ownBlock = some b ∨ (Value.slice xa xl xc).ownBlock = some b, ⟨.slice va vl vc, .slice xa xl xc, ?_, ?_, ?_, .inl rfl, fun b hb => .inr (.inl hb), fun b hb => .inr (.inr hb), ?_⟩, ?_, ?_⟩
                · exact HRj.out.put 3 _
                · rw [List.length_append]
                  exact own_mono (row_keep H7.out (keeps_put (Keeps.refl _ _) 3 _) (fun b hb he => by have := (H7.out.lt b hb).1; omega)) (Nat.zero_le _)
                · rw [List.length_append]
                  exact own_mono (row_keep H9.out (keeps_put (Keeps.refl _ _) 3 _) (fun b hb he => by have := (H9.out.lt b hb).1; omega)) (Nat.zero_le _)
                · intro b hb
                  have hzz : (wj.setCell ⟨g, 3, none⟩ (.slice xa xl xc)).heap.size = wj.heap.size := by simp [World.setCell]
                  rw [hzz]
                  rcases hb with rfl | hb | hb
                  · exact HRj.out.lt
                  · exact (H7.out.lt b hb).2
                  · exact (H9.out.lt b hb).2
                · exact (keeps_put HK.out 3 _).mono (fun x hx => by subst hx; exact HFG.out)
                · intro b hb
                  rcases hb with rfl | hb | hb
                  · exact .inl HFG.out
                  · exact .inr (H7.out.lt b hb).1
                  · exact .inr (H9.out.lt b hb).1
            · -- 15, 1, 6
              simp only [List.getD_cons_zero, List.getD_cons_succ]
              go_wp2_with fail
              refine NoPanic.normal ?_
              show _ ∧ HG.wpAnyG _ _ _ _ _ _ _ _ _ _
              obtain ⟨wd, hw_wd⟩ : ∃ W : World, W = wc.alloc (.cells #[.string repo, .string n, .int .i64 c, .int .i64 z] 41 (0, 0)) := ⟨_, rfl⟩
              rw [← hw_wd]
              have hsz_wd : Hid (wd.heap.size = wc.heap.size + 1) := by show _ = _; rw [hw_wd]; simp
              have hb7 : Hid (wd.heap[wc.heap.size]? = some (.cells #[.string repo, .string n, .int .i64 c, .int .i64 z] 41 (0, 0))) := by rw [hw_wd]; exact heap_alloc_new _ _
              have HB : Hid (Below w.heap.size w wd) := by rw [hw_wd]; exact HB.out.alloc HB.out.size _
              clear hw_wd
              first | refine ⟨fun _ => HS.out _ HB.out, ?_⟩ | refine ⟨HS.out _ HB.out, ?_⟩
              refine HG.one (i := 1) (by kernel_rfl) (by kernel_rfl) ?_
              simp only [List.getD_cons_zero, List.getD_cons_succ]
              go_wp2_with fail
              refine NoPanic.normal ?_
              show _ ∧ HG.wpAnyG _ _ _ _ _ _ _ _ _ _
              obtain ⟨we, hw_we⟩ : ∃ W : World, W = wd.alloc (.cells #[] 41 (0, 0)) := ⟨_, rfl⟩
              rw [← hw_we]
              have hsz_we : Hid (we.heap.size = wd.heap.size + 1) := by show _ = _; rw [hw_we]; simp
              have HE : Hid (we.ownsRow w.heap.size 41 4 (.slice (some ⟨wd.heap.size, 0, none⟩) 0 0) 0 []) := by rw [hw_we]; exact World.ownsRow_made _ #[] 0 HB.out.size (Nat.zero_le _) rfl
              have hb7 : Hid (we.heap[wc.heap.size]? = some (.cells #[.string repo, .string n, .int .i64 c, .int .i64 z] 41 (0, 0))) := by rw [hw_we]; exact (Below.heap_alloc _ _ _ (Array.getElem?_eq_some_iff.1 hb7.out).1).trans hb7.out
              have HB : Hid (Below w.heap.size w we) := by rw [hw_we]; exact HB.out.alloc HB.out.size _
              clear hw_we
              first | refine ⟨fun _ => HS.out _ HB.out, ?_⟩ | refine ⟨HS.out _ HB.out, ?_⟩
              refine HG.one (i := 6) (by kernel_rfl) (by kernel_rfl) ?_
              simp only [List.getD_cons_zero, List.getD_cons_succ]
              have hlist := own_keep HL.out HB.out
              go_wp2_with (at_builtin; go_must (refine wpList_append_row _ rfl _ _ _ rfl w.heap.size 41 i0 _ 4 48 Try.underlying44 hi0 hz0 hz1 hz2 rfl (by omega) (.slice (some ⟨wd.heap.size, 0, none⟩) 0 0) 0 [] rfl HE.out 0 l.length (.slice la l.length lc) (fetC repo l) rfl hlist (fetC_one _ _) (by unfold maxLen; omega) (by omega) HB.out.size ?_))
              clear hlist
              intro v6 wf hown6 hgrow6
              have hb7 : Hid (wf.heap[wc.heap.size]? = some (.cells #[.string repo, .string n, .int .i64 c, .int .i64 z] 41 (0, 0))) := by
                have hlt7 := (Array.getElem?_eq_some_iff.1 hb7.out).1
                exact (hgrow6.block _ hlt7 (fun he => by have q := hsz_wd.out; simp [Value.ownBlock] at he; omega)).trans hb7.out
              have H6 : Hid (wf.ownsRow w.heap.size 41 4 v6 l.length (fetC repo l)) := by
                show World.ownsRow _ _ _ _ _ _ _
                simpa using hown6
              have HB : Hid (Below w.heap.size w wf) := HB.out.grown hgrow6 HB.out.size (fun k hk => (HE.out.lt k hk).1)
              clear hown6 hgrow6 HE
              go_wp2_with fail
              refine NoPanic.normal ?_
              show _ ∧ HG.wpAnyG _ _ _ _ _ _ _ _ _ _
              first | refine ⟨fun _ => HS.out _ HB.out, ?_⟩ | refine ⟨HS.out _ HB.out, ?_⟩
              refine HG.one (i := 16) (by kernel_rfl) (by kernel_rfl) ?_
              simp only [List.getD_cons_zero, List.getD_cons_succ]
              go_wp2_with (at_builtin; go_must (refine wpList_append_own_at _ rfl _ _ _ rfl w.heap.size 41 i0 _ 4 48 Try.underlying44 hi0 hz0 hz1 hz2 rfl (by omega) v6 l.length _ rfl H6.out ⟨wc.heap.size, 0, none⟩ 1 1 [.string repo, .string n, .int .i64 c, .int .i64 z] rfl rfl (World.news_of_block hb7.out) (by simp [Value.oneCell']) (by unfold maxLen; omega) (by omega) HB.out.size ?_))
              intro v7 wg hown7 hgrow7 _ _
              have HB : Hid (Below w.heap.size w wg) := HB.out.grown hgrow7 HB.out.size (fun k hk => (H6.out.lt k hk).1)
              obtain ⟨va, vl, vc, rfl⟩ := own_slice hown7
              have H7 : Hid (wg.ownsRow w.heap.size 41 4 (.slice va vl vc) (l.length + 1) (fetC repo (l ++ [⟨n, c, z, d⟩]))) := by
                show World.ownsRow _ _ _ _ _ _ _
                rw [fetC_snoc]; exact hown7
              clear hown7 hgrow7 H6 hb7
              go_wp2_with fail
              refine NoPanic.normal ?_
              show _ ∧ HG.wpAnyG _ _ _ _ _ _ _ _ _ _
              first | refine ⟨fun _ => HS.out _ HB.out, ?_⟩ | refine ⟨HS.out _ HB.out, ?_⟩
              refine HG.one (i := 17) (by kernel_rfl) (by kernel_rfl) ?_
              simp only [List.getD_cons_zero, List.getD_cons_succ]
              go_wp2_with fail
              refine NoPanic.normal ?_
              show _ ∧ HG.wpAnyG _ _ _ _ _ _ _ _ _ _
              first | refine ⟨fun _ => HS.out _ HB.out, ?_⟩ | refine ⟨HS.out _ HB.out, ?_⟩
              refine HG.one (i := 18) (by kernel_rfl) (by kernel_rfl) ?_
              simp only [List.getD_cons_zero, List.getD_cons_succ]
              go_wp2_with fail
              refine NoPanic.normal ?_
              show _ ∧ HG.wpAnyG _ _ _ _ _ _ _ _ _ _
              first | refine ⟨fun _ => HS.out _ HB.out, ?_⟩ | refine ⟨HS.out _ HB.out, ?_⟩
              refine HG.one (i := 19) (by kernel_rfl) (by kernel_rfl) ?_
              simp only [List.getD_cons_zero, List.getD_cons_succ]
              have hbk := bk_keep HR.out (Keeps.of_below (F := fun _ => False) HB.out) (fun h => h)
              have z2 := hbk.cell 2
              have z2f := hbk.frozen 2
              go_wp2_with fail
              obtain ⟨wh, hwh⟩ : ∃ W : World, W = wg.setCell ⟨g, 2, none⟩ (.slice va vl vc) := ⟨_, rfl⟩
              rw [← hwh]
              have HRh : Hid (Bk wh g 49 #[.string repo, .slice A fs.length cap, .slice va vl vc, dv]) := by rw [hwh]; exact hbk.put 2 _
              have HK : Hid (Keeps (fun b => b = g) w wh) := by rw [hwh]; exact keeps_put (Keeps.of_below HB.out) 2 _
              have H7 : Hid (wh.ownsRow w.heap.size 41 4 (.slice va vl vc) (l.length + 1) (fetC repo (l ++ [⟨n, c, z, d⟩]))) := by rw [hwh]; exact row_keep H7.out (keeps_put (Keeps.refl _ _) 2 _) (fun b hb he => by have := (H7.out.lt b hb).1; omega)
              clear hbk z2 z2f hwh HB
              refine NoPanic.normal ?_
              show _ ∧ HG.wpAnyG _ _ _ _ _ _ _ _ _ _
              first | refine ⟨fun h => absurd rfl h, ?_⟩ | refine ⟨trivial, ?_⟩
              refine HG.end_ (by kernel_rfl) ?_
              have HDh := Lib.hid (row_keep HD.out HK.out (fun b hb he => by subst he; exact own_bk HD.out HR.out (by decide) hb))
              have g3 := HRh.out.cell 3
              have hglh := HRh.out.lt
              obtain ⟨da, dn, dc, rfl⟩ := own_slice HD.out
              go_wp2_with (at_builtin; go_must (refine wpList_append_row _ rfl _ _ _ rfl w.heap.size 9 j0 _ 1 16 Try.underlying47 hj0 hy0 hy1 hy2 rfl (by omega) _ 0 [] rfl (World.ownsRow_made _ #[] 0 HK.out.size (Nat.zero_le _) rfl) 0 l.length (.slice da dn dc) (datas l) rfl (HDh.out.alloc _) (datas_one _) (by unfold maxLen; omega) (by omega) (by rw [World.size_alloc]; have := HK.out.size; omega) ?_))
              intro v8 wi hown8 hgrow8
              have H8 : Hid (wi.ownsRow w.heap.size 9 1 v8 l.length (datas l)) := by
                show World.ownsRow _ _ _ _ _ _ _
                simpa using hown8
              have hks := HK.out.size
              have hGR : Hid (Below wh.heap.size wh wi) := ((Below.refl _ wh).alloc (Nat.le_refl _) _).grown hgrow8 (by simp) (by intro k hk; simp [Value.ownBlock] at hk; omega)
              have H7 := Lib.hid (own_keep H7.out hGR.out)
              have HRi := Lib.hid (bk_keep HRh.out (Keeps.of_below (F := fun _ => False) hGR.out) (fun h => h))
              have HK := Lib.hid (HK.out.trans (Keeps.of_below (F := fun _ => False) hGR.out) (fun x h => h.elim))
              have hks2 := HK.out.size
              clear hown8 hgrow8 hGR g3 HRh HDh
              go_wp2_with (at_builtin; go_must (refine wpList_append_own_at _ rfl _ _ _ rfl w.heap.size 9 j0 _ 1 16 Try.underlying47 hj0 hy0 hy1 hy2 rfl (by omega) v8 l.length _ rfl (H8.out.alloc _) ⟨wi.heap.size, 0, none⟩ 1 1 [.string d] rfl rfl (World.news_of_block (heap_alloc_new _ _)) (by simp [Value.oneCell']) (by unfold maxLen; omega) (by omega) (by rw [World.size_alloc]; omega) ?_))
              intro v9 wj hown9 hgrow9 _ _
              have hG9 : Hid (Keeps (fun b => v8.ownBlock = some b) wi wj) := (Keeps.of_below (F := fun b => v8.ownBlock = some b) ((Below.refl _ wi).alloc (Nat.le_refl _) _)).grown hgrow9 (fun b hb => .inl hb)
              obtain ⟨xa, xl, xc, rfl⟩ := own_slice hown9
              have H9 : Hid (wj.ownsRow w.heap.size 9 1 (.slice xa xl xc) (l.length + 1) (datas (l ++ [⟨n, c, z, d⟩]))) := by
                show World.ownsRow _ _ _ _ _ _ _
                rw [datas_snoc]; exact hown9
              have H7 := Lib.hid (row_keep H7.out hG9.out (fun b hb he => by rcases own_own H7.out H8.out (by decide) with h0 | h0; · rw [h0] at hb; cases hb
                                                                             · exact h0 (hb.trans he.symm)))
              have hbk := bk_keep HRi.out hG9.out (own_bk H8.out HRi.out (by decide))
              have HK := Lib.hid (HK.out.trans hG9.out (fun x hx => .inr (H8.out.lt x hx).1))
              have z3 := hbk.cell 3
              have z3f := hbk.frozen 3
              have HRj := Lib.hid hbk
              clear hbk hown9 hgrow9 hG9 HRi H8
              go_wp2_with fail
              go_ret3
              refine ⟨rfl, fun b => b = g ∨ (Value.slice va vl vc).ownBlock = some b ∨ (Value.slice xa xl xc).ownBlock = some b, ⟨.slice va vl vc, .slice xa xl xc, ?_, ?_, ?_, .inl rfl, fun b hb => .inr (.inl hb), fun b hb => .inr (.inr hb), ?_⟩, ?_, ?_⟩
              · exact HRj.out.put 3 _
              · rw [List.length_append]
                exact own_mono (row_keep H7.out (keeps_put (Keeps.refl _ _) 3 _) (fun b hb he => by have := (H7.out.lt b hb).1; omega)) (Nat.zero_le _)
              · rw [List.length_append]
                exact own_mono (row_keep H9.out (keeps_put (Keeps.refl _ _) 3 _) (fun b hb he => by have := (H9.out.lt b hb).1; omega)) (Nat.zero_le _)
              · intro b hb
                have hzz : (wj.setCell ⟨g, 3, none⟩ (.slice xa xl xc)).heap.size = wj.heap.size := by simp [World.setCell]
                rw [hzz]
                rcases hb with rfl | hb | hb
                · exact HRj.out.lt
                · exact (H7.out.lt b hb).2
                · exact (H9.out.lt b hb).2
              · exact (keeps_put HK.out 3 _).mono (fun x hx => by subst hx; exact HFG.out)
              · intro b hb
                rcases hb with rfl | hb | hb
                · exact .inl HFG.out
                · exact .inr (H7.out.lt b hb).1
                · exact .inr (H9.out.lt b hb).1
        | succ k =>
          have i1 : ((k + 1 : Nat) : Int) - 1 = (k : Int) := by omega
          rw [i1]
          clear i1
          obtain ⟨b, o, rfl, hbl, a0, a1⟩ := HFI.out.later HB.out k (by omega)
          have hsz := HDS.out k (by omega)
          have i0 : (0 : Int) ≤ (k : Int) := by omega
          have i1 : (k : Int) < (fs.length : Int) := by omega
          by_cases he : (fs.getD k (⟨#[]⟩, ⟨#[]⟩)).1 = n
          · have hT2 : Hid (RT (St.first (fs.drop k) n) (.string (fs.getD k (⟨#[]⟩, ⟨#[]⟩)).2) (.int .i64 (fs.getD k (⟨#[]⟩, ⟨#[]⟩)).2.size)) := by rw [drop_hit (by omega) he]; exact ⟨rfl, rfl⟩
            have n0 := eq_true he
            clear he hT
            generalize fs.getD k (⟨#[]⟩, ⟨#[]⟩) = f at *
            obtain ⟨f1, f2⟩ := f
            go_wp2_with fail
            go_quiet (fail)
            go_wp2_with fail
            go_roundw
            case rel => exact ⟨k, by omega, rfl, hT2, below_drawn HB.out _⟩
            case measure => simp [intOf]
          · have hT2 : Hid (RT (St.first (fs.drop k) n) u10 u11) := by rw [drop_miss (by omega) he]; exact hT.out
            have n0 := eq_false he
            clear he hT
            generalize fs.getD k (⟨#[]⟩, ⟨#[]⟩) = f at *
            obtain ⟨f1, f2⟩ := f
            go_wp2_with fail
            go_roundw
            case rel => exact ⟨k, by omega, rfl, hT2, HB⟩
            case measure => simp [intOf]
end Go.Proofs.Ytcianlgkfkccoaa
