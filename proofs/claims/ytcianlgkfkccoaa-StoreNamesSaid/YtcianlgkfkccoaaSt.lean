/-
  What a store is, in plain words: its files, and what was fetched, one behind the other.
-/
import Derived.Test.YtcianlgkfkccoaaBase
namespace Go.Proofs.Ytcianlgkfkccoaa
set_option linter.unusedSimpArgs false
set_option linter.unusedVariables false
namespace St
/-- What was fetched: a name, with which cap, how many bytes came, and these. -/
structure En where
  name : ByteArray
  cap : Int
  size : Int
  data : ByteArray

/-- The bytes of the first file of that name. -/
def first : List (ByteArray × ByteArray) → ByteArray → Option ByteArray
  | [], _ => none
  | f :: r, n => if f.1 = n then some f.2 else first r n
/-- What fetching comes to. -/
def came (n : ByteArray) (c : Int) : Option ByteArray → En
  | none => ⟨n, c, -1, ⟨#[]⟩⟩
  | some d => if (d.size : Int) ≤ c then ⟨n, c, d.size, d⟩ else ⟨n, c, -2, ⟨#[]⟩⟩
def fetch (fs : List (ByteArray × ByteArray)) (n : ByteArray) (c : Int) : En := came n c (first fs n)
/-- What was fetched under that name. -/
def look : List En → ByteArray → Option En
  | [], _ => none
  | e :: r, n => if e.name = n then some e else look r n
def bad (c : Int) : Bool := decide (c < 0 ∨ 65536 < c)
/-- What was fetched, behind one asking more. -/
def get (fs : List (ByteArray × ByteArray)) (l : List En) (n : ByteArray) (c : Int) : List En :=
  if bad c then l else match look l n with
    | some _ => l
    | none => l ++ [fetch fs n c]
/-- What comes of it. -/
def ans (fs : List (ByteArray × ByteArray)) (l : List En) (n : ByteArray) (c : Int) : En :=
  match look l n with
    | some e => e
    | none => fetch fs n c
/-- What stands in Get's three results. -/
def ansD (fs : List (ByteArray × ByteArray)) (l : List En) (n : ByteArray) (c : Int) : ByteArray := if bad c then ⟨#[]⟩ else (ans fs l n c).data
def ansS (fs : List (ByteArray × ByteArray)) (l : List En) (n : ByteArray) (c : Int) : Int := if bad c then 0 else (ans fs l n c).size
def ansE (c : Int) : Int := if bad c then 1 else 0
/-- No name stands twice. -/
def One (l : List En) : Prop := (l.map (·.name)).Nodup

theorem fetch_name (fs : List (ByteArray × ByteArray)) (n : ByteArray) (c : Int) : (fetch fs n c).name = n := by
  unfold fetch came
  split
  · rfl
  · split <;> rfl
theorem look_none : ∀ (l : List En) (n : ByteArray), look l n = none ↔ ∀ e ∈ l, e.name ≠ n
  | [], n => by simp [look]
  | e :: r, n => by
    unfold look
    split
    · rename_i h; simp [h]
    · rename_i h; rw [look_none r n]; simp [h]
theorem look_mem : ∀ (l : List En) (n : ByteArray) (e : En), look l n = some e → e ∈ l ∧ e.name = n
  | [], n, e, h => by simp [look] at h
  | x :: r, n, e, h => by
    unfold look at h
    split at h
    · rename_i h'; cases h; exact ⟨by simp, h'⟩
    · obtain ⟨h1, h2⟩ := look_mem r n e h; exact ⟨by simp [h1], h2⟩
theorem look_one : ∀ (l : List En) (e : En), One l → e ∈ l → look l e.name = some e
  | [], e, _, h => by simp at h
  | x :: r, e, h1, h => by
    unfold look
    unfold One at h1
    rw [List.map_cons, List.nodup_cons] at h1
    rcases List.mem_cons.1 h with rfl | h
    · simp
    · rw [if_neg (fun (e' : x.name = e.name) => h1.1 (e' ▸ List.mem_map.2 ⟨e, h, rfl⟩))]
      exact look_one r e h1.2 h
theorem one_nil : One [] := by simp [One]
theorem one_snoc {l : List En} {e : En} (h : One l) (hn : look l e.name = none) : One (l ++ [e]) := by
  unfold One at *
  rw [List.map_append, List.nodup_append]
  refine ⟨h, by simp, ?_⟩
  intro a ha b hb hab
  obtain ⟨x, hx, rfl⟩ := List.mem_map.1 ha
  simp at hb
  exact (look_none l e.name).1 hn x hx (hab.trans hb)
theorem one_get {fs : List (ByteArray × ByteArray)} {l : List En} {n : ByteArray} {c : Int} (h : One l) : One (get fs l n c) := by
  unfold get
  split
  · exact h
  · split
    · exact h
    · rename_i hn; exact one_snoc h (by rw [fetch_name]; exact hn)
theorem get_len (fs : List (ByteArray × ByteArray)) (l : List En) (n : ByteArray) (c : Int) : (get fs l n c).length ≤ l.length + 1 := by
  unfold get
  split
  · omega
  · split <;> simp
theorem get_mem {fs : List (ByteArray × ByteArray)} {l : List En} {n : ByteArray} {c : Int} {e : En} (h : e ∈ get fs l n c) : e ∈ l ∨ e = fetch fs n c := by
  unfold get at h
  split at h
  · exact .inl h
  · split at h
    · exact .inl h
    · simpa using h
theorem look_append (l m : List En) (n : ByteArray) : look (l ++ m) n = (look l n).or (look m n) := by
  induction l with
  | nil => simp [look]
  | cons x r ih =>
    rw [List.cons_append, look]
    split
    · rename_i h; simp [look, h]
    · rename_i h; rw [ih]; simp [look, h]
/-- Behind an asking that is no error the answer is what is told. -/
theorem look_get {fs : List (ByteArray × ByteArray)} {l : List En} {n : ByteArray} {c : Int} (hc : bad c = false) : look (get fs l n c) n = some (ans fs l n c) := by
  unfold get ans
  rw [hc]
  simp only [Bool.false_eq_true, if_false]
  cases h : look l n with
  | some e => simp [h]
  | none => simp [look_append, h, look, fetch_name]
theorem look_get_other {fs : List (ByteArray × ByteArray)} {l : List En} {n m : ByteArray} {c : Int} (hne : m ≠ n) : look (get fs l n c) m = look l m := by
  unfold get
  split
  · rfl
  · split
    · rfl
    · rw [look_append]
      have : look [fetch fs n c] m = none := by
        rw [look, fetch_name, if_neg (Ne.symm hne)]; rfl
      rw [this]; simp
theorem first_append (a b : List (ByteArray × ByteArray)) (n : ByteArray) : first (a ++ b) n = (first a n).or (first b n) := by
  induction a with
  | nil => simp [first]
  | cons x r ih =>
    rw [List.cons_append, first]
    split
    · rename_i h; simp [first, h]
    · rename_i h; rw [ih]; simp [first, h]
theorem first_none : ∀ (l : List (ByteArray × ByteArray)) (n : ByteArray), first l n = none ↔ ∀ e ∈ l, e.1 ≠ n
  | [], n => by simp [first]
  | e :: r, n => by
    unfold first
    split
    · rename_i h; simp [h]
    · rename_i h; rw [first_none r n]; simp [h]
end St
end Go.Proofs.Ytcianlgkfkccoaa
