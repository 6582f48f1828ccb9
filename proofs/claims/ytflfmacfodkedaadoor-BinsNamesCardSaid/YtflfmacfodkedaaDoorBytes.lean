/-
  Rows of bytes that the call itself owns; what they say as a string.
-/
import Derived.Test.YtflfmacfodkedaaDoorBase
import Derived.Deep.AppendLies
import Derived.Laws.BytesArg
namespace Go.Proofs.YtflfmacfodkedaaDoor
set_option linter.unusedSimpArgs false
set_option linter.unusedVariables false
open Go Go.RowKit

theorem info_u8 : (Tryd.prog.info? 5).map (fun i => (i.zero, i.size, i.bytes)) = some (some (.int .u8 0), 1, 1) := by kernel_rfl
theorem mk_app (a b : Array UInt8) : (⟨a⟩ : ByteArray) ++ ⟨b⟩ = ⟨a ++ b⟩ := ByteArray.ext (by rw [ByteArray.data_append])
/-- Bytes as cells. -/
def cellsU8 (l : List UInt8) : List Value := l.map fun c => .int .u8 (c.toNat : Int)
theorem cellsU8_append (l m : List UInt8) : cellsU8 (l ++ m) = cellsU8 l ++ cellsU8 m := by simp [cellsU8]
theorem cellsU8_length (l : List UInt8) : (cellsU8 l).length = l.length := by simp [cellsU8]
theorem cellsU8_one (l : List UInt8) : ∀ u ∈ cellsU8 l, u.oneCell' = true := by
  intro u hu
  simp only [cellsU8, List.mem_map] at hu
  obtain ⟨c, _, rfl⟩ := hu
  rfl
theorem strOfNums_bytes (l : List UInt8) : strOfNums (l.map fun c => (c.toNat : Int)) = ⟨l.toArray⟩ := by
  unfold strOfNums
  rw [List.map_map]
  congr 2
  rw [show (fun n : Int => UInt8.ofNat n.toNat) ∘ (fun c : UInt8 => (c.toNat : Int)) = id from funext fun c => by simp]
  simp

/-- 'string(b)' of a row that the call owns. -/
theorem run_convert_own {P : Program} {w : World} (src e dst : TypeId) (hs : P.underlying src = some (.slice e)) (he : P.underlying e = some (.int .u8)) (hd : P.underlying dst = some .string)
    {base n : Nat} {v : Value} {l : List UInt8} (h : w.ownsRow base e 1 v n (cellsU8 l)) : (convert src dst v).run P w = .ok (.string ⟨l.toArray⟩) w := by
  have hl := h.1
  rw [cellsU8_length, Nat.mul_one] at hl
  have h2 := h.2
  rcases h2 with ⟨rfl, h0⟩ | ⟨g, cap, cur, rfl, _, _⟩
  · subst h0
    have : l = [] := List.eq_nil_of_length_eq_zero hl
    subst this
    exact run_convert_bytes_nil w src e hs he 0 0 dst hd
  · rw [← strOfNums_bytes]
    refine run_convert_bytes_arg w src e hs he g 0 n cap _ (by rw [List.length_map]; exact hl) (fun i hi => ?_) dst hd
    have hc := h.cellAt (g := g) (cap := cap) i (by omega)
    rw [Nat.zero_add, hc]
    have hi' : i < l.length := by omega
    simp [cellsU8, hi']
end Go.Proofs.YtflfmacfodkedaaDoor
