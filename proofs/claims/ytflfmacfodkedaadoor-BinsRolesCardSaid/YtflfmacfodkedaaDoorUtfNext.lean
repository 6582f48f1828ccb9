/-
  The walks of package legateref04: Next, Len.
-/
import Derived.Test.YtflfmacfodkedaaDoorUtfBegins
namespace Go.Proofs.YtflfmacfodkedaaDoor
set_option linter.unusedSimpArgs false
set_option linter.unusedVariables false
open Go Go.RowKit

/-- What Next tells of a place: whether a rune begins there, and then how many bytes it has. -/
def NextPost (s : ByteArray) (i : Nat) (w : World) (e : Ending) (w' : World) : Prop :=
  (∃ r n ee : Int, e = .returned (.tuple #[.int .i64 r, .int .i64 n, .int .i64 ee]) ∧ (Uf.okAt s i = true → n = Uf.wid s i ∧ ee = 0) ∧ (Uf.okAt s i = false → ee ≠ 0)) ∧ Below w.heap.size w w'

end Go.Proofs.YtflfmacfodkedaaDoor
