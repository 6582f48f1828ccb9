/-
  The walks of package legateref04: begins.
-/
import Derived.Test.YtflfmacfodkedaaDoorBase
import Derived.Test.YtflfmacfodkedaaDoorUtfRef
namespace Go.Proofs.YtflfmacfodkedaaDoor
set_option linter.unusedSimpArgs false
set_option linter.unusedVariables false
open Go Go.RowKit

end Go.Proofs.YtflfmacfodkedaaDoor
