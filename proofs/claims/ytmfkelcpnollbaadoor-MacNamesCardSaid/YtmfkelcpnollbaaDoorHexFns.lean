/-
  The walks of package hex: Digit, Is, Number.
-/
import Derived.Test.YtmfkelcpnollbaaDoorBase
import Derived.Test.YtmfkelcpnollbaaDoorHexPlain
namespace Go.Proofs.YtmfkelcpnollbaaDoor
set_option linter.unusedSimpArgs false
set_option linter.unusedVariables false
open Go.RowKit

end Go.Proofs.YtmfkelcpnollbaaDoor
