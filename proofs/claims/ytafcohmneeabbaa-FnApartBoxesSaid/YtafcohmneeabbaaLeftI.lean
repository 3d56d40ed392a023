/-
  Contract: LeftOver of the program; LeftOver of the reference.
-/
import Derived.Test.YtafcohmneeabbaaLeft
namespace Go.Proofs.Ytafcohmneeabbaa
set_option linter.unusedSimpArgs false
set_option linter.unusedVariables false
open Go.RowKit

end Go.Proofs.Ytafcohmneeabbaa
