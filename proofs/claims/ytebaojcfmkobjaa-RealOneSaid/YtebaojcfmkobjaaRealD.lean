/-
  Contracts: the reference's answer whether a message is real.
-/
import Derived.Test.YtebaojcfmkobjaaRealC
set_option linter.unusedVariables false
set_option linter.unusedSimpArgs false
namespace Go.Proofs.Ytebaojcfmkobjaa
open Go.RowKit

end Go.Proofs.Ytebaojcfmkobjaa
