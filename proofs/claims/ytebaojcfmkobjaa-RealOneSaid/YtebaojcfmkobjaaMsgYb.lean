/-
  Contracts: droverref4.Message, kinds 3, 4.
-/
import Derived.Test.YtebaojcfmkobjaaMsgO
import Derived.Test.YtebaojcfmkobjaaMsgYz
import Derived.Test.YtebaojcfmkobjaaMsgT
import Derived.Test.YtebaojcfmkobjaaGr00
import Derived.Test.YtebaojcfmkobjaaGr10
import Derived.Test.YtebaojcfmkobjaaHdrS
import Derived.Test.YtebaojcfmkobjaaGr04
set_option linter.unusedVariables false
set_option linter.unusedSimpArgs false
namespace Go.Proofs.Ytebaojcfmkobjaa
open Go.RowKit

end Go.Proofs.Ytebaojcfmkobjaa
