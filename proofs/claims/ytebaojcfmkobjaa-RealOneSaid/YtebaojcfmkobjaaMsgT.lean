/-
  Contracts: droverref0.EqMessage.
-/
import Derived.Test.YtebaojcfmkobjaaGr09
import Derived.Test.YtebaojcfmkobjaaGr10
import Derived.Test.YtebaojcfmkobjaaHdrS
set_option linter.unusedVariables false
set_option linter.unusedSimpArgs false
namespace Go.Proofs.Ytebaojcfmkobjaa
open Go.RowKit

theorem BtD.eq_iff {x y : BtD} : x = y ↔ x.a = y.a ∧ x.n = y.n ∧ x.l = y.l := ⟨fun h => by subst h; exact ⟨rfl, rfl, rfl⟩, fun ⟨h1, h2, h3⟩ => BtD.ext_ h1 h2 h3⟩
end Go.Proofs.Ytebaojcfmkobjaa
