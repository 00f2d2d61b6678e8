/-
  Contracts: droverref4.Message, kinds .
-/
import Derived.Test.YtebaojcfmkobjaaMsgO
import Derived.Test.YtebaojcfmkobjaaMsgT
import Derived.Test.YtebaojcfmkobjaaGr00
import Derived.Test.YtebaojcfmkobjaaGr10
import Derived.Test.YtebaojcfmkobjaaHdrS
import Derived.Test.YtebaojcfmkobjaaGr04
set_option linter.unusedVariables false
set_option linter.unusedSimpArgs false
namespace Go.Proofs.Ytebaojcfmkobjaa
open Go.RowKit

theorem MsZ.only {x : MsD} {v : MsV} (h : MsZ x v) : MsZ (onlyM x) (onlyV x.k v) := by
  constructor
  all_goals
    simp only [onlyM, onlyV]
  · split
    · exact h.txz
    · intro t ht; simp [zB] at ht
  · split
    · exact h.tx
    · simp [nilV]
  · split
    · exact h.hb
    · simp [nilV]
  · split
    · exact h.hp
    · simp [nilV]
  · split
    · exact h.cb
    · simp [nilV]
  · split
    · exact h.cp
    · simp [nilV]
  · split
    · exact h.cs
    · simp [nilV]
  · split
    · exact h.ds
    · simp [nilV]
end Go.Proofs.Ytebaojcfmkobjaa
