/-
  Contracts: droverref4.Message, kinds .
-/
import Derived.Test.YtmnogefpphonlaaGr10
import Derived.Test.YtmnogefpphonlaaMsgT
import Derived.Test.YtmnogefpphonlaaGr21
import Derived.Test.YtmnogefpphonlaaGr18
import Derived.Test.YtmnogefpphonlaaHdrS
import Derived.Test.YtmnogefpphonlaaGr07
set_option linter.unusedVariables false
set_option linter.unusedSimpArgs false
namespace Go.Proofs.Ytmnogefpphonlaa
open Go.RowKit

theorem MsZ.only {x : MsD} {v : MsV} (h : MsZ x v) : MsZ (onlyM x) (onlyV x.k v) := by
  constructor
  all_goals
    simp only [onlyM, onlyV]
  · split
    · exact h.txz
    · intro t ht; simp [zB] at ht
  · split
    · exact h.tx
    · simp [nilV]
  · split
    · exact h.hb
    · simp [nilV]
  · split
    · exact h.hp
    · simp [nilV]
  · split
    · exact h.cb
    · simp [nilV]
  · split
    · exact h.cp
    · simp [nilV]
  · split
    · exact h.cs
    · simp [nilV]
  · split
    · exact h.ds
    · simp [nilV]
end Go.Proofs.Ytmnogefpphonlaa
