/-
  Contracts: droverref0.CopyMessage.
-/
import Derived.Test.YtebaojcfmkobjaaGr17
import Derived.Test.YtebaojcfmkobjaaGr00
set_option linter.unusedVariables false
set_option linter.unusedSimpArgs false
namespace Go.Proofs.Ytebaojcfmkobjaa
open Go.RowKit

/-- A message's slices, owned. -/
structure MsO (B : Nat) (w : World) (x : MsD) (u : MsV) : Prop where
  tx : w.ownsRow B 101 4 u.tx.v u.tx.n (txsC x.b.l)
  hb : w.ownsRow B 3 1 u.hb.v u.hb.n (ints x.h.bs)
  hp : w.ownsRow B 3 1 u.hp.v u.hp.n (ints x.h.ps)
  cb : w.ownsRow B 3 1 u.cb.v u.cb.n (ints x.c.h.bs)
  cp : w.ownsRow B 3 1 u.cp.v u.cp.n (ints x.c.h.ps)
  cs : w.ownsRow B 3 1 u.cs.v u.cs.n (ints x.c.ss)
  ds : w.ownsRow B 3 1 u.ds.v u.ds.n (ints x.s)
/-- As long. -/
structure MsE (u v : MsV) : Prop where
  tx : u.tx.n = v.tx.n
  hb : u.hb.n = v.hb.n
  hp : u.hp.n = v.hp.n
  cb : u.cb.n = v.cb.n
  cp : u.cp.n = v.cp.n
  cs : u.cs.n = v.cs.n
  ds : u.ds.n = v.ds.n
/-- Short enough to be copied. -/
structure MsK (x : MsD) (v : MsV) : Prop where
  tx : v.tx.n ≤ 1000000000000
  hb : v.hb.n ≤ 1000000000000
  hp : v.hp.n ≤ 1000000000000
  cb : v.cb.n ≤ 1000000000000
  cp : v.cp.n ≤ 1000000000000
  cs : v.cs.n ≤ 1000000000000
  ds : v.ds.n ≤ 1000000000000
/-- Of blocks of its own. -/
def ApX (d : Value) (l : List Value) : Prop := ∀ g, d.ownBlock = some g → ∀ z ∈ l, z.ownBlock ≠ some g
end Go.Proofs.Ytebaojcfmkobjaa
