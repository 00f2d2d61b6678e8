/-
  Words for the walk of 'kind' (layer 7): four copies in one row, one field of each turned.
-/
import Derived.Test.YtebaojcfmkobjaaGr26
import Derived.Test.YtebaojcfmkobjaaGr01
import Derived.Maps.AppendAt
set_option linter.unusedVariables false
set_option linter.unusedSimpArgs false
namespace Go.Proofs.Ytebaojcfmkobjaa
open Go.RowKit

def othersV (u : MsV) : List Value := [u.tx.v, u.hb.v, u.hp.v, u.cb.v, u.cp.v, u.cs.v]
def rowsV (u : MsV) : List Value := u.ds.v :: othersV u
theorem MsO.rows {B : Nat} {w : World} {x : MsD} {u : MsV} (h : MsO B w x u) : ∀ z ∈ rowsV u, ∀ g, z.ownBlock = some g → B ≤ g ∧ g < w.heap.size := by
  intro z hz g hg
  simp only [rowsV, othersV, List.mem_cons, List.not_mem_nil, or_false] at hz
  rcases hz with rfl | rfl | rfl | rfl | rfl | rfl | rfl
  · exact h.ds.lt g hg
  · exact h.tx.lt g hg
  · exact h.hb.lt g hg
  · exact h.hp.lt g hg
  · exact h.cb.lt g hg
  · exact h.cp.lt g hg
  · exact h.cs.lt g hg
theorem MsO.mono {B B' : Nat} {w : World} {x : MsD} {u : MsV} (h : MsO B w x u) (hb : B' ≤ B) : MsO B' w x u :=
  ⟨own_mono h.tx hb, own_mono h.hb hb, own_mono h.hp hb, own_mono h.cb hb, own_mono h.cp hb, own_mono h.cs hb, own_mono h.ds hb⟩
theorem MsO.below {B : Nat} {w w' : World} {x : MsD} {u : MsV} (h : MsO B w x u) (hb : Below w.heap.size w w') : MsO B w' x u :=
  ⟨own_later h.tx hb, own_later h.hb hb, own_later h.hp hb, own_later h.cb hb, own_later h.cp hb, own_later h.cs hb, own_later h.ds hb⟩
structure Four (x : MsD) (B : Nat) (w : World) (E1 E2 E3 E4 : Array Value) (u1 u2 u3 u4 : MsV) : Prop where
  e1 : E1 = msC x u1
  e2 : E2 = msC x u2
  e3 : E3 = msC x u3
  e4 : E4 = msC x u4
  o1 : MsO B w x u1
  o2 : MsO B w x u2
  o3 : MsO B w x u3
  o4 : MsO B w x u4
  z1 : MsZ x u1
  z2 : MsZ x u2
  z3 : MsZ x u3
  z4 : MsZ x u4
  a0 : ApX u4.ds.v (othersV u4)
  a1 : ApX u4.ds.v (rowsV u1)
  a2 : ApX u4.ds.v (rowsV u2)
  a3 : ApX u4.ds.v (rowsV u3)
theorem Four.below {x : MsD} {B : Nat} {w w' : World} {E1 E2 E3 E4 : Array Value} {u1 u2 u3 u4 : MsV} (h : Four x B w E1 E2 E3 E4 u1 u2 u3 u4) (hb : Below w.heap.size w w') : Four x B w' E1 E2 E3 E4 u1 u2 u3 u4 :=
  ⟨h.e1, h.e2, h.e3, h.e4, h.o1.below hb, h.o2.below hb, h.o3.below hb, h.o4.below hb, h.z1, h.z2, h.z3, h.z4, h.a0, h.a1, h.a2, h.a3⟩
/-- The fields turned. -/
def x0_ (x : MsD) : MsD := { x with b := { x.b with n := x.b.n + 1 } }
def x1_ (x : MsD) : MsD := { x with h := { x.h with a := x.h.a + 1 } }
def x2_ (x : MsD) : MsD := { x with c := { x.c with d := x.c.d + 1 } }
def x3_ (x : MsD) : MsD := { x with s := x.s ++ [0] }
def u3_ (u : MsV) (A : Option Addr) (n c : Nat) : MsV := { u with ds := ⟨A, n, c⟩ }
/-- What is left when the last record's digests have grown. -/
structure FourE (x : MsD) (B : Nat) (w : World) (u1 u2 u3 u4 : MsV) (A : Option Addr) (n c : Nat) : Prop where
  o1 : MsO B w x u1
  o2 : MsO B w x u2
  o3 : MsO B w x u3
  o4 : MsO B w (x3_ x) (u3_ u4 A n c)
  z1 : MsZ x u1
  z2 : MsZ x u2
  z3 : MsZ x u3
  z4 : MsZ (x3_ x) (u3_ u4 A n c)
section
variable {x : MsD} {B n c : Nat} {w w' : World} {u1 u2 u3 u4 : MsV} {A : Option Addr}
theorem FourE.below (h : FourE x B w u1 u2 u3 u4 A n c) (hb : Below w.heap.size w w') : FourE x B w' u1 u2 u3 u4 A n c :=
  ⟨h.o1.below hb, h.o2.below hb, h.o3.below hb, h.o4.below hb, h.z1, h.z2, h.z3, h.z4⟩
theorem MsO.put_ {y : MsD} {u : MsV} {g : Nat} {cs : Array Value} (h : MsO B w y u) (hk : Blk w g 42 cs) (hg : w.grownBy w' (some g)) : MsO B w' y u :=
  ⟨h.tx.kept hg (Or.inr (own_blk_ne h.tx hk (by decide))), h.hb.kept hg (Or.inr (own_blk_ne h.hb hk (by decide))), h.hp.kept hg (Or.inr (own_blk_ne h.hp hk (by decide))), h.cb.kept hg (Or.inr (own_blk_ne h.cb hk (by decide))),
   h.cp.kept hg (Or.inr (own_blk_ne h.cp hk (by decide))), h.cs.kept hg (Or.inr (own_blk_ne h.cs hk (by decide))), h.ds.kept hg (Or.inr (own_blk_ne h.ds hk (by decide)))⟩
theorem FourE.put {g : Nat} {cs : Array Value} (h : FourE x B w u1 u2 u3 u4 A n c) (hk : Blk w g 42 cs) (hg : w.grownBy w' (some g)) : FourE x B w' u1 u2 u3 u4 A n c :=
  ⟨h.o1.put_ hk hg, h.o2.put_ hk hg, h.o3.put_ hk hg, h.o4.put_ hk hg, h.z1, h.z2, h.z3, h.z4⟩
theorem FourE.s1 (h : FourE x B w u1 u2 u3 u4 A n c) : MsS w (x1_ x) u2 := ⟨h.o2.s.tx, h.o2.s.hb, h.o2.s.hp, h.o2.s.cb, h.o2.s.cp, h.o2.s.cs, h.o2.s.ds⟩
theorem FourE.s2 (h : FourE x B w u1 u2 u3 u4 A n c) : MsS w (x2_ x) u3 := ⟨h.o3.s.tx, h.o3.s.hb, h.o3.s.hp, h.o3.s.cb, h.o3.s.cp, h.o3.s.cs, h.o3.s.ds⟩
theorem FourE.s3 (h : FourE x B w u1 u2 u3 u4 A n c) : MsS w (x3_ x) (u3_ u4 A n c) := h.o4.s
theorem FourE.t0 (h : FourE x B w u1 u2 u3 u4 A n c) : MsZ (x0_ x) u1 := ⟨h.z1.txz, h.z1.tx, h.z1.hb, h.z1.hp, h.z1.cb, h.z1.cp, h.z1.cs, h.z1.ds⟩
theorem FourE.t1 (h : FourE x B w u1 u2 u3 u4 A n c) : MsZ (x1_ x) u2 := ⟨h.z2.txz, h.z2.tx, h.z2.hb, h.z2.hp, h.z2.cb, h.z2.cp, h.z2.cs, h.z2.ds⟩
theorem FourE.t2 (h : FourE x B w u1 u2 u3 u4 A n c) : MsZ (x2_ x) u3 := ⟨h.z3.txz, h.z3.tx, h.z3.hb, h.z3.hp, h.z3.cb, h.z3.cp, h.z3.cs, h.z3.ds⟩
theorem FourE.t3 (h : FourE x B w u1 u2 u3 u4 A n c) : MsZ (x3_ x) (u3_ u4 A n c) := h.z4
end
theorem MsS.k2 {w w' : World} {x : MsD} {u v : MsV} (h : MsS w x v) (h' : MsS w' x u) (hk : MsK x v) : MsK x u := by
  have e1 := h.tx.1; have e2 := h.hb.1; have e3 := h.hp.1; have e4 := h.cb.1; have e5 := h.cp.1; have e6 := h.cs.1; have e7 := h.ds.1
  have d1 := h'.tx.1; have d2 := h'.hb.1; have d3 := h'.hp.1; have d4 := h'.cb.1; have d5 := h'.cp.1; have d6 := h'.cs.1; have d7 := h'.ds.1
  have k1 := hk.tx; have k2 := hk.hb; have k3 := hk.hp; have k4 := hk.cb; have k5 := hk.cp; have k6 := hk.cs; have k7 := hk.ds
  exact ⟨by omega, by omega, by omega, by omega, by omega, by omega, by omega⟩
theorem news_blk {w : World} {g : Nat} {t : TypeId} {v : Value} (h : Blk w g t #[v]) : ∀ j u, [v][j]? = some u → w.cell? ((⟨g, 0, none⟩ : Addr).add j) = some u := by
  intro j u hu
  rw [add_lit, Nat.zero_add]
  exact h.at_ (by simpa using hu)
/-! Four records in a row. -/
section
variable {A B C D : Array Value}
end
end Go.Proofs.Ytebaojcfmkobjaa
