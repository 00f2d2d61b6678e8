/-
  The walks of the laws of one kind of messages each: only, over RealExact's contract.
-/
import Derived.Test.YtebaojcfmkobjaaRealH
import Derived.Test.YtebaojcfmkobjaaSegZ
set_option linter.unusedVariables false
set_option linter.unusedSimpArgs false
namespace Go.Proofs.Ytebaojcfmkobjaa
open Go.RowKit

def sV (s : ScV) (l p : SlV) : ScV := ⟨s.li, l, p, s.wo, s.wi⟩
theorem set_l0 {N : Int} {s : ScV} {A : Option Addr} {n c : Nat} : (scC N s).setIfInBounds 2 (.slice A n c) = scC N (sV s ⟨A, n, c⟩ s.pu) := by kernel_rfl
theorem set_l {N : Int} {s : ScV} {l p : SlV} {A : Option Addr} {n c : Nat} : (scC N (sV s l p)).setIfInBounds 2 (.slice A n c) = scC N (sV s ⟨A, n, c⟩ p) := by kernel_rfl
theorem scC_sz {N : Int} {s : ScV} : (scC N s).size = 6 := rfl
def zsV : ScV := ⟨⟨none, 0, 0⟩, ⟨none, 0, 0⟩, ⟨none, 0, 0⟩, ⟨none, 0, 0⟩, ⟨none, 0, 0⟩⟩
theorem alloc_scr (w : World) : (Instr.alloc 26 true (.tuple #[])).run Try.prog w = .ok (.pointer (some ⟨w.heap.size, 0, none⟩)) (w.alloc (.cells (scC 0 zsV) 26)) := by
  simp [go_sem, scC, zsV]
theorem one_scr {N : Int} {s : ScV} {C : Array Value} (h : C = scC N s) : ∀ z ∈ C.toList, z.oneCell' = true := by subst h; simp [scC, Value.oneCell']
def OwnR (w : World) (B : Nat) (e : TypeId) (size : Nat) (v : Value) (n : Nat) (xs : List Value) : Prop := w.ownsRow B e size v n xs
theorem OwnR.below {w w' : World} {B n size : Nat} {e : TypeId} {v : Value} {xs : List Value} (h : OwnR w B e size v n xs) (hb : Below w.heap.size w w') : OwnR w' B e size v n xs := own_later h hb
structure ElI (W0 : World) (ys : List (MsD × MsV)) : Prop where
  all : ∀ p ∈ ys, MsS W0 p.1 p.2 ∧ MsL p.1 p.2 ∧ p.2.ds.n * 8 ≤ 140737488355328
theorem ElI.nil {W0 : World} : ElI W0 [] := ⟨fun p h => by simp at h⟩
theorem Msgs.of_own {w : World} {B c : Nat} {A : Option Addr} {ys : List (MsD × MsV)} (ho : w.ownsRow B 42 18 (.slice A ys.length c) ys.length (flat ys)) (he : ∀ p ∈ ys, MsS w p.1 p.2 ∧ MsL p.1 p.2 ∧ p.2.ds.n * 8 ≤ 140737488355328) : Msgs w A ys.length ys := by
  refine ⟨rfl, fun k p hp => ?_⟩
  have hk := lt_of_at hp
  obtain ⟨gl, c', e, _, hlt⟩ := ho.form (by omega)
  injection e with e1 _ e2
  subst e1; subst e2
  obtain ⟨h1, h2, h3⟩ := he p (mem_of_at hp)
  refine ⟨⟨gl, 0, rfl, hlt, fun i z hz => ?_⟩, h1, h2, h3⟩
  have hi := msC_in hz
  rw [Nat.zero_add, ho.cellAt (k * 18 + i) (by omega)]
  exact flat_at hp i z hz
theorem own_own_ne {w : World} {B1 B2 n1 n2 s1 s2 : Nat} {e1 e2 : TypeId} {v1 v2 : Value} {xs1 xs2 : List Value} (h1 : w.ownsRow B1 e1 s1 v1 n1 xs1) (h2 : w.ownsRow B2 e2 s2 v2 n2 xs2) (hne : e1 ≠ e2) {b : Nat} (hb : v1.ownBlock = some b) : v2.ownBlock ≠ some b := by
  intro hb2
  rcases h1.2 with ⟨rfl, _⟩ | ⟨g, c, cur, rfl, _, hg, _⟩
  · cases hb
  · rcases h2.2 with ⟨rfl, _⟩ | ⟨g2, c2, cur2, rfl, _, hg2, _⟩
    · cases hb2
    · injection hb with hb
      injection hb2 with hb2
      subst hb; subst hb2
      rw [hg] at hg2
      injection hg2 with hg2
      injection hg2 with _ e _
      exact hne e
theorem own_keep {w w' : World} {B n size : Nat} {e : TypeId} {v : Value} {xs : List Value} {row : Option Nat} (h : w.ownsRow B e size v n xs) (hg : w.grownBy w' row) (hne : ∀ b, row = some b → v.ownBlock ≠ some b) : w'.ownsRow B e size v n xs :=
  own_at h (fun b hb => (Chg.of_grown (F := fun q => row = some q) hg (fun q e => .inl e)).at_ (own_in h hb) (fun e => hne b e hb))
theorem below_grown_own {W0 w w' : World} {n size : Nat} {e : TypeId} {v : Value} {xs : List Value} (hb : Below W0.heap.size W0 w) (h : w.ownsRow W0.heap.size e size v n xs) (hg : w.grownBy w' v.ownBlock) : Below W0.heap.size W0 w' := hb.grown hg hb.size (fun b hb => (h.lt b hb).1)

end Go.Proofs.Ytebaojcfmkobjaa
