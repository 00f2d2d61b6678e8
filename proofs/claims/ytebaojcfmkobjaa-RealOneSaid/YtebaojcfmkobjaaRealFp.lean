/-
  Contracts: a message whose digests are the books' (put), both books at once; its signers' slice.
-/
import Derived.Test.YtebaojcfmkobjaaRealE
import Derived.Test.YtebaojcfmkobjaaMsgK
set_option linter.unusedVariables false
set_option linter.unusedSimpArgs false
namespace Go.Proofs.Ytebaojcfmkobjaa
open Go.RowKit

def TwK (W0 : World) (G1 G2 : Nat → Prop) (w : World) (g r : Nat) (L : List (List UInt8)) (sg : Int × Int → Bool) (L2 : List (List UInt8)) (ps : List (Int × Int)) : Prop := Tw W0 G1 G2 w g r L sg L2 ps
def BkG (G1 G2 : Nat → Prop) (b : Nat) : Prop := G1 b ∨ G2 b
section
variable {W0 w w' w'' : World} {G1 G2 F F' : Nat → Prop} {g r : Nat} {L L2 : List (List UInt8)} {sg : Int × Int → Bool} {ps : List (Int × Int)} {x y : MsD} {u v : MsV}
theorem TwK.tw (h : TwK W0 G1 G2 w g r L sg L2 ps) : Tw W0 G1 G2 w g r L sg L2 ps := h
theorem TwK.below (h : TwK W0 G1 G2 w g r L sg L2 ps) (hb : Below w.heap.size w w') : TwK W0 G1 G2 w' g r L sg L2 ps := Tw.step h hb
theorem TwK.lt (h : TwK W0 G1 G2 w g r L sg L2 ps) : ∀ b, BkG G1 G2 b → b < w.heap.size := fun b hb => hb.elim (h.tw.bk.lt b) (h.tw.rf.lt b)
theorem Chg.below (h : Chg F w w') (hb : Below w'.heap.size w' w'') : Chg F w w'' := h.then_below hb
def slsV (u : MsV) : List SlV := [u.tx, u.hb, u.hp, u.cb, u.cp, u.cs, u.ds]
/-- A message's slices, away from what may change. -/
structure MsIn (F : Nat → Prop) (w : World) (y : MsD) (u : MsV) : Prop where
  s : MsS w y u
  z : MsZ y u
  k : MsK y u
  ap : ∀ q ∈ slsV u, 0 < q.n → ∀ b off, q.A = some ⟨b, off, none⟩ → ¬ F b
theorem MsIn.below (h : MsIn F w y u) (hb : Below w.heap.size w w') : MsIn F w' y u := ⟨h.s.below hb, h.z, h.k, h.ap⟩
theorem MsIn.chg (h : MsIn F w y u) (hc : Chg F w w') : MsIn F w' y u := by
  have ha := h.ap
  simp only [slsV, List.forall_mem_cons] at ha
  obtain ⟨a1, a2, a3, a4, a5, a6, a7, _⟩ := ha
  exact ⟨⟨h.s.tx.chg hc a1, h.s.hb.chg hc a2, h.s.hp.chg hc a3, h.s.cb.chg hc a4, h.s.cp.chg hc a5, h.s.cs.chg hc a6, h.s.ds.chg hc a7⟩, h.z, h.k, h.ap⟩
theorem Sl.in_ {size n : Nat} {A : Option Addr} {cs : List Value} (h : Sl w size A n cs) (hn : 0 < n) {b off : Nat} (e : A = some ⟨b, off, none⟩) : b < w.heap.size := by
  obtain ⟨b', off', e', hb, _⟩ := h.2 hn
  rw [e] at e'
  injection e' with e'
  injection e' with e1 _
  omega
theorem MsIn.to (h : MsIn F w y u) (hF : ∀ b, F' b → F b ∨ w.heap.size ≤ b) : MsIn F' w y u := by
  refine ⟨h.s, h.z, h.k, fun q hq hn b off e hb => ?_⟩
  rcases hF b hb with hb | hb
  · exact h.ap q hq hn b off e hb
  · have hlt : b < w.heap.size := by
      simp only [slsV, List.mem_cons, List.not_mem_nil, or_false] at hq
      rcases hq with rfl | rfl | rfl | rfl | rfl | rfl | rfl
      · exact h.s.tx.in_ hn e
      · exact h.s.hb.in_ hn e
      · exact h.s.hp.in_ hn e
      · exact h.s.cb.in_ hn e
      · exact h.s.cp.in_ hn e
      · exact h.s.cs.in_ hn e
      · exact h.s.ds.in_ hn e
    omega
theorem MsIn.of_own {B : Nat} (h : MsO B w y u) (hz : MsZ y u) (hk : MsK y u) (hF : ∀ b, F b → b < B) : MsIn F w y u := by
  refine ⟨h.s, hz, hk, fun q hq hn b off e hb => ?_⟩
  have hlt := hF b hb
  have : B ≤ b := by
    simp only [slsV, List.mem_cons, List.not_mem_nil, or_false] at hq
    rcases hq with rfl | rfl | rfl | rfl | rfl | rfl | rfl
    · exact (h.tx.lt b (by unfold SlV.v; rw [e]; rfl)).1
    · exact (h.hb.lt b (by unfold SlV.v; rw [e]; rfl)).1
    · exact (h.hp.lt b (by unfold SlV.v; rw [e]; rfl)).1
    · exact (h.cb.lt b (by unfold SlV.v; rw [e]; rfl)).1
    · exact (h.cp.lt b (by unfold SlV.v; rw [e]; rfl)).1
    · exact (h.cs.lt b (by unfold SlV.v; rw [e]; rfl)).1
    · exact (h.ds.lt b (by unfold SlV.v; rw [e]; rfl)).1
  omega
theorem MsIn.d (h : MsIn F w y u) (d : Int) : MsIn F w { y with d := d } u := ⟨⟨h.s.tx, h.s.hb, h.s.hp, h.s.cb, h.s.cp, h.s.cs, h.s.ds⟩, ⟨h.z.txz, h.z.tx, h.z.hb, h.z.hp, h.z.cb, h.z.cp, h.z.cs, h.z.ds⟩, ⟨h.k.tx, h.k.hb, h.k.hp, h.k.cb, h.k.cp, h.k.cs, h.k.ds⟩, h.ap⟩
theorem MsIn.cd (h : MsIn F w y u) (d : Int) : MsIn F w { y with c := { y.c with d := d } } u := ⟨⟨h.s.tx, h.s.hb, h.s.hp, h.s.cb, h.s.cp, h.s.cs, h.s.ds⟩, ⟨h.z.txz, h.z.tx, h.z.hb, h.z.hp, h.z.cb, h.z.cp, h.z.cs, h.z.ds⟩, ⟨h.k.tx, h.k.hb, h.k.hp, h.k.cb, h.k.cp, h.k.cs, h.k.ds⟩, h.ap⟩
theorem grown_chg {g8 : Nat} (h : w.grownBy w' (some g8)) : Chg (fun b => b = g8) w w' := Chg.of_grown h (fun q e => by injection e with e; exact .inl e.symm)
theorem TwK.store {g8 : Nat} (h : TwK W0 G1 G2 w g r L sg L2 ps) (hg : w.grownBy w' (some g8)) (hn : ¬ BkG G1 G2 g8) (h3 : W0.heap.size ≤ g8) : TwK W0 G1 G2 w' g r L sg L2 ps :=
  Tw.chg h (grown_chg hg) (fun b e hb => hn (by subst e; exact .inl hb)) (fun b e hb => hn (by subst e; exact .inr hb)) (fun b e => by subst e; exact h3)
end
def FK (K : Nat → Prop) (G1 G2 : Nat → Prop) (b : Nat) : Prop := BkG G1 G2 b ∨ K b
theorem FK.map {K G1 G2 G1' G2' : Nat → Prop} {b N : Nat} (h : FK K G1' G2' b) (h1 : ∀ b, G1' b → G1 b ∨ N ≤ b) (h2 : ∀ b, G2' b → G2 b ∨ N ≤ b) : FK K G1 G2 b ∨ N ≤ b := by
  rcases h with (h | h) | h
  · exact (h1 b h).imp (fun h => Or.inl (Or.inl h)) id
  · exact (h2 b h).imp (fun h => Or.inl (Or.inr h)) id
  · exact Or.inl (Or.inr h)
def K2 (p q b : Nat) : Prop := b = p ∨ b = q
def K3 (p q N b : Nat) : Prop := K2 p q b ∨ b < N
theorem K2.l {p q : Nat} : K2 p q p := .inl rfl
theorem K2.r {p q : Nat} : K2 p q q := .inr rfl
theorem K2.lt {p q B : Nat} (h1 : p < B) (h2 : q < B) (b : Nat) (h : K2 p q b) : b < B := by rcases h with h | h <;> omega
theorem MsIn.step {w w' : World} {F F' : Nat → Prop} {y : MsD} {u : MsV} (h : MsIn F w y u) (hc : Chg F w w') (hF : ∀ b, F' b → F b ∨ w.heap.size ≤ b) : MsIn F' w' y u := ⟨(h.chg hc).s, h.z, h.k, (h.to hF).ap⟩
theorem MsIn.store {w w' : World} {K G1 G2 : Nat → Prop} {q : Nat} {y : MsD} {u : MsV} (h : MsIn (FK K G1 G2) w y u) (hg : w.grownBy w' (some q)) (hk : K q) : MsIn (FK K G1 G2) w' y u := h.chg ((grown_chg hg).mono (fun b e => .inl (.inr (by subst e; exact hk))))
theorem MsO.chg {B : Nat} {F : Nat → Prop} {w w' : World} {x : MsD} {u : MsV} (h : MsO B w x u) (hc : Chg F w w') (hF : ∀ b, F b → b < B) : MsO B w' x u := by
  have hk : ∀ {e : TypeId} {n size : Nat} {v : Value} {xs : List Value}, w.ownsRow B e size v n xs → w'.ownsRow B e size v n xs := fun ho => own_at ho (fun q hq => hc.at_ (own_in ho hq) (fun hf => by
    have h1 := hF q hf
    have h2 := (ho.lt q hq).1
    omega))
  exact ⟨hk h.tx, hk h.hb, hk h.hp, hk h.cb, hk h.cp, hk h.cs, hk h.ds⟩
end Go.Proofs.Ytebaojcfmkobjaa
