/-
  A region that draws its order, whose operations only read and whose calls make memory at most ('Below'): one walk, in the order of the text. Over any program.
-/
import Derived.Test.YtihpmaifcebpiaaMem
namespace Go.Proofs.Ytihpmaifcebpiaa
open Go.RowKit

/-- The worlds that have what W has. -/
def Wd (W : World) : Type := { w' : World // Below W.heap.size W w' }
def Wd.w {W : World} (n : Wd W) : World := n.1
theorem Wd.below {W : World} (n : Wd W) : Below W.heap.size W n.w := n.2
theorem Wd.is {W w' : World} (h : Below W.heap.size W w') : ∃ m : Wd W, w' = m.w := ⟨⟨w', h⟩, rfl⟩
instance (W : World) : Nonempty (Wd W) := ⟨⟨W, Below.refl _ _⟩⟩
instance (W : World) : Inhabited (Wd W) := ⟨⟨W, Below.refl _ _⟩⟩
theorem Wd.cell {W : World} {p : Addr} {v : Value} (h : W.cell? p = some v) (n : Wd W) : n.w.cell? p = some v := (n.below.cell (lt_of_cell h)).trans h
theorem Wd.sl {W : World} {size k : Nat} {A : Option Addr} {cs : List Value} (h : Sl W size A k cs) (n : Wd W) : Sl n.w size A k cs := h.below n.below
theorem wd_call {P : Program} {f : FuncId} {args : Array Value} {W : World} {n : Wd W} {v : Value} (h : Calls P f args n.w fun e w' => e = .returned v ∧ Below n.w.heap.size n.w w') :
    Calls P f args n.w fun e w'' => e = .returned v ∧ ∃ m : Wd W, w'' = m.w :=
  h.mono fun _ _ ⟨he, hb⟩ => ⟨he, Wd.is (n.below.trans (hb.mono n.below.size))⟩
theorem wd_same {P : Program} {f : FuncId} {args : Array Value} {W : World} {n : Wd W} {v : Value} (h : Calls P f args n.w fun e w' => e = .returned v ∧ n.w = w') :
    Calls P f args n.w fun e w'' => e = .returned v ∧ ∃ m : Wd W, w'' = m.w :=
  h.mono fun _ _ ⟨he, hb⟩ => ⟨he, n, hb.symm⟩
theorem wd_drawn {P : Program} {f : FuncId} {args : Array Value} {W : World} {n : Wd W} {v : Value} (h : Calls P f args n.w fun e w' => e = .returned v ∧ ∃ q, w' = n.w.drewN q) :
    Calls P f args n.w fun e w'' => e = .returned v ∧ ∃ m : Wd W, w'' = m.w :=
  h.mono fun _ _ ⟨he, q, hb⟩ => ⟨he, by subst hb; exact Wd.is (below_drewN n.below q)⟩
theorem wp_region_wd {P : Program} {id : Nat} {Q : Exit → Act → World → Prop} {a : Act} {W : World} {l : List Oper} (hm : P.follows .mixedOrders = true) (hB : Region.lexB .any l.toArray = true)
    (h : wpQuiet P l.toArray (fun w' => ∃ n : Wd W, w' = n.w) (fun a' => ∀ w', (∃ n : Wd W, w' = n.w) → Q .normal a' w') l a) : (Code.region id l.toArray true).wp P Q a W :=
  wp_region_quiet (C := fun w' => ∃ n : Wd W, w' = n.w) hm hB (Wd.is (Below.refl _ _).drew) (by simpa using h)
/-- Behind the region. -/
theorem wd_end {Q : Exit → Act → World → Prop} {a : Act} {W : World} (h : ∀ wq, Below W.heap.size W wq → Q .normal a wq) : ∀ w', (∃ n : Wd W, w' = n.w) → Q .normal a w' := by
  rintro w' ⟨n, rfl⟩
  exact h _ n.below
theorem yielded_undef : Go.yielded.match_1 (fun _ => Option Bool) (some undef) (fun b => some b) (fun _ => none) = none := rfl
attribute [go_sem] yielded_undef
end Go.Proofs.Ytihpmaifcebpiaa
