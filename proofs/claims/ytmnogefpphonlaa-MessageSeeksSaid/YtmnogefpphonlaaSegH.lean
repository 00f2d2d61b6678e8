/-
  Regions that draw their order, over frames known by facts, with calls that make memory: what only reads is taken first, a call when it is the only one left to come up. Over any program.
-/
import Derived.Test.YtmnogefpphonlaaSeg
import Derived.OrdersHeld
set_option linter.unusedVariables false
set_option linter.unusedSimpArgs false
namespace Go.Proofs.Ytmnogefpphonlaa
open Go.RowKit

def OnlyN (K : Act → World → Prop) (e : Exit) (a : Act) (w : World) : Prop := e = .normal ∧ K a w
section
variable {P : Program} {a : Act} {n : Nat} {M M' : List (Nat × Value)} {ops : Array Oper} {o : Oper} {w w' W : World} {v : Value} {K : Act → World → Prop} {S : World → Prop} {fuel i : Nat} {listed : Array Bool}
theorem h_open {id : Nat} {Q : Exit → Act → World → Prop} {l : List Oper} {B : Code} (N : Nat) (hN : l.length = N) (hm : P.follows .mixedOrders = true)
    (h : ∀ (K : Act → World → Prop) (w1 : World), Below W.heap.size W w1 → (∀ a' w', B.wp P Q a' w' → K a' w') → wpAnyH P .any l.toArray (OnlyN K) (Below w1.heap.size w1) N (Array.replicate N false) a w1) : ((Code.region id l.toArray true).seq B).wp P Q a W := by
  subst hN
  refine wp_seq (wp_mono (Q := OnlyN fun a w => B.wp P Q a w) (wp_region_held (S := Below W.drew.heap.size W.drew) hm ?_) ?_)
  · simpa using h _ W.drew (Below.refl _ W).drew (fun _ _ h => h)
  · rintro e a' w' ⟨rfl, h⟩
    exact h
/-- .. up to what is told of the end. -/
theorem h_open_cut {id : Nat} {Q : Exit → Act → World → Prop} {l : List Oper} {B : Code} (N : Nat) (hN : l.length = N) (T : Act → World → Prop) (hm : P.follows .mixedOrders = true)
    (h : ∀ (w1 : World), Below W.heap.size W w1 → wpAnyH P .any l.toArray (OnlyN T) (Below w1.heap.size w1) N (Array.replicate N false) a w1) (hB : ∀ a' w', T a' w' → B.wp P Q a' w') : ((Code.region id l.toArray true).seq B).wp P Q a W := by
  subst hN
  refine wp_seq (wp_mono (Q := OnlyN T) (wp_region_held (S := Below W.drew.heap.size W.drew) hm ?_) ?_)
  · simpa using h W.drew (Below.refl _ W).drew
  · rintro e a' w' ⟨rfl, h⟩
    exact hB _ _ h
theorem h_val {d : Nat} (i : Nat) (hi : ops[i]? = some o) (hs : Region.noSelect ops = true) (hf : Region.free .any ops listed i = true) (hr : (Region.ready .any ops listed).contains i = true) (hM : Frm a n M) (hw : Want ops M o) (hd : o.dst = some d) (hn : Nat.blt d n = true)
    (hS : S w) (hy : ∀ w', S w' → Ev P M o w' v) (h : ∀ a', Frm a' n ((d, v) :: M) → wpAnyH P .any ops (OnlyN K) S fuel (listed.setIfInBounds i true) a' w) : wpAnyH P .any ops (OnlyN K) S (fuel + 1) listed a w := by
  refine wpAnyH_take hi hs hf hr ?_ (.inl ⟨hw.is hM, fun w' h' => hy w' h' _ _ hM⟩) hS ?_
  · rintro c a w ⟨h, _⟩; cases h
  · rw [hd]; exact h _ (hM.put (Nat.le_of_ble_eq_true hn) v)
theorem h_skip {d j dj : Nat} {b c : Bool} (i : Nat) (hi : ops[i]? = some o) (hs : Region.noSelect ops = true) (hf : Region.free .any ops listed i = true) (hr : (Region.ready .any ops listed).contains i = true) (hM : Frm a n M) (hg : o.guard = some (j, b)) (hj : (ops[j]?).bind (·.dst) = some dj) (hl : lk M dj = some (.bool c)) (hc : c = !b)
    (hd : o.dst = some d) (hn : Nat.blt d n = true) (hS : S w) (h : ∀ a', Frm a' n ((d, undef) :: M) → wpAnyH P .any ops (OnlyN K) S fuel (listed.setIfInBounds i true) a' w) : wpAnyH P .any ops (OnlyN K) S (fuel + 1) listed a w := by
  refine wpAnyH_take (v := undef) hi hs hf hr ?_ (.inr ⟨by subst hc; simp [Region.wanted, hg, hM.yield hj hl], rfl⟩) hS ?_
  · rintro c a w ⟨h, _⟩; cases h
  · rw [hd]; exact h _ (hM.put (Nat.le_of_ble_eq_true hn) undef)
theorem h_skipu {d j dj : Nat} {b : Bool} (i : Nat) (hi : ops[i]? = some o) (hs : Region.noSelect ops = true) (hf : Region.free .any ops listed i = true) (hr : (Region.ready .any ops listed).contains i = true) (hM : Frm a n M) (hg : o.guard = some (j, b)) (hj : (ops[j]?).bind (·.dst) = some dj) (hl : lk M dj = some undef)
    (hd : o.dst = some d) (hn : Nat.blt d n = true) (hS : S w) (h : ∀ a', Frm a' n ((d, undef) :: M) → wpAnyH P .any ops (OnlyN K) S fuel (listed.setIfInBounds i true) a' w) : wpAnyH P .any ops (OnlyN K) S (fuel + 1) listed a w := by
  refine wpAnyH_take (v := undef) hi hs hf hr ?_ (.inr ⟨by simp [Region.wanted, hg, hM.yieldu hj hl], rfl⟩) hS ?_
  · rintro c a w ⟨h, _⟩; cases h
  · rw [hd]; exact h _ (hM.put (Nat.le_of_ble_eq_true hn) undef)
theorem h_op_call {d : Nat} {f : FuncId} {args : Array Value} {Post : Ending → World → Prop} {K' : Act → World → Prop} {Q : Exit → Act → World → Prop} (hi : ops[i]? = some o) (hM : Frm a n M) (hw : Want ops M o) (hd : o.dst = some d) (hn : Nat.blt d n = true) (hr : (execOp a.eval o).run P w = .ok (.enter f args) w)
    (hc : Calls P f args w Post) (h : ∀ e w', Post e w' → ∃ v, e = .returned v ∧ ∀ a', Frm a' n ((d, v) :: M) → K' a' w') : wpOp P ops Q i K' a w := by
  unfold wpOp
  rw [hi]
  show (if Region.wanted o (yielded ops a.tmps) then _ else _)
  rw [if_pos (hw.is hM)]
  refine .inl ?_
  unfold Oper.wp
  rw [hr, Oper.upon_enter]
  refine hc.mono ?_
  intro e w' hp
  obtain ⟨v, rfl, hk⟩ := h e w' hp
  simp only [hd]
  exact hk _ (hM.put (Nat.le_of_ble_eq_true hn) v)
theorem h_call {d : Nat} {f : FuncId} {args : Array Value} {Post : Ending → World → Prop} (i : Nat) (hi : ops[i]? = some o) (hrs : Region.ready .any ops listed = [i]) (hM : Frm a n M) (hw : Want ops M o) (hd : o.dst = some d) (hn : Nat.blt d n = true) (hr : (execOp a.eval o).run P w = .ok (.enter f args) w)
    (hc : Calls P f args w Post) (h : ∀ e w', Post e w' → ∃ v, e = .returned v ∧ ∀ a', Frm a' n ((d, v) :: M) → S w' ∧ wpAnyH P .any ops (OnlyN K) S fuel (listed.setIfInBounds i true) a' w') : wpAnyH P .any ops (OnlyN K) S (fuel + 1) listed a w :=
  wpAnyH_all hrs (by simp) (fun j hj => by
    obtain rfl : j = i := by simpa using hj
    exact h_op_call hi hM hw hd hn hr hc h)
theorem h_all {rs : List Nat} (hrs : Region.ready .any ops listed = rs) (hne : rs ≠ []) (h : ∀ i ∈ rs, wpOp P ops (OnlyN K) i (fun a' w' => S w' ∧ wpAnyH P .any ops (OnlyN K) S fuel (listed.setIfInBounds i true) a' w') a w) : wpAnyH P .any ops (OnlyN K) S (fuel + 1) listed a w := wpAnyH_all hrs hne h
/-- A new block, made by the only operation that may come up. -/
theorem h_alloc {d : Nat} {C : Array Value} {e : TypeId} {V : Nat → Value} (i : Nat) (hi : ops[i]? = some o) (hrs : Region.ready .any ops listed = [i]) (hM : Frm a n M) (hw : Want ops M o) (hd : o.dst = some d) (hn : Nat.blt d n = true) (hr : (execOp a.eval o).run P w = .ok (.value (V w.heap.size)) (w.alloc (.cells C e)))
    (h : ∀ g a' w', Frm a' n ((d, V g) :: M) → Blk w' g e C → Below w.heap.size w w' → w.heap.size ≤ g → S w' ∧ wpAnyH P .any ops (OnlyN K) S fuel (listed.setIfInBounds i true) a' w') : wpAnyH P .any ops (OnlyN K) S (fuel + 1) listed a w :=
  wpAnyH_all hrs (by simp) (fun j hj => by
    obtain rfl : j = i := by simpa using hj
    unfold wpOp
    rw [hi]
    show (if Region.wanted o (yielded ops a.tmps) then _ else _)
    rw [if_pos (hw.is hM)]
    refine .inl ?_
    unfold Oper.wp
    rw [hr, Oper.upon_value, hd]
    exact h _ _ _ (hM.put (Nat.le_of_ble_eq_true hn) _) (Blk.new w e C) (below_alloc_ w _) (Nat.le_refl _))
theorem h_nil (hr : Region.ready .any ops listed = []) (h : K a w) : wpAnyH P .any ops (OnlyN K) S fuel listed a w := wpAnyH_done hr ⟨rfl, h⟩ fuel
theorem s_in {w w1 : World} (h : Below w1.heap.size w1 w) (h' : Below w.heap.size w w') : Below w1.heap.size w1 w' := h.trans (h'.mono h.size)
end
end Go.Proofs.Ytmnogefpphonlaa
