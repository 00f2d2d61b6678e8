/-
  Texts joined: words and contracts that later texts use; lemmas alone, no conditions of a statement.
-/
import Derived.Test.YtflamhndmggiaaaSeg
import Derived.OrdersHeld
import Derived.ScopeJumps
import Derived.Lib.SlBytesConst
set_option linter.unusedVariables false
set_option linter.unusedSimpArgs false
/-
  Regions that draw their order, over frames known by facts, with calls that make memory: what only reads is taken first, a call when it is the only one left to come up. Over any program.
-/
namespace Go.Proofs.Ytflamhndmggiaaa
open Go.RowKit

def OnlyN (K : Act → World → Prop) (e : Exit) (a : Act) (w : World) : Prop := e = .normal ∧ K a w
section
variable {P : Program} {a : Act} {n : Nat} {M M' : List (Nat × Value)} {ops : Array Oper} {o : Oper} {w w' W : World} {v : Value} {K : Act → World → Prop} {S : World → Prop} {fuel i : Nat} {listed : Array Bool}
theorem h_open {id : Nat} {Q : Exit → Act → World → Prop} {l : List Oper} {B : Code} (N : Nat) (hN : l.length = N) (hm : P.follows .mixedOrders = true)
    (h : ∀ (K : Act → World → Prop) (w1 : World), Below W.heap.size W w1 → (∀ a' w', B.wp P Q a' w' → K a' w') → wpAnyH P .any l.toArray (OnlyN K) (Below w1.heap.size w1) N (Array.replicate N false) a w1) : ((Code.region id l.toArray true).seq B).wp P Q a W := by
  subst hN
  refine wp_seq (wp_mono (Q := OnlyN fun a w => B.wp P Q a w) (wp_region_held (S := Below W.drew.heap.size W.drew) hm ?_) ?_)
  · simpa using h _ W.drew (Below.refl _ W).drew (fun _ _ h => h)
  · rintro e a' w' ⟨rfl, h⟩
    exact h
/-- .. up to what is told of the end. -/
theorem h_open_cut {id : Nat} {Q : Exit → Act → World → Prop} {l : List Oper} {B : Code} (N : Nat) (hN : l.length = N) (T : Act → World → Prop) (hm : P.follows .mixedOrders = true)
    (h : ∀ (w1 : World), Below W.heap.size W w1 → wpAnyH P .any l.toArray (OnlyN T) (Below w1.heap.size w1) N (Array.replicate N false) a w1) (hB : ∀ a' w', T a' w' → B.wp P Q a' w') : ((Code.region id l.toArray true).seq B).wp P Q a W := by
  subst hN
  refine wp_seq (wp_mono (Q := OnlyN T) (wp_region_held (S := Below W.drew.heap.size W.drew) hm ?_) ?_)
  · simpa using h W.drew (Below.refl _ W).drew
  · rintro e a' w' ⟨rfl, h⟩
    exact hB _ _ h
theorem h_val {d : Nat} (i : Nat) (hi : ops[i]? = some o) (hs : Region.noSelect ops = true) (hf : Region.free .any ops listed i = true) (hr : (Region.ready .any ops listed).contains i = true) (hM : Frm a n M) (hw : Want ops M o) (hd : o.dst = some d) (hn : Nat.blt d n = true)
    (hS : S w) (hy : ∀ w', S w' → Ev P M o w' v) (h : ∀ a', Frm a' n ((d, v) :: M) → wpAnyH P .any ops (OnlyN K) S fuel (listed.setIfInBounds i true) a' w) : wpAnyH P .any ops (OnlyN K) S (fuel + 1) listed a w := by
  refine wpAnyH_take hi hs hf hr ?_ (.inl ⟨hw.is hM, fun w' h' => hy w' h' _ _ hM⟩) hS ?_
  · rintro c a w ⟨h, _⟩; cases h
  · rw [hd]; exact h _ (hM.put (Nat.le_of_ble_eq_true hn) v)
theorem h_skip {d j dj : Nat} {b c : Bool} (i : Nat) (hi : ops[i]? = some o) (hs : Region.noSelect ops = true) (hf : Region.free .any ops listed i = true) (hr : (Region.ready .any ops listed).contains i = true) (hM : Frm a n M) (hg : o.guard = some (j, b)) (hj : (ops[j]?).bind (·.dst) = some dj) (hl : lk M dj = some (.bool c)) (hc : c = !b)
    (hd : o.dst = some d) (hn : Nat.blt d n = true) (hS : S w) (h : ∀ a', Frm a' n ((d, undef) :: M) → wpAnyH P .any ops (OnlyN K) S fuel (listed.setIfInBounds i true) a' w) : wpAnyH P .any ops (OnlyN K) S (fuel + 1) listed a w := by
  refine wpAnyH_take (v := undef) hi hs hf hr ?_ (.inr ⟨by subst hc; simp [Region.wanted, hg, hM.yield hj hl], rfl⟩) hS ?_
  · rintro c a w ⟨h, _⟩; cases h
  · rw [hd]; exact h _ (hM.put (Nat.le_of_ble_eq_true hn) undef)
theorem h_skipu {d j dj : Nat} {b : Bool} (i : Nat) (hi : ops[i]? = some o) (hs : Region.noSelect ops = true) (hf : Region.free .any ops listed i = true) (hr : (Region.ready .any ops listed).contains i = true) (hM : Frm a n M) (hg : o.guard = some (j, b)) (hj : (ops[j]?).bind (·.dst) = some dj) (hl : lk M dj = some undef)
    (hd : o.dst = some d) (hn : Nat.blt d n = true) (hS : S w) (h : ∀ a', Frm a' n ((d, undef) :: M) → wpAnyH P .any ops (OnlyN K) S fuel (listed.setIfInBounds i true) a' w) : wpAnyH P .any ops (OnlyN K) S (fuel + 1) listed a w := by
  refine wpAnyH_take (v := undef) hi hs hf hr ?_ (.inr ⟨by simp [Region.wanted, hg, hM.yieldu hj hl], rfl⟩) hS ?_
  · rintro c a w ⟨h, _⟩; cases h
  · rw [hd]; exact h _ (hM.put (Nat.le_of_ble_eq_true hn) undef)
theorem h_op_call {d : Nat} {f : FuncId} {args : Array Value} {Post : Ending → World → Prop} {K' : Act → World → Prop} {Q : Exit → Act → World → Prop} (hi : ops[i]? = some o) (hM : Frm a n M) (hw : Want ops M o) (hd : o.dst = some d) (hn : Nat.blt d n = true) (hr : (execOp a.eval o).run P w = .ok (.enter f args) w)
    (hc : Calls P f args w Post) (h : ∀ e w', Post e w' → ∃ v, e = .returned v ∧ ∀ a', Frm a' n ((d, v) :: M) → K' a' w') : wpOp P ops Q i K' a w := by
  unfold wpOp
  rw [hi]
  show (if Region.wanted o (yielded ops a.tmps) then _ else _)
  rw [if_pos (hw.is hM)]
  refine .inl ?_
  unfold Oper.wp
  rw [hr, Oper.upon_enter]
  refine hc.mono ?_
  intro e w' hp
  obtain ⟨v, rfl, hk⟩ := h e w' hp
  simp only [hd]
  exact hk _ (hM.put (Nat.le_of_ble_eq_true hn) v)
theorem h_call {d : Nat} {f : FuncId} {args : Array Value} {Post : Ending → World → Prop} (i : Nat) (hi : ops[i]? = some o) (hrs : Region.ready .any ops listed = [i]) (hM : Frm a n M) (hw : Want ops M o) (hd : o.dst = some d) (hn : Nat.blt d n = true) (hr : (execOp a.eval o).run P w = .ok (.enter f args) w)
    (hc : Calls P f args w Post) (h : ∀ e w', Post e w' → ∃ v, e = .returned v ∧ ∀ a', Frm a' n ((d, v) :: M) → S w' ∧ wpAnyH P .any ops (OnlyN K) S fuel (listed.setIfInBounds i true) a' w') : wpAnyH P .any ops (OnlyN K) S (fuel + 1) listed a w :=
  wpAnyH_all hrs (by simp) (fun j hj => by
    obtain rfl : j = i := by simpa using hj
    exact h_op_call hi hM hw hd hn hr hc h)
theorem h_all {rs : List Nat} (hrs : Region.ready .any ops listed = rs) (hne : rs ≠ []) (h : ∀ i ∈ rs, wpOp P ops (OnlyN K) i (fun a' w' => S w' ∧ wpAnyH P .any ops (OnlyN K) S fuel (listed.setIfInBounds i true) a' w') a w) : wpAnyH P .any ops (OnlyN K) S (fuel + 1) listed a w := wpAnyH_all hrs hne h
/-- A new block, made by the only operation that may come up. -/
theorem h_alloc {d : Nat} {C : Array Value} {e : TypeId} {V : Nat → Value} (i : Nat) (hi : ops[i]? = some o) (hrs : Region.ready .any ops listed = [i]) (hM : Frm a n M) (hw : Want ops M o) (hd : o.dst = some d) (hn : Nat.blt d n = true) (hr : (execOp a.eval o).run P w = .ok (.value (V w.heap.size)) (w.alloc (.cells C e)))
    (h : ∀ g a' w', Frm a' n ((d, V g) :: M) → Blk w' g e C → Below w.heap.size w w' → w.heap.size ≤ g → S w' ∧ wpAnyH P .any ops (OnlyN K) S fuel (listed.setIfInBounds i true) a' w') : wpAnyH P .any ops (OnlyN K) S (fuel + 1) listed a w :=
  wpAnyH_all hrs (by simp) (fun j hj => by
    obtain rfl : j = i := by simpa using hj
    unfold wpOp
    rw [hi]
    show (if Region.wanted o (yielded ops a.tmps) then _ else _)
    rw [if_pos (hw.is hM)]
    refine .inl ?_
    unfold Oper.wp
    rw [hr, Oper.upon_value, hd]
    exact h _ _ _ (hM.put (Nat.le_of_ble_eq_true hn) _) (Blk.new w e C) (below_alloc_ w _) (Nat.le_refl _))
theorem h_nil (hr : Region.ready .any ops listed = []) (h : K a w) : wpAnyH P .any ops (OnlyN K) S fuel listed a w := wpAnyH_done hr ⟨rfl, h⟩ fuel
theorem s_in {w w1 : World} (h : Below w1.heap.size w1 w) (h' : Below w.heap.size w w') : Below w1.heap.size w1 w' := h.trans (h'.mono h.size)
end
end Go.Proofs.Ytflamhndmggiaaa
/-
  More words for walks over frames known by facts: cells, boxes, jumps. Over any program.
-/
namespace Go.Proofs.Ytflamhndmggiaaa
open Go.RowKit

section
variable {P : Program} {a : Act} {n : Nat} {M : List (Nat × Value)} {o : Oper} {w w' : World} {v : Value} {Q : Exit → Act → World → Prop}
/-- A cell. -/
def CellAt (w : World) (b k : Nat) (v : Value) : Prop := b < w.heap.size ∧ w.cell? ⟨b, k, none⟩ = some v
theorem CellAt.below {b k : Nat} (h : CellAt w b k v) (hb : Below w.heap.size w w') : CellAt w' b k v := ⟨Nat.lt_of_lt_of_le h.1 hb.size, (hb.cell h.1).trans h.2⟩
theorem CellAt.of {b k : Nat} (h : w.cell? ⟨b, k, none⟩ = some v) : CellAt w b k v := ⟨lt_of_cell h, h⟩
theorem act_off {c : Code} (n : Nat) (M : List (Nat × Value)) (h0 : Frm a n M) (h : ∀ a, Frm a n M → c.wp P Q a w) : c.wp P Q a w := h a h0
theorem Frm.getD_ (h : Frm a n M) {t : Nat} (hl : lk M t = some v) : a.tmps.getD t undef = v := h.ev (t := t) hl
theorem th_r {K : Act → World → Prop} (h : Q .ret a w) : Exit.then K Q .ret a w := h
theorem inb_r {id : Nat} (h : Q .ret a w) : Exit.inBlock id Q .ret a w := h
theorem th_g {l : Nat} {K : Act → World → Prop} (h : Q (.goto l) a w) : Exit.then K Q (.goto l) a w := h
theorem inb_g {id l : Nat} (h : Q (.goto l) a w) : Exit.inBlock id Q (.goto l) a w := h
theorem ev_box {T : TypeId} {x : Operand} {C : Array Value} (hM : Frm a n M) (ho : o.op = .box T x) (hx : opv M x = some (.agg C)) : (execOp a.eval o).run P w = .ok (.value ((fun g => Value.pointer (some ⟨g, 0, none⟩)) w.heap.size)) (w.alloc (.cells C T)) := by
  simp only [execOp, ho, hM.evo hx]
  simp [go_sem, Instr.box]
theorem ev_build2 {T : TypeId} {x y : Operand} {vx vy : Value} (ho : o.op = .build T #[(0, x), (1, y)]) (hx : opv M x = some vx) (hy : opv M y = some vy) (hr : ∀ w, (Instr.build T #[(0, vx), (1, vy)]).run P w = .ok v w) : Ev P M o w v := fun a n hM => by
  have e : (#[(0, x), (1, y)] : Array (Nat × Operand)).map (fun (i, x) => (i, a.eval x)) = #[(0, vx), (1, vy)] := by simp [hM.evo hx, hM.evo hy]
  simp only [execOp, ho, e]
  simp [Sem.run_bind, hr]
theorem ev_bsl {t e : TypeId} {y : Operand} {z : Value} (hM : Frm a n M) (ho : o.op = .buildSlice t 1 #[(0, y)]) (hy : opv M y = some z) (hr : ∀ w, (Instr.buildSlice t 1 #[(0, z)]).run P w = .ok (.slice (some ⟨w.heap.size, 0, none⟩) 1 1) (w.alloc (.cells #[z] e))) :
    (execOp a.eval o).run P w = .ok (.value ((fun g => Value.slice (some ⟨g, 0, none⟩) 1 1) w.heap.size)) (w.alloc (.cells #[z] e)) := by
  have e2 : (#[(0, y)] : Array (Nat × Operand)).map (fun (i, x) => (i, a.eval x)) = #[(0, z)] := by simp [hM.evo hy]
  simp only [execOp, ho, e2]
  simp [Sem.run_bind, hr]
theorem ev_nilc {x : Operand} {p : Addr} (ho : o.op = .nilCheck x) (hx : opv M x = some (.pointer (some p))) : Ev P M o w (.pointer (some p)) := fun a n hM => by
  simp [execOp, ho, hM.evo hx]
theorem ev_ptrnil {T tr : TypeId} {x : Operand} {p : Addr} (ho : o.op = .binOp .eql T x (.const (.pointer none)) tr) (hx : opv M x = some (.pointer (some p))) (hu : ∀ w, (binOp .eql T (.pointer (some p)) (.pointer none)).run P w = .ok (.bool false) w)
    (hg : ∀ w, (eqGuard .eql T x (.const (.pointer none)) (.pointer (some p)) (.pointer none)).run P w = .ok () w) : Ev P M o w (.bool false) := ev_bin ho hx rfl hg hu
/-- Jumps to labels, each with what holds at it and a number that falls. -/
def Exit.jumps (J : Nat → Act → World → Prop) (Q : Exit → Act → World → Prop) : Exit → Act → World → Prop
  | .goto l, a, w => J l a w
  | e, a, w => Q e a w
theorem js_g {J : Nat → Act → World → Prop} {l : Nat} (h : J l a w) : Exit.jumps J Q (.goto l) a w := h
theorem js_r {J : Nat → Act → World → Prop} (h : Q .ret a w) : Exit.jumps J Q .ret a w := h
theorem scope_many {c : Code} (R : Nat → Code) (I : Nat → Nat → Act → World → Prop) (hf : ∀ l m a w, I l m a w → findLabel c l = some (Code.skip.seq (R l)))
    (pass : ∀ l m a w, I l m a w → (R l).wp P (Exit.jumps (fun l' a' w' => ∃ m', m' < m ∧ I l' m' a' w') Q) a w)
    (first : (∀ l m a w, I l m a w → (R l).wp P (Exit.jumps (fun l' a' w' => ∃ m', I l' m' a' w') Q) a w) → c.wp P (Exit.jumps (fun l' a' w' => ∃ m', I l' m' a' w') Q) a w) : (Code.scope c).wp P Q a w := by
  intro b k cs
  have hg : ∀ l m a w, I l m a w → gotoIn l (.inScope c :: k) = some (.code (Code.skip.seq (R l)) :: .inScope c :: k) := fun l m a w h => by simp [gotoIn, hf l m a w h]
  have key : ∀ m l a w, I l m a w → ∃ e a' w', Q e a' w' ∧ Arrives P (lone (b.at a (.code (Code.skip.seq (R l)) :: .inScope c :: k)) cs w) b k cs e a' w' := by
    intro m
    induction m using Nat.strongRecOn with
    | _ m ih =>
      intro l a w hI
      obtain ⟨e, a₁, w₁, hq, harr⟩ := (wp_seq (wp_skip (pass l m a w hI)) : (Code.skip.seq (R l)).wp P (Exit.jumps (fun l' a' w' => ∃ m', m' < m ∧ I l' m' a' w') Q) a w) b (.inScope c :: k) cs
      cases e with
      | normal => exact ⟨.normal, a₁, w₁, hq, Steps.trans harr (.one step_inScope)⟩
      | exit id => exact ⟨.exit id, a₁, w₁, hq, fun k' hk => harr k' (by simp [exitTo, hk])⟩
      | goto l' =>
        obtain ⟨m', hlt, hI'⟩ := hq
        obtain ⟨e₂, a₂, w₂, hq₂, harr₂⟩ := ih m' hlt l' a₁ w₁ hI'
        exact ⟨e₂, a₂, w₂, hq₂, .of_steps (harr _ (hg _ _ _ _ hI')) harr₂⟩
      | ret => exact ⟨_, a₁, w₁, hq, harr⟩
      | panic ch => exact ⟨_, a₁, w₁, hq, harr⟩
      | outgrown => exact ⟨_, a₁, w₁, hq, harr⟩
  have hfirst := first fun l m a w hI => wp_mono (pass l m a w hI) fun e a' w' h => by
    cases e with
    | goto l' => obtain ⟨m', _, h'⟩ := h; exact ⟨m', h'⟩
    | _ => exact h
  obtain ⟨e, a₁, w₁, hq, harr⟩ := hfirst b (.inScope c :: k) cs
  cases e with
  | normal => exact ⟨.normal, a₁, w₁, hq, .head step_scope (Steps.trans harr (.one step_inScope))⟩
  | exit id => exact ⟨.exit id, a₁, w₁, hq, fun k' hk => .head step_scope (harr k' (by simp [exitTo, hk]))⟩
  | goto l' =>
    obtain ⟨m', hI'⟩ := hq
    obtain ⟨e₂, a₂, w₂, hq₂, harr₂⟩ := key m' l' a₁ w₁ hI'
    exact ⟨e₂, a₂, w₂, hq₂, .of_steps (.head step_scope (harr _ (hg _ _ _ _ hI'))) harr₂⟩
  | ret => exact ⟨_, a₁, w₁, hq, .of_steps (.one step_scope) harr⟩
  | panic ch => exact ⟨_, a₁, w₁, hq, .of_steps (.one step_scope) harr⟩
  | outgrown => exact ⟨_, a₁, w₁, hq, .of_steps (.one step_scope) harr⟩
end
end Go.Proofs.Ytflamhndmggiaaa
/-
  More words for walks over frames known by facts: jumps to two labels, whole records stored, results. Over any program.
-/
namespace Go.Proofs.Ytflamhndmggiaaa
open Go.RowKit

section
variable {P : Program} {a : Act} {n : Nat} {M : List (Nat × Value)} {ops : Array Oper} {o : Oper} {w w' : World} {v : Value} {Q : Exit → Act → World → Prop} {K : Act → World → Prop} {rest : List Oper}
def J2 (l0 l1 : Nat) (I0 : Act → World → Prop) (I1 : Act → World → Prop) (l : Nat) (a : Act) (w : World) : Prop := (l = l0 ∧ I0 a w) ∨ (l = l1 ∧ I1 a w)
theorem J2.l0 {l0 l1 : Nat} {I0 I1 : Act → World → Prop} (h : I0 a w) : J2 l0 l1 I0 I1 l0 a w := .inl ⟨rfl, h⟩
theorem J2.l1 {l0 l1 : Nat} {I0 I1 : Act → World → Prop} (h : I1 a w) : J2 l0 l1 I0 I1 l1 a w := .inr ⟨rfl, h⟩
theorem jumps_mono {c : Code} {J J' : Nat → Act → World → Prop} (h : c.wp P (Exit.jumps J Q) a w) (hj : ∀ l a w, J l a w → J' l a w) : c.wp P (Exit.jumps J' Q) a w :=
  wp_mono h fun e a' w' h => by
    cases e with
    | goto l' => exact hj _ _ _ h
    | _ => exact h
/-- A scope with a label that only ends (l0), and one that is come back to (l1), with a number that falls. -/
theorem scope_two {c R0 R1 : Code} (l0 l1 : Nat) (hne : l1 ≠ l0) (I0 : Act → World → Prop) (I1 : Nat → Act → World → Prop) (f0 : findLabel c l0 = some (Code.skip.seq R0)) (f1 : findLabel c l1 = some (Code.skip.seq R1))
    (p0 : ∀ J a w, I0 a w → R0.wp P (Exit.jumps J Q) a w)
    (p1 : ∀ m a w, I1 m a w → R1.wp P (Exit.jumps (J2 l0 l1 I0 (fun a' w' => ∃ m', m' < m ∧ I1 m' a' w')) Q) a w)
    (first : (∀ m a w, I1 m a w → R1.wp P (Exit.jumps (J2 l0 l1 I0 (fun a' w' => ∃ m', I1 m' a' w')) Q) a w) → c.wp P (Exit.jumps (J2 l0 l1 I0 (fun a' w' => ∃ m', I1 m' a' w')) Q) a w) : (Code.scope c).wp P Q a w := by
  refine scope_many (fun l => if l = l0 then R0 else R1) (fun l m a w => (l = l0 ∧ m = 0 ∧ I0 a w) ∨ (∃ q, l = l1 ∧ m = q + 1 ∧ I1 q a w)) ?_ ?_ ?_
  · rintro l m a w (⟨rfl, _, _⟩ | ⟨q, rfl, _, _⟩)
    · simpa using f0
    · simpa [hne] using f1
  · rintro l m a w (⟨rfl, _, h⟩ | ⟨q, rfl, rfl, h⟩)
    · simp only [if_pos rfl]; exact p0 _ a w h
    · simp only [if_neg hne]
      refine jumps_mono (p1 q a w h) ?_
      rintro l a w (⟨rfl, h⟩ | ⟨rfl, m', hm, h⟩)
      · exact ⟨0, by omega, .inl ⟨rfl, rfl, h⟩⟩
      · exact ⟨m' + 1, by omega, .inr ⟨m', rfl, rfl, h⟩⟩
  · intro _
    refine jumps_mono (first fun m a w h => jumps_mono (p1 m a w h) ?_) ?_
    · rintro l a w (⟨rfl, h⟩ | ⟨rfl, m', _, h⟩)
      · exact .inl ⟨rfl, h⟩
      · exact .inr ⟨rfl, m', h⟩
    · rintro l a w (⟨rfl, h⟩ | ⟨rfl, m', h⟩)
      · exact ⟨0, .inl ⟨rfl, rfl, h⟩⟩
      · exact ⟨m' + 1, .inr ⟨m', rfl, rfl, h⟩⟩
theorem u_ptr {T : TypeId} {p : Addr} (h : P.underlying T = some (.pointer (P.pointee T))) (w : World) : (binOp .eql T (.pointer (some p)) (.pointer none)).run P w = .ok (.bool false) w := by
  rw [run_eql_pointer_nil w T (some p) h]; rfl
theorem g_ptr {T : TypeId} {x : Operand} {p : Addr} (w : World) : (eqGuard .eql T x (.const (.pointer none)) (.pointer (some p)) (.pointer none)).run P w = .ok () w := by
  simp [eqGuard, go_sem]
theorem ret_of {fn : Func} {R : Ending → World → Prop} {t : Nat} (hres : fn.results = #[.tmp t]) (hM : Frm a n M) (hl : lk M t = some v) (hR : R (.returned v) w) : bodyPost P fn R .ret a w :=
  bodyPost_ret (results_tmp hres _ _ _) hM.2.1 (by rw [show a.tmps.getD t undef = v from hM.ev hl]; exact hR)
theorem s_putrow {T : TypeId} {x y : Operand} {g : Nat} {t : TypeId} {cs C : Array Value} (hM : Frm a n M) (hg : o.guard = none) (hd : o.dst = none) (ho : o.op = .store T x y) (hx : opv M x = some (.pointer (some ⟨g, 0, none⟩))) (hy : opv M y = some (.agg C))
    (hb : Blk w g t cs) (hz : (P.info? T).map (·.size) = some C.size) (hs : cs.size = C.size) (h1 : ∀ u ∈ C.toList, u.oneCell' = true)
    (h : ∀ w', Blk w' g t C → w.grownBy w' (some g) → wpSeg P ops Q K rest a w') : wpSeg P ops Q K (o :: rest) a w := by
  unfold wpSeg
  rw [if_pos (by simp [Region.wanted, hg])]
  refine .inl (wp_store_row T x y ho g (hM.evo hx) t cs (.agg C) (hM.evo hy) hb hz hs h1 fun w' q1 q2 => ?_)
  rw [hd]
  exact h w' q1 q2
theorem ev_alloc {T : TypeId} {Z : Array Value} (ho : o.op = .alloc T) (hz : ∀ w, (Instr.alloc T true (.tuple #[])).run P w = .ok (.pointer (some ⟨w.heap.size, 0, none⟩)) (w.alloc (.cells Z T))) :
    (execOp a.eval o).run P w = .ok (.value ((fun g => Value.pointer (some ⟨g, 0, none⟩)) w.heap.size)) (w.alloc (.cells Z T)) := by
  simp only [execOp, ho]
  simp [Sem.run_bind, hz]
/-- A region that draws, with calls, from a world that lies above an elder one: what the elder one has is read all the time. -/
theorem h_open_at {W0 W : World} {id : Nat} {l : List Oper} {B : Code} (N : Nat) (hN : l.length = N) (hm : P.follows .mixedOrders = true) (h0 : Below W0.heap.size W0 W)
    (h : ∀ (K : Act → World → Prop) (w1 : World), Below W.heap.size W w1 → Below W0.heap.size W0 w1 → (∀ a' w', B.wp P Q a' w' → K a' w') → wpAnyH P .any l.toArray (OnlyN K) (Below W0.heap.size W0) N (Array.replicate N false) a w1) : ((Code.region id l.toArray true).seq B).wp P Q a W := by
  subst hN
  refine wp_seq (wp_mono (Q := OnlyN fun a w => B.wp P Q a w) (wp_region_held (S := Below W0.heap.size W0) hm ?_) ?_)
  · simpa using h _ W.drew (Below.refl _ W).drew h0.drew (fun _ _ h => h)
  · rintro e a' w' ⟨rfl, h⟩
    exact h
theorem h_open_end {W : World} {id : Nat} {l : List Oper} (N : Nat) (hN : l.length = N) (hm : P.follows .mixedOrders = true)
    (h : ∀ (K : Act → World → Prop) (w1 : World), Below W.heap.size W w1 → (∀ a' w', Q .normal a' w' → K a' w') → wpAnyH P .any l.toArray (OnlyN K) (Below w1.heap.size w1) N (Array.replicate N false) a w1) : (Code.region id l.toArray true).wp P Q a W := by
  subst hN
  refine wp_mono (Q := OnlyN fun a w => Q .normal a w) (wp_region_held (S := Below W.drew.heap.size W.drew) hm ?_) ?_
  · simpa using h _ W.drew (Below.refl _ W).drew (fun _ _ h => h)
  · rintro e a' w' ⟨rfl, h⟩
    exact h
theorem q_open_end {W : World} {id : Nat} {l : List Oper} (hm : P.follows .mixedOrders = true) (hB : Region.lexB .any l.toArray = true)
    (h : ∀ K : Act → Prop, (∀ a', (∀ w', Below W.heap.size W w' → Q .normal a' w') → K a') → wpQuiet P l.toArray (fun w' => ∃ n : Wd W, w' = n.w) K l a) : (Code.region id l.toArray true).wp P Q a W :=
  wp_region_wd hm hB (h _ fun a' hh => wd_end fun w' hw => hh w' hw)
end
end Go.Proofs.Ytflamhndmggiaaa
/-
  More words for walks over frames known by facts: slices and records built of any operands, constant bytes. Over any program.
-/
namespace Go.Proofs.Ytflamhndmggiaaa
open Go.RowKit

def bsv (M : List (Nat × Value)) : List (Nat × Operand) → Option (List (Nat × Value))
  | [] => some []
  | p :: r => match opv M p.2, bsv M r with
    | some v, some vs => some ((p.1, v) :: vs)
    | _, _ => none
section
variable {P : Program} {a : Act} {n : Nat} {M : List (Nat × Value)} {ops : Array Oper} {o : Oper} {w w' : World} {v : Value} {Q : Exit → Act → World → Prop} {K : Act → World → Prop} {rest : List Oper}
theorem Frm.bsv (hM : Frm a n M) : ∀ {xs : List (Nat × Operand)} {vs : List (Nat × Value)}, bsv M xs = some vs → xs.map (fun p => (p.1, a.eval p.2)) = vs
  | [], vs, hl => by simpa [Proofs.Ytflamhndmggiaaa.bsv] using hl
  | p :: r, vs, hl => by
    unfold Proofs.Ytflamhndmggiaaa.bsv at hl
    split at hl
    · rename_i v us h1 h2
      injection hl with hl
      subst hl
      simp [hM.evo h1, Frm.bsv hM h2]
    · cases hl
theorem ev_bsg {t e : TypeId} {k : Nat} {xs : List (Nat × Operand)} {vs : List (Nat × Value)} {C : Array Value} (hM : Frm a n M) (ho : o.op = .buildSlice t k xs.toArray) (hx : bsv M xs = some vs) (hr : ∀ w, (Instr.buildSlice t k vs.toArray).run P w = .ok (.slice (some ⟨w.heap.size, 0, none⟩) k k) (w.alloc (.cells C e))) :
    (execOp a.eval o).run P w = .ok (.value ((fun g => Value.slice (some ⟨g, 0, none⟩) k k) w.heap.size)) (w.alloc (.cells C e)) := by
  have e2 : xs.toArray.map (fun (i, x) => (i, a.eval x)) = vs.toArray := by rw [← hM.bsv hx]; simp
  simp only [execOp, ho, e2]
  simp [Sem.run_bind, hr]
theorem ev_buildg {t : TypeId} {xs : List (Nat × Operand)} {vs : List (Nat × Value)} (ho : o.op = .build t xs.toArray) (hx : bsv M xs = some vs) (hr : ∀ w, (Instr.build t vs.toArray).run P w = .ok v w) : Ev P M o w v := fun a n hM => by
  have e2 : xs.toArray.map (fun (i, x) => (i, a.eval x)) = vs.toArray := by rw [← hM.bsv hx]; simp
  simp only [execOp, ho, e2]
  simp [Sem.run_bind, hr]
theorem Sl.marked (w : World) (t : TypeId) (C : Array Value) (fr : Nat × Nat) : Sl (w.alloc (.cells C t fr)) 1 (some ⟨w.heap.size, 0, none⟩) C.size C.toList := by
  refine ⟨by simp, fun _ => ⟨w.heap.size, 0, rfl, by simp, fun j v hv => ?_⟩⟩
  have h := heap_alloc_new w (.cells C t fr)
  rw [Nat.zero_add]
  refine (cell_of_row _ w.heap.size j _ _ _ h).trans ?_
  simpa using hv
/-- Constant bytes: a row and its mark. -/
theorem s_cbytes {o2 : Oper} {d1 d2 k : Nat} {t e : TypeId} {xs : List (Nat × Operand)} {vs : List (Nat × Value)} {C : Array Value} (hM : Frm a n M) (hg1 : o.guard = none) (hd1 : o.dst = some d1) (hn1 : Nat.blt d1 n = true) (ho : o.op = .buildSlice t k xs.toArray) (hx : bsv M xs = some vs)
    (hr : ∀ w, (Instr.buildSlice t k vs.toArray).run P w = .ok (.slice (some ⟨w.heap.size, 0, none⟩) k k) (w.alloc (.cells C e))) (hg2 : o2.guard = none) (hd2 : o2.dst = some d2) (hn2 : Nat.blt d2 n = true) (ho2 : o2.op = .convert t t (.tmp d1)) (ht : P.underlying t = some (.slice e)) (he : P.underlying e = some (.int .u8)) (hk : C.size = k)
    (h : ∀ g a' w', Frm a' n ((d2, .slice (some ⟨g, 0, none⟩) k k) :: (d1, .slice (some ⟨g, 0, none⟩) k k) :: M) → Sl w' 1 (some ⟨g, 0, none⟩) k C.toList → Below w.heap.size w w' → w.heap.size ≤ g → wpSeg P ops Q K rest a' w') : wpSeg P ops Q K (o :: o2 :: rest) a w := by
  unfold wpSeg
  rw [if_pos (by simp [Region.wanted, hg1])]
  refine .inl ?_
  unfold Oper.wp
  rw [ev_bsg hM ho hx hr, Oper.upon_value, hd1]
  have hM2 := hM.put (Nat.le_of_ble_eq_true hn1) (.slice (some ⟨w.heap.size, 0, none⟩) k k)
  unfold wpSeg
  rw [if_pos (by simp [Region.wanted, hg2])]
  refine .inl ?_
  unfold Oper.wp
  have hr2 : (execOp (a.put (some d1) (.slice (some ⟨w.heap.size, 0, none⟩) k k)).eval o2).run P (w.alloc (.cells C e)) = .ok (.value (.slice (some ⟨w.heap.size, 0, none⟩) k k)) (w.alloc (.cells C e (C.size, C.size + 1))) := by
    simp only [execOp, ho2, hM2.evo (x := .tmp d1) (v := .slice (some ⟨w.heap.size, 0, none⟩) k k) (by simp [opv, lk])]
    simp [Sem.run_bind, Lib.run_convert_bytes_const w t e C k k ht he]
  rw [hr2, Oper.upon_value, hd2]
  have hs := Sl.marked w e C (C.size, C.size + 1)
  rw [hk] at hs ⊢
  exact h _ _ _ (hM2.put (Nat.le_of_ble_eq_true hn2) _) hs (below_alloc_ w _) (Nat.le_refl _)
/-- A block whose ways out come together. -/
def joinQ (J : Act → World → Prop) (Q : Exit → Act → World → Prop) : Exit → Act → World → Prop
  | .normal, a, w => J a w
  | e, a, w => Q e a w
theorem wp_join {c : Code} (J : Act → World → Prop) (h1 : c.wp P (joinQ J Q) a w) (h2 : ∀ a w, J a w → Q .normal a w) : c.wp P Q a w :=
  wp_mono h1 fun e a' w' h => by
    cases e with
    | normal => exact h2 _ _ h
    | _ => exact h
theorem jq_n {J : Act → World → Prop} (h : J a w) : joinQ J Q .normal a w := h
theorem jq_r {J : Act → World → Prop} (h : Q .ret a w) : joinQ J Q .ret a w := h
end
end Go.Proofs.Ytflamhndmggiaaa
/-
  Regions that draw their order and store last: what only reads is taken first, for the last operation waits for all. Over any program.
-/
namespace Go.Proofs.Ytflamhndmggiaaa
open Go.RowKit

section
variable {P : Program} {ops : Array Oper} {Q : Exit → Act → World → Prop} {S : World → Prop}
def wpAnyZ (P : Program) (ops : Array Oper) (Q : Exit → Act → World → Prop) (S : World → Prop) (z : Nat) : Nat → Array Bool → Act → World → Prop
  | 0, listed, a, w => Region.ready .any ops listed = [] ∧ Q .normal a w
  | fuel + 1, listed, a, w => (Region.ready .any ops listed = [] → Q .normal a w) ∧
    ∀ i ∈ Region.ready .any ops listed, wpOp P ops Q i (fun a' w' => (i = z ∨ S w') ∧ wpAnyZ P ops Q S z fuel (listed.setIfInBounds i true) a' w') a w
theorem wpAny_of_z {z : Nat} : ∀ (fuel : Nat) (listed : Array Bool) (a : Act) (w : World), wpAnyZ P ops Q S z fuel listed a w → wpAny P .any ops Q fuel listed a w
  | 0, _, _, _, h => h
  | fuel + 1, _, _, _, h => ⟨h.1, fun i hi => wpOp_mono (fun a' w' h' => wpAny_of_z fuel _ a' w' h'.2) (h.2 i hi)⟩
def Closed (ops : Array Oper) (listed : Array Bool) : Prop := ∀ (j : Nat) (o : Oper), ops[j]? = some o → listed.getD j false = true → ∀ e ∈ o.after, Region.binds .any e = true → listed.getD e.on false = true
def closedB (ops : Array Oper) (listed : Array Bool) : Bool := (List.range ops.size).all fun j => !listed.getD j false || ((ops[j]?).map (·.after.all fun e => !Region.binds .any e || listed.getD e.on false)).getD true
theorem closed_of {listed : Array Bool} (h : closedB ops listed = true) : Closed ops listed := by
  intro j o ho hl e he hb
  have hj : j < ops.size := (Array.getElem?_eq_some_iff.1 ho).1
  have h1 := List.all_eq_true.1 h j (List.mem_range.2 hj)
  rw [hl, ho] at h1
  simp only [Bool.not_true, Bool.false_or, Option.map_some, Option.getD_some] at h1
  have h2 := Array.all_eq_true_iff_forall_mem.1 h1 e he
  rw [hb] at h2
  simpa using h2
theorem closed_step {listed : Array Bool} {j : Nat} (h : Closed ops listed) (hj : j ∈ Region.ready .any ops listed) : Closed ops (listed.setIfInBounds j true) := by
  intro k o ho hl e he hb
  by_cases hkj : j = k
  · subst hkj
    obtain ⟨_, o', ho', hall⟩ := mem_ready.1 hj
    rw [ho] at ho'
    injection ho' with ho'
    subst ho'
    exact getD_set_true (hall e he hb)
  · rw [getD_set_ne false hkj] at hl
    exact getD_set_true (h k o ho hl e he hb)
def anc (ops : Array Oper) : Nat → Nat → Nat → Bool
  | 0, j, i => j == i
  | n + 1, j, i => j == i || ((ops[j]?).map (·.after.any fun e => Region.binds .any e && anc ops n e.on i)).getD false
theorem closed_anc {listed : Array Bool} (h : Closed ops listed) : ∀ (n j i : Nat), listed.getD j false = true → anc ops n j i = true → listed.getD i false = true
  | 0, j, i, hl, ha => by
    have : j = i := by simpa [anc] using ha
    subst this; exact hl
  | n + 1, j, i, hl, ha => by
    unfold anc at ha
    rcases Bool.or_eq_true_iff.1 ha with ha | ha
    · have : j = i := by simpa using ha
      subst this; exact hl
    · cases ho : ops[j]? with
      | none => rw [ho] at ha; simp at ha
      | some o =>
        rw [ho] at ha
        simp only [Option.map_some, Option.getD_some] at ha
        obtain ⟨e, he, hb⟩ := Array.any_eq_true'.1 ha
        rw [Bool.and_eq_true] at hb
        exact closed_anc h n e.on i (h j o ho hl e he hb.1) hb.2
theorem ready_anc {listed : Array Bool} (h : Closed ops listed) {n z i : Nat} (hz : z ∈ Region.ready .any ops listed) (hne : i ≠ z) (ha : anc ops n z i = true) : listed.getD i false = true := by
  cases n with
  | zero => exact absurd (by simpa [anc] using ha : z = i).symm hne
  | succ n =>
    unfold anc at ha
    rcases Bool.or_eq_true_iff.1 ha with ha | ha
    · exact absurd (by simpa using ha : z = i).symm hne
    · obtain ⟨_, o, ho, hall⟩ := mem_ready.1 hz
      rw [ho] at ha
      simp only [Option.map_some, Option.getD_some] at ha
      obtain ⟨e, he, hb⟩ := Array.any_eq_true'.1 ha
      rw [Bool.and_eq_true] at hb
      exact closed_anc h n e.on i (hall e he hb.1) hb.2
theorem wpAnyZ_first {i z n : Nat} {oi : Oper} {v : Value} (hiz : i ≠ z) (hza : anc ops n z i = true) (hi : ops[i]? = some oi) (hsel : ∀ (j : Nat) (o : Oper) cs b, ops[j]? = some o → o.op ≠ .select cs b)
    (hQ : ∀ c a w, Q (.panic c) (a.put oi.dst v) w → Q (.panic c) a w) :
    ∀ (fuel : Nat) (listed : Array Bool) (a : Act) (w : World), Closed ops listed →
      (∀ j oj, ops[j]? = some oj → j ≠ i → listed.getD j true = false → (∀ e ∈ oj.after, Region.binds .any e = true → e.on ≠ i) → oi.apart ops oj = true) →
      i ∈ Region.ready .any ops listed → YieldsIf P ops S oi v a → S w →
      wpAnyZ P ops Q S z fuel (listed.setIfInBounds i true) (a.put oi.dst v) w → wpAnyZ P ops Q S z (fuel + 1) listed a w := by
  intro fuel
  induction fuel with
  | zero =>
    intro listed a w _ _ hr hy hS H
    refine ⟨fun h => (by rw [h] at hr; cases hr), fun j hj => ?_⟩
    by_cases hji : j = i
    · subst hji; exact hy.wpOp hi hS ⟨.inr hS, H⟩
    · have := ready_mono hj hji
      rw [H.1] at this
      cases this
  | succ fuel ih =>
    intro listed a w hcl hfree hr hy hS H
    refine ⟨fun h => (by rw [h] at hr; cases hr), fun j hj => ?_⟩
    by_cases hji : j = i
    · subst hji; exact hy.wpOp hi hS ⟨.inr hS, H⟩
    · have hun : ∀ b, listed.getD i false = true → listed.getD i true = b → b = true := fun b h0 h1 => by
        rcases Nat.lt_or_ge i listed.size with h' | h'
        · simp [h'] at h0 h1; rw [← h1, h0]
        · simp [Array.getElem?_eq_none h'] at h0
      have hjz : j ≠ z := fun e => by
        subst e
        have h0 := ready_anc hcl hj hiz hza
        exact absurd (hun false h0 (mem_ready.1 hr).1) (by decide)
      have h1 := H.2 j (ready_mono hj hji)
      obtain ⟨hjun, oj, hoj, hall⟩ := mem_ready.1 hj
      have hnot : ∀ e ∈ oj.after, Region.binds .any e = true → e.on ≠ i := fun e he hb heq => by
        have h1 := hall e he hb
        rw [heq] at h1
        exact absurd (hun false h1 (mem_ready.1 hr).1) (by decide)
      have h2 := wpOp_putIf hoj (hfree j oj hoj hji hjun hnot) (fun cs b => hsel i oi cs b hi) (fun cs b => hsel j oj cs b hoj) hQ hy h1
      have hfree' : ∀ k ok, ops[k]? = some ok → k ≠ i → (listed.setIfInBounds j true).getD k true = false →
          (∀ e ∈ ok.after, Region.binds .any e = true → e.on ≠ i) → oi.apart ops ok = true := fun k ok hk hki hun hno => by
        refine hfree k ok hk hki ?_ hno
        by_cases hjk : j = k
        · subst hjk; exact hjun
        · rw [getD_set_ne true hjk] at hun; exact hun
      refine wpOp_mono (fun a' w' h3 => ?_) h2
      have hS' := h3.2.1.resolve_left hjz
      refine ⟨.inr hS', ih (listed.setIfInBounds j true) a' w' (closed_step hcl hj) hfree' (ready_mono hr (Ne.symm hji)) h3.1 hS' ?_⟩
      rw [Array.setIfInBounds_comm _ _ hji]
      exact h3.2.2
end
section
variable {P : Program} {a : Act} {n : Nat} {M M' : List (Nat × Value)} {ops : Array Oper} {o : Oper} {w w' W : World} {v : Value} {Q : Exit → Act → World → Prop} {K : Act → World → Prop} {S : World → Prop} {fuel z : Nat} {listed : Array Bool}
theorem z_open {id : Nat} {l : List Oper} {B : Code} (N z : Nat) (hN : l.length = N) (hm : P.follows .mixedOrders = true) (S : World → Prop)
    (h : ∀ (K : Act → World → Prop) (w1 : World), Below W.heap.size W w1 → (∀ a' w', B.wp P Q a' w' → K a' w') → wpAnyZ P l.toArray (OnlyN K) S z N (Array.replicate N false) a w1) : ((Code.region id l.toArray true).seq B).wp P Q a W := by
  subst hN
  refine wp_seq (wp_mono (Q := OnlyN fun a w => B.wp P Q a w) (wp_region_any hm (wpAny_of_z (S := S) (z := z) _ _ _ _ ?_)) ?_)
  · simpa using h _ W.drew (Below.refl _ W).drew (fun _ _ h => h)
  · rintro e a' w' ⟨rfl, h⟩
    exact h
theorem z_open_end {id : Nat} {l : List Oper} (N z : Nat) (hN : l.length = N) (hm : P.follows .mixedOrders = true) (S : World → Prop)
    (h : ∀ (K : Act → World → Prop) (w1 : World), Below W.heap.size W w1 → (∀ a' w', Q .normal a' w' → K a' w') → wpAnyZ P l.toArray (OnlyN K) S z N (Array.replicate N false) a w1) : (Code.region id l.toArray true).wp P Q a W := by
  subst hN
  refine wp_mono (Q := OnlyN fun a w => Q .normal a w) (wp_region_any hm (wpAny_of_z (S := S) (z := z) _ _ _ _ ?_)) ?_
  · simpa using h _ W.drew (Below.refl _ W).drew (fun _ _ h => h)
  · rintro e a' w' ⟨rfl, h⟩
    exact h
theorem z_take {oi : Oper} (i : Nat) (hi : ops[i]? = some oi) (hiz : Nat.beq i z = false) (ha : anc ops 24 z i = true) (hcl : closedB ops listed = true) (hs : Region.noSelect ops = true) (hf : Region.free .any ops listed i = true) (hr : (Region.ready .any ops listed).contains i = true)
    (hy : YieldsIf P ops S oi v a) (hS : S w) (h : wpAnyZ P ops (OnlyN K) S z fuel (listed.setIfInBounds i true) (a.put oi.dst v) w) : wpAnyZ P ops (OnlyN K) S z (fuel + 1) listed a w :=
  wpAnyZ_first (by intro e; subst e; simp at hiz) ha hi (Region.noSelect_spec hs) (by rintro c a w ⟨h, _⟩; cases h) fuel listed a w (closed_of hcl) (Region.free_spec hi hf) (by simpa using hr) hy hS h
theorem z_val {d : Nat} (i : Nat) (hi : ops[i]? = some o) (hiz : Nat.beq i z = false) (ha : anc ops 24 z i = true) (hcl : closedB ops listed = true) (hs : Region.noSelect ops = true) (hf : Region.free .any ops listed i = true) (hr : (Region.ready .any ops listed).contains i = true) (hM : Frm a n M) (hw : Want ops M o) (hd : o.dst = some d) (hn : Nat.blt d n = true)
    (hS : S w) (hy : ∀ w', S w' → Ev P M o w' v) (h : ∀ a', Frm a' n ((d, v) :: M) → wpAnyZ P ops (OnlyN K) S z fuel (listed.setIfInBounds i true) a' w) : wpAnyZ P ops (OnlyN K) S z (fuel + 1) listed a w := by
  refine z_take i hi hiz ha hcl hs hf hr (.inl ⟨hw.is hM, fun w' h' => hy w' h' _ _ hM⟩) hS ?_
  rw [hd]; exact h _ (hM.put (Nat.le_of_ble_eq_true hn) v)
theorem z_skip {d j dj : Nat} {b c : Bool} (i : Nat) (hi : ops[i]? = some o) (hiz : Nat.beq i z = false) (ha : anc ops 24 z i = true) (hcl : closedB ops listed = true) (hs : Region.noSelect ops = true) (hf : Region.free .any ops listed i = true) (hr : (Region.ready .any ops listed).contains i = true) (hM : Frm a n M) (hg : o.guard = some (j, b)) (hj : (ops[j]?).bind (·.dst) = some dj) (hl : lk M dj = some (.bool c)) (hc : c = !b)
    (hd : o.dst = some d) (hn : Nat.blt d n = true) (hS : S w) (h : ∀ a', Frm a' n ((d, undef) :: M) → wpAnyZ P ops (OnlyN K) S z fuel (listed.setIfInBounds i true) a' w) : wpAnyZ P ops (OnlyN K) S z (fuel + 1) listed a w := by
  refine z_take (v := undef) i hi hiz ha hcl hs hf hr (.inr ⟨by subst hc; simp [Region.wanted, hg, hM.yield hj hl], rfl⟩) hS ?_
  rw [hd]; exact h _ (hM.put (Nat.le_of_ble_eq_true hn) undef)
theorem z_skipu {d j dj : Nat} {b : Bool} (i : Nat) (hi : ops[i]? = some o) (hiz : Nat.beq i z = false) (ha : anc ops 24 z i = true) (hcl : closedB ops listed = true) (hs : Region.noSelect ops = true) (hf : Region.free .any ops listed i = true) (hr : (Region.ready .any ops listed).contains i = true) (hM : Frm a n M) (hg : o.guard = some (j, b)) (hj : (ops[j]?).bind (·.dst) = some dj) (hl : lk M dj = some undef)
    (hd : o.dst = some d) (hn : Nat.blt d n = true) (hS : S w) (h : ∀ a', Frm a' n ((d, undef) :: M) → wpAnyZ P ops (OnlyN K) S z fuel (listed.setIfInBounds i true) a' w) : wpAnyZ P ops (OnlyN K) S z (fuel + 1) listed a w := by
  refine z_take (v := undef) i hi hiz ha hcl hs hf hr (.inr ⟨by simp [Region.wanted, hg, hM.yieldu hj hl], rfl⟩) hS ?_
  rw [hd]; exact h _ (hM.put (Nat.le_of_ble_eq_true hn) undef)
theorem z_only (i : Nat) (hrs : Region.ready .any ops listed = [i]) (h : wpOp P ops (OnlyN K) i (fun a' w' => (i = z ∨ S w') ∧ wpAnyZ P ops (OnlyN K) S z fuel (listed.setIfInBounds i true) a' w') a w) : wpAnyZ P ops (OnlyN K) S z (fuel + 1) listed a w :=
  ⟨fun h0 => absurd (hrs ▸ h0) (by simp), fun j hj => by
    rw [hrs] at hj
    obtain rfl : j = i := by simpa using hj
    exact h⟩
theorem z_alloc {d : Nat} {C : Array Value} {e : TypeId} {V : Nat → Value} (i : Nat) (hi : ops[i]? = some o) (hrs : Region.ready .any ops listed = [i]) (hM : Frm a n M) (hw : Want ops M o) (hd : o.dst = some d) (hn : Nat.blt d n = true) (hr : (execOp a.eval o).run P w = .ok (.value (V w.heap.size)) (w.alloc (.cells C e)))
    (h : ∀ g a' w', Frm a' n ((d, V g) :: M) → Blk w' g e C → Below w.heap.size w w' → w.heap.size ≤ g → S w' ∧ wpAnyZ P ops (OnlyN K) S z fuel (listed.setIfInBounds i true) a' w') : wpAnyZ P ops (OnlyN K) S z (fuel + 1) listed a w := by
  refine z_only i hrs ?_
  unfold wpOp
  rw [hi]
  show (if Region.wanted o (yielded ops a.tmps) then _ else _)
  rw [if_pos (hw.is hM)]
  refine .inl ?_
  unfold Oper.wp
  rw [hr, Oper.upon_value, hd]
  obtain ⟨h1, h2⟩ := h _ _ _ (hM.put (Nat.le_of_ble_eq_true hn) _) (Blk.new w e C) (below_alloc_ w _) (Nat.le_refl _)
  exact ⟨.inr h1, h2⟩
theorem z_append {d : Nat} {s x : Operand} {t : TypeId} (q : Nat) (hq : ops[q]? = some o) (hrs : Region.ready .any ops listed = [q]) (hM : Frm a n M) (hw : Want ops M o) (hd : o.dst = some d) (hn : Nat.blt d n = true) (ho : o.op = .call { callee := .builtin .append, args := #[s, x], argTypes := #[t, t] })
    (base : Nat) (e : TypeId) (i : TypeInfo) (zz : Value) (size bytes : Nat) (ht : P.underlying t = some (.slice e)) (hi : P.info? e = some i) (hz : i.zero = some zz) (hsize : i.size = size) (hby : i.bytes = bytes) (hzs : zz.cells.size = size) (hsz : 0 < size)
    (m : Nat) (xs : List Value) (hs : opv M s = some v) (hown : w.ownsRow base e size v m xs) (ad : Addr) (k c : Nat) (news : List Value) (hx : opv M x = some (.slice (some ad) k c)) (hl : news.length = k * size)
    (hnews : ∀ j u, news[j]? = some u → w.cell? (ad.add j) = some u) (h1 : ∀ u ∈ news, u.oneCell' = true) (h63 : m + k ≤ maxLen) (hbytes : (m + k) * bytes ≤ 140737488355328) (hbase : base ≤ w.heap.size)
    (h : ∀ v' a' w', Frm a' n ((d, v') :: M) → w'.ownsRow base e size v' (m + k) (xs ++ news) → w.grownBy w' v.ownBlock → (v'.ownBlock = v.ownBlock ∨ v'.ownBlock = some w.heap.size) → S w' ∧ wpAnyZ P ops (OnlyN K) S z fuel (listed.setIfInBounds q true) a' w') : wpAnyZ P ops (OnlyN K) S z (fuel + 1) listed a w := by
  obtain ⟨v', w', hr, h2, h3, _, h5⟩ := run_append_own_at (P := P) w base t o.type e i zz size bytes ht hi hz hsize hby hzs hsz v m xs hown ad k c news hl hnews h1 h63 hbytes hbase
  have hrun : (execOp a.eval o).run P w = .ok (.value v') w' := by
    unfold execOp
    simp only [ho, resolve, invoke, builtin, Sem.run_bind, Sem.run_pure, Result.andThen_ok, List.map_toArray, List.map_cons, List.map_nil, hM.evo hs, hM.evo hx, hr]
  refine z_only q hrs ?_
  unfold wpOp
  rw [hq]
  show (if Region.wanted o (yielded ops a.tmps) then _ else _)
  rw [if_pos (hw.is hM)]
  refine .inl ?_
  unfold Oper.wp
  rw [hrun, Oper.upon_value, hd]
  obtain ⟨k1, k2⟩ := h _ _ _ (hM.put (Nat.le_of_ble_eq_true hn) _) h2 h3 h5
  exact ⟨.inr k1, k2⟩
/-- The last one: one cell of a block written. -/
theorem z_put {T : TypeId} {x y : Operand} {g k : Nat} {t : TypeId} {cs : Array Value} (hz : ops[z]? = some o) (hrs : Region.ready .any ops listed = [z]) (hM : Frm a n M) (hg : o.guard = none) (hd : o.dst = none) (ho : o.op = .store T x y) (hx : opv M x = some (.pointer (some ⟨g, k, none⟩))) (hy : opv M y = some v)
    (hb : Blk w g t cs) (hk : k < cs.size) (hst : ∀ w, (w.cell? ⟨g, k, none⟩).isSome = true → w.frozen? ⟨g, k, none⟩ = false → (Instr.storeAt T (.pointer (some ⟨g, k, none⟩)) v).run P w = .ok () (w.setCell ⟨g, k, none⟩ v)) (hnil : Region.ready .any ops (listed.setIfInBounds z true) = [])
    (h : ∀ w', Blk w' g t (cs.setIfInBounds k v) → w.grownBy w' (some g) → K a w') : wpAnyZ P ops (OnlyN K) S z (fuel + 1) listed a w := by
  refine z_only z hrs ?_
  have hr : (execOp a.eval o).run P w = .ok .skip (w.setCell ⟨g, k, none⟩ v) := by
    simp only [execOp, ho, hM.evo hx, hM.evo hy]
    simp [Sem.run_bind, hst w (by rw [hb.cell]; simp [hk]) (hb.frozen k)]
  unfold wpOp
  rw [hz]
  show (if Region.wanted o (yielded ops a.tmps) then _ else _)
  rw [if_pos (by simp [Region.wanted, hg])]
  refine .inl ?_
  unfold Oper.wp
  rw [hr, Oper.upon_skip, hd]
  refine ⟨.inl rfl, ?_⟩
  have hk := h _ (hb.set_ k v) (grown_set_ w g k v)
  cases fuel with
  | zero => exact ⟨hnil, rfl, hk⟩
  | succ f => exact ⟨fun _ => ⟨rfl, hk⟩, by rw [hnil]; simp⟩
end
end Go.Proofs.Ytflamhndmggiaaa
