/-
  Texts joined: words and contracts that later texts use; lemmas alone, no conditions of a statement.
-/
import Derived.Test.YtflamhndmggiaaaGr00
import Derived.Laws.Rows
import Derived.Laws.CopyRow
import Derived.Deep.LoopGhost
import Derived.Deep.MidRow
set_option linter.unusedVariables false
set_option linter.unusedSimpArgs false
/-
  A region walked over a frame that is known by facts alone: 'Frm a n M': n slots, of which those that M names hold what M says. A region may be cut into segments. Over any program.
-/
namespace Go.Proofs.Ytflamhndmggiaaa
open Go.RowKit

/-- The first entry of a slot. -/
def lk : List (Nat × Value) → Nat → Option Value
  | [], _ => none
  | (k, v) :: r, t => bif Nat.beq k t then some v else lk r t
theorem lk_mem {M : List (Nat × Value)} {t : Nat} {v : Value} (h : lk M t = some v) : (t, v) ∈ M := by
  induction M with
  | nil => cases h
  | cons p r ih =>
    obtain ⟨k, u⟩ := p
    unfold lk at h
    cases hk : Nat.beq k t with
    | true =>
      rw [hk] at h
      have : k = t := Nat.eq_of_beq_eq_true hk
      subst this
      simp at h
      subst h
      simp
    | false => rw [hk] at h; exact List.mem_cons_of_mem _ (ih h)

def Frm (a : Act) (n : Nat) (M : List (Nat × Value)) : Prop := a.tmps.size = n ∧ a.defers = [] ∧ ∀ t v, lk M t = some v → a.tmps[t]? = some v

section
variable {P : Program} {a : Act} {n : Nat} {M M' : List (Nat × Value)} {ops : Array Oper}
theorem Frm.start {cs : Array Value} (hn : cs.size = n) (h : ∀ p ∈ M, cs[p.1]? = some p.2) : Frm ⟨cs, []⟩ n M := ⟨hn, rfl, fun _ _ hl => h _ (lk_mem hl)⟩
theorem Frm.weak (h : Frm a n M) (hs : ∀ p ∈ M', lk M p.1 = some p.2) : Frm a n M' := ⟨h.1, h.2.1, fun t v hl => h.2.2 t v (hs _ (lk_mem hl))⟩
theorem Frm.at_ (h : Frm a n M) {t : Nat} {v : Value} (hl : lk M t = some v) : a.tmps[t]? = some v := h.2.2 t v hl
theorem Frm.ev (h : Frm a n M) {t : Nat} {v : Value} (hl : lk M t = some v) : a.eval (.tmp t) = v := by
  have := h.at_ hl
  simp [Act.eval, Array.getD_eq_getD_getElem?, this]
theorem Frm.put (h : Frm a n M) {d : Nat} (hd : d < n) (v : Value) : Frm (a.put (some d) v) n ((d, v) :: M) := by
  refine ⟨by simp [Act.put, h.1], h.2.1, fun t u hl => ?_⟩
  unfold lk at hl
  show (a.tmps.setIfInBounds d v)[t]? = some u
  rw [Array.getElem?_setIfInBounds]
  cases hk : Nat.beq d t with
  | true =>
    rw [hk] at hl
    have : d = t := Nat.eq_of_beq_eq_true hk
    subst this
    simp at hl
    subst hl
    rw [if_pos rfl, h.1, if_pos hd]
  | false =>
    rw [hk] at hl
    have : d ≠ t := fun e => by subst e; simp at hk
    rw [if_neg this]
    exact h.2.2 t u hl
theorem Frm.yield (h : Frm a n M) {j d : Nat} {b : Bool} (hj : (ops[j]?).bind (·.dst) = some d) (hl : lk M d = some (.bool b)) : yielded ops a.tmps j = some b := by
  unfold yielded
  rw [hj]
  simp [h.at_ hl]
end

/-- A segment of a region, K behind it. -/
def wpSeg (P : Program) (ops : Array Oper) (Q : Exit → Act → World → Prop) (K : Act → World → Prop) : List Oper → Act → World → Prop
  | [], a, w => K a w
  | o :: rest, a, w =>
    if Region.wanted o (yielded ops a.tmps) then o.wp P a w (wpSeg P ops Q K rest) Q ∨ (o.asks P a w ∧ LetsOut Q) else wpSeg P ops Q K rest (a.put o.dst undef) w

section
variable {P : Program} {ops : Array Oper} {Q : Exit → Act → World → Prop} {K : Act → World → Prop} {a : Act} {w w' : World} {rest : List Oper} {o : Oper} {n : Nat} {M : List (Nat × Value)}
theorem wpSeg_eq (l1 l2 : List Oper) : wpList P ops Q (l1 ++ l2) = wpSeg P ops Q (wpList P ops Q l2) l1 := by
  induction l1 with
  | nil => rfl
  | cons o l ih =>
    funext a w
    simp only [List.cons_append, wpList, wpSeg, ih]
/-- A region's first k operations, walked with what is behind them unseen. -/
theorem seg_cut (k : Nat) {l : List Oper} (S : Act → World → Prop)
    (h1 : ∀ K : Act → World → Prop, (∀ a' w', S a' w' → K a' w') → wpSeg P ops Q K (l.take k) a w) (h2 : ∀ a' w', S a' w' → wpList P ops Q (l.drop k) a' w') : wpList P ops Q l a w := by
  have e : l = l.take k ++ l.drop k := (List.take_append_drop k l).symm
  rw [e, wpSeg_eq]
  exact h1 _ h2
theorem seg_nil (h : K a w) : wpSeg P ops Q K [] a w := h
theorem seg_val {d : Nat} {v : Value} (hM : Frm a n M) (hd : o.dst = some d) (hn : d < n) (hg : o.guard = none) (hr : (execOp a.eval o).run P w = .ok (.value v) w')
    (h : ∀ a', Frm a' n ((d, v) :: M) → wpSeg P ops Q K rest a' w') : wpSeg P ops Q K (o :: rest) a w := by
  unfold wpSeg
  rw [if_pos (by simp [Region.wanted, hg])]
  refine .inl ?_
  unfold Oper.wp
  rw [hr, Oper.upon_value, hd]
  exact h _ (hM.put hn v)
theorem seg_valg {d j dj : Nat} {b : Bool} {v : Value} (hM : Frm a n M) (hd : o.dst = some d) (hn : d < n) (hg : o.guard = some (j, b)) (hj : (ops[j]?).bind (·.dst) = some dj) (hl : lk M dj = some (.bool b)) (hr : (execOp a.eval o).run P w = .ok (.value v) w')
    (h : ∀ a', Frm a' n ((d, v) :: M) → wpSeg P ops Q K rest a' w') : wpSeg P ops Q K (o :: rest) a w := by
  unfold wpSeg
  rw [if_pos (by simp [Region.wanted, hg, hM.yield hj hl])]
  refine .inl ?_
  unfold Oper.wp
  rw [hr, Oper.upon_value, hd]
  exact h _ (hM.put hn v)
theorem seg_same {d j dj : Nat} {b : Bool} {v : Value} (hM : Frm a n M) (hd : o.dst = some d) (hn : d < n) (hg : o.guard = some (j, b)) (hj : (ops[j]?).bind (·.dst) = some dj) (hl : lk M dj = some (.bool b)) (hr : (execOp a.eval o).run P w = .ok (.value v) w)
    (h : ∀ a', Frm a' n ((d, v) :: M) → wpSeg P ops Q K rest a' w) : wpSeg P ops Q K (o :: rest) a w := seg_valg hM hd hn hg hj hl hr h
theorem seg_skip {d j dj : Nat} {b c : Bool} (hM : Frm a n M) (hd : o.dst = some d) (hn : d < n) (hg : o.guard = some (j, b)) (hj : (ops[j]?).bind (·.dst) = some dj) (hl : lk M dj = some (.bool c)) (hc : c = !b)
    (h : ∀ a', Frm a' n ((d, undef) :: M) → wpSeg P ops Q K rest a' w) : wpSeg P ops Q K (o :: rest) a w := by
  unfold wpSeg
  rw [if_neg (by subst hc; simp [Region.wanted, hg, hM.yield hj hl])]
  rw [hd]
  exact h _ (hM.put hn undef)
theorem seg_callg {d j dj : Nat} {b : Bool} {f : FuncId} {args : Array Value} {v : Value} {R : World → Prop} (hM : Frm a n M) (hd : o.dst = some d) (hn : d < n) (hg : o.guard = some (j, b)) (hj : (ops[j]?).bind (·.dst) = some dj) (hl : lk M dj = some (.bool b))
    (hr : (execOp a.eval o).run P w = .ok (.enter f args) w) (hc : Calls P f args w fun e w' => e = .returned v ∧ R w')
    (h : ∀ a' w', Frm a' n ((d, v) :: M) → R w' → wpSeg P ops Q K rest a' w') : wpSeg P ops Q K (o :: rest) a w := by
  unfold wpSeg
  rw [if_pos (by simp [Region.wanted, hg, hM.yield hj hl])]
  refine .inl ?_
  unfold Oper.wp
  rw [hr, Oper.upon_enter]
  refine hc.mono ?_
  rintro e w' ⟨rfl, hR⟩
  simp only [hd]
  exact h _ _ (hM.put hn v) hR
theorem frame_off {l : List Oper} (n : Nat) (M : List (Nat × Value)) (h0 : Frm a n M) (h : ∀ a, Frm a n M → wpList P ops Q l a w) : wpList P ops Q l a w := h a h0
theorem seg_move {d s : Nat} {v : Value} (hM : Frm a n M) (hd : o.dst = some d) (hn : d < n) (hg : o.guard = none) (ho : o.op = .move (.tmp s) ∨ o.op = .assign (.tmp s)) (hs : lk M s = some v)
    (h : ∀ a', Frm a' n ((d, v) :: M) → wpSeg P ops Q K rest a' w) : wpSeg P ops Q K (o :: rest) a w :=
  seg_val hM hd hn hg (by rcases ho with ho | ho <;> simp [execOp, ho, hM.ev hs]) h
theorem seg_pick {d s1 s2 : Nat} {c : Bool} {v y : Value} (hM : Frm a n M) (hd : o.dst = some d) (hn : d < n) (hg : o.guard = none) (ho : o.op = .pick (.tmp s1) (.tmp s2) (.const y)) (hs : lk M s1 = some (.bool c)) (hs2 : lk M s2 = some v)
    (h : ∀ a', Frm a' n ((d, if c then v else y) :: M) → wpSeg P ops Q K rest a' w) : wpSeg P ops Q K (o :: rest) a w :=
  seg_val hM hd hn hg (by
    have e : a.eval (.const y) = y := rfl
    cases c <;> simp [execOp, ho, hM.ev hs, hM.ev hs2, e, asBool]) h
theorem seg_cut2 {o1 o2 : Oper} (S : Act → World → Prop)
    (h1 : ∀ K : Act → World → Prop, (∀ a' w', S a' w' → K a' w') → wpSeg P ops Q K [o1, o2] a w) (h2 : ∀ a' w', S a' w' → wpList P ops Q rest a' w') : wpList P ops Q (o1 :: o2 :: rest) a w := seg_cut 2 S h1 h2
theorem seg_cut3 {o1 o2 o3 : Oper} (S : Act → World → Prop)
    (h1 : ∀ K : Act → World → Prop, (∀ a' w', S a' w' → K a' w') → wpSeg P ops Q K [o1, o2, o3] a w) (h2 : ∀ a' w', S a' w' → wpList P ops Q rest a' w') : wpList P ops Q (o1 :: o2 :: o3 :: rest) a w := seg_cut 3 S h1 h2
theorem seg_cut4 {o1 o2 o3 o4 : Oper} (S : Act → World → Prop)
    (h1 : ∀ K : Act → World → Prop, (∀ a' w', S a' w' → K a' w') → wpSeg P ops Q K [o1, o2, o3, o4] a w) (h2 : ∀ a' w', S a' w' → wpList P ops Q rest a' w') : wpList P ops Q (o1 :: o2 :: o3 :: o4 :: rest) a w := seg_cut 4 S h1 h2
theorem seg_cut5 {o1 o2 o3 o4 o5 : Oper} (S : Act → World → Prop)
    (h1 : ∀ K : Act → World → Prop, (∀ a' w', S a' w' → K a' w') → wpSeg P ops Q K [o1, o2, o3, o4, o5] a w) (h2 : ∀ a' w', S a' w' → wpList P ops Q rest a' w') : wpList P ops Q (o1 :: o2 :: o3 :: o4 :: o5 :: rest) a w := seg_cut 5 S h1 h2
theorem seg_cut6 {o1 o2 o3 o4 o5 o6 : Oper} (S : Act → World → Prop)
    (h1 : ∀ K : Act → World → Prop, (∀ a' w', S a' w' → K a' w') → wpSeg P ops Q K [o1, o2, o3, o4, o5, o6] a w) (h2 : ∀ a' w', S a' w' → wpList P ops Q rest a' w') : wpList P ops Q (o1 :: o2 :: o3 :: o4 :: o5 :: o6 :: rest) a w := seg_cut 6 S h1 h2
theorem seg_cut7 {o1 o2 o3 o4 o5 o6 o7 : Oper} (S : Act → World → Prop)
    (h1 : ∀ K : Act → World → Prop, (∀ a' w', S a' w' → K a' w') → wpSeg P ops Q K [o1, o2, o3, o4, o5, o6, o7] a w) (h2 : ∀ a' w', S a' w' → wpList P ops Q rest a' w') : wpList P ops Q (o1 :: o2 :: o3 :: o4 :: o5 :: o6 :: o7 :: rest) a w := seg_cut 7 S h1 h2
theorem seg_cut8 {o1 o2 o3 o4 o5 o6 o7 o8 : Oper} (S : Act → World → Prop)
    (h1 : ∀ K : Act → World → Prop, (∀ a' w', S a' w' → K a' w') → wpSeg P ops Q K [o1, o2, o3, o4, o5, o6, o7, o8] a w) (h2 : ∀ a' w', S a' w' → wpList P ops Q rest a' w') : wpList P ops Q (o1 :: o2 :: o3 :: o4 :: o5 :: o6 :: o7 :: o8 :: rest) a w := seg_cut 8 S h1 h2
theorem seg_cut9 {o1 o2 o3 o4 o5 o6 o7 o8 o9 : Oper} (S : Act → World → Prop)
    (h1 : ∀ K : Act → World → Prop, (∀ a' w', S a' w' → K a' w') → wpSeg P ops Q K [o1, o2, o3, o4, o5, o6, o7, o8, o9] a w) (h2 : ∀ a' w', S a' w' → wpList P ops Q rest a' w') : wpList P ops Q (o1 :: o2 :: o3 :: o4 :: o5 :: o6 :: o7 :: o8 :: o9 :: rest) a w := seg_cut 9 S h1 h2
theorem seg_cut10 {o1 o2 o3 o4 o5 o6 o7 o8 o9 o10 : Oper} (S : Act → World → Prop)
    (h1 : ∀ K : Act → World → Prop, (∀ a' w', S a' w' → K a' w') → wpSeg P ops Q K [o1, o2, o3, o4, o5, o6, o7, o8, o9, o10] a w) (h2 : ∀ a' w', S a' w' → wpList P ops Q rest a' w') : wpList P ops Q (o1 :: o2 :: o3 :: o4 :: o5 :: o6 :: o7 :: o8 :: o9 :: o10 :: rest) a w := seg_cut 10 S h1 h2
theorem seg_cut11 {o1 o2 o3 o4 o5 o6 o7 o8 o9 o10 o11 : Oper} (S : Act → World → Prop)
    (h1 : ∀ K : Act → World → Prop, (∀ a' w', S a' w' → K a' w') → wpSeg P ops Q K [o1, o2, o3, o4, o5, o6, o7, o8, o9, o10, o11] a w) (h2 : ∀ a' w', S a' w' → wpList P ops Q rest a' w') : wpList P ops Q (o1 :: o2 :: o3 :: o4 :: o5 :: o6 :: o7 :: o8 :: o9 :: o10 :: o11 :: rest) a w := seg_cut 11 S h1 h2
theorem seg_cut12 {o1 o2 o3 o4 o5 o6 o7 o8 o9 o10 o11 o12 : Oper} (S : Act → World → Prop)
    (h1 : ∀ K : Act → World → Prop, (∀ a' w', S a' w' → K a' w') → wpSeg P ops Q K [o1, o2, o3, o4, o5, o6, o7, o8, o9, o10, o11, o12] a w) (h2 : ∀ a' w', S a' w' → wpList P ops Q rest a' w') : wpList P ops Q (o1 :: o2 :: o3 :: o4 :: o5 :: o6 :: o7 :: o8 :: o9 :: o10 :: o11 :: o12 :: rest) a w := seg_cut 12 S h1 h2
theorem seg_cut13 {o1 o2 o3 o4 o5 o6 o7 o8 o9 o10 o11 o12 o13 : Oper} (S : Act → World → Prop)
    (h1 : ∀ K : Act → World → Prop, (∀ a' w', S a' w' → K a' w') → wpSeg P ops Q K [o1, o2, o3, o4, o5, o6, o7, o8, o9, o10, o11, o12, o13] a w) (h2 : ∀ a' w', S a' w' → wpList P ops Q rest a' w') : wpList P ops Q (o1 :: o2 :: o3 :: o4 :: o5 :: o6 :: o7 :: o8 :: o9 :: o10 :: o11 :: o12 :: o13 :: rest) a w := seg_cut 13 S h1 h2
end
end Go.Proofs.Ytflamhndmggiaaa
/-
  A whole record stored into a block of its own, and loaded: no cell by cell. Over any program.
-/
namespace Go.Proofs.Ytflamhndmggiaaa
open Go.RowKit

section
variable {P : Program}
theorem grown_setRow (w : World) (g : Nat) (cs : Array Value) : w.grownBy (w.setRow g cs) (some g) :=
  ⟨rfl, rfl, rfl, by simp, fun k _ hk => setRow_other w g k cs (by intro e; exact hk (by rw [e]))⟩
theorem run_storeVar_row (w : World) (g : Nat) (t ty : TypeId) (cs : Array Value) (v : Value) (hg : Blk w g t cs) (hz : (P.info? ty).map (·.size) = some v.cells.size) (hs : cs.size = v.cells.size) (h1 : ∀ u ∈ v.cells.toList, u.oneCell' = true) :
    (storeVar ty ⟨g, 0, none⟩ v).run P w = .ok () (w.setRow g v.cells) := by
  have hst := run_storeCells_at P g 0 t v.cells.toList 0 cs w hg (by simp; omega) h1
  have e : (cs.toList.take (0 + 0) ++ v.cells.toList ++ cs.toList.drop (0 + 0 + v.cells.toList.length)).toArray = v.cells := by
    rw [List.drop_eq_nil_of_le (by simp; omega)]; simp
  rw [e] at hst
  cases hq : P.info? ty with
  | none => simp [hq] at hz
  | some i =>
    have hi : i.size = v.cells.size := by simpa [hq] using hz
    simp [storeVar, Sem.run_bind, sizeOf, typeInfo, hq, hi, hst]
theorem wp_store_row {o : Oper} {a : Act} {w : World} {K : Act → World → Prop} {Q : Exit → Act → World → Prop} (ty : TypeId) (x y : Operand) (ho : o.op = .store ty x y)
    (g : Nat) (hx : a.eval x = .pointer (some ⟨g, 0, none⟩)) (t : TypeId) (cs : Array Value) (v : Value) (hy : a.eval y = v) (hg : Blk w g t cs) (hz : (P.info? ty).map (·.size) = some v.cells.size) (hs : cs.size = v.cells.size) (h1 : ∀ u ∈ v.cells.toList, u.oneCell' = true)
    (h : ∀ w', Blk w' g t v.cells → w.grownBy w' (some g) → K (a.put o.dst (.tuple #[])) w') : o.wp P a w K Q := by
  have hr := run_storeVar_row w g t ty cs v hg hz hs h1
  have hk : Blk (w.setRow g v.cells) g t v.cells := setRow_heap w g cs v.cells t (0, 0) hg
  unfold Oper.wp execOp
  simp only [ho, hx, hy, Instr.storeAt, Instr.sureAddr, Sem.run_bind, Sem.run_pure, Result.andThen_ok, hr]
  exact h _ hk (grown_setRow w g _)
theorem wpList_store_row {ops : Array Oper} {rest : List Oper} {o : Oper} {a : Act} {w : World} {Q : Exit → Act → World → Prop} (hgd : o.guard = none) (ty : TypeId) (x y : Operand) (ho : o.op = .store ty x y)
    (g : Nat) (hx : a.eval x = .pointer (some ⟨g, 0, none⟩)) (t : TypeId) (cs : Array Value) (v : Value) (hy : a.eval y = v) (hg : Blk w g t cs) (hz : (P.info? ty).map (·.size) = some v.cells.size) (hs : cs.size = v.cells.size) (h1 : ∀ u ∈ v.cells.toList, u.oneCell' = true)
    (h : ∀ w', Blk w' g t v.cells → w.grownBy w' (some g) → wpList P ops Q rest (a.put o.dst (.tuple #[])) w') : wpList P ops Q (o :: rest) a w :=
  wpList_plain hgd fun _ hK => wp_store_row ty x y ho g hx t cs v hy hg hz hs h1 fun w' h2 h3 => hK _ _ (h w' h2 h3)
theorem wpList_load_blk {ops : Array Oper} {rest : List Oper} {o : Oper} {a : Act} {w : World} {Q : Exit → Act → World → Prop} (hgd : o.guard = none) (ty : TypeId) (x : Operand) (ho : o.op = .load ty x)
    (g : Nat) (hx : a.eval x = .pointer (some ⟨g, 0, none⟩)) (t : TypeId) (cs : Array Value) (d : TypeDesc) (hg : Blk w g t cs)
    (hu : P.underlying ty = some d) (hd : (match d with | .struct _ | .array _ _ => true | _ => false) = true) (hi : (P.info? ty).map (·.size) = some cs.size)
    (h : wpList P ops Q rest (a.put o.dst (.agg cs)) w) : wpList P ops Q (o :: rest) a w :=
  wpList_load_row hgd ty x ho g hx t cs (0, 0) d hg hu hd hi h
end
end Go.Proofs.Ytflamhndmggiaaa
/-
  Regions over opaque frames: a value stored into a part of a block.
-/
namespace Go.Proofs.Ytflamhndmggiaaa
open Go.RowKit

/-- A row with a part put in. -/
def putAt (cs : Array Value) (k : Nat) (vs : List Value) : Array Value := (cs.toList.take k ++ vs ++ cs.toList.drop (k + vs.length)).toArray
section
variable {P : Program}
theorem run_storeVar_part (w : World) (g k : Nat) (t ty : TypeId) (cs : Array Value) (v : Value) (hg : Blk w g t cs) (hz : (P.info? ty).map (·.size) = some v.cells.size) (hs : k + v.cells.size ≤ cs.size) (h1 : ∀ u ∈ v.cells.toList, u.oneCell' = true) :
    (storeVar ty ⟨g, k, none⟩ v).run P w = .ok () (w.setRow g (putAt cs k v.cells.toList)) := by
  have hst := run_storeCells_at P g k t v.cells.toList 0 cs w hg (by simp; omega) h1
  simp only [Nat.add_zero] at hst
  unfold putAt
  cases hq : P.info? ty with
  | none => simp [hq] at hz
  | some i =>
    have hi : i.size = v.cells.size := by simpa [hq] using hz
    simp [storeVar, Sem.run_bind, sizeOf, typeInfo, hq, hi, hst]
theorem seg_store_part {ops : Array Oper} {Q : Exit → Act → World → Prop} {K : Act → World → Prop} {a : Act} {w : World} {rest : List Oper} {o : Oper} {n : Nat} {M : List (Nat × Value)} {ty : TypeId} {x y : Nat} (hM : Frm a n M) (hd : o.dst = none) (hgd : o.guard = none)
    (ho : o.op = .store ty (.tmp x) (.tmp y)) (g k : Nat) (hx : lk M x = some (.pointer (some ⟨g, k, none⟩))) (t : TypeId) (cs : Array Value) (v : Value) (hy : lk M y = some v) (hg : Blk w g t cs) (hz : (P.info? ty).map (·.size) = some v.cells.size) (hs : k + v.cells.size ≤ cs.size) (h1 : ∀ u ∈ v.cells.toList, u.oneCell' = true)
    (h : ∀ w', Blk w' g t (putAt cs k v.cells.toList) → w.grownBy w' (some g) → wpSeg P ops Q K rest a w') : wpSeg P ops Q K (o :: rest) a w := by
  have hr := run_storeVar_part w g k t ty cs v hg hz hs h1
  have hk : Blk (w.setRow g (putAt cs k v.cells.toList)) g t (putAt cs k v.cells.toList) := setRow_heap w g cs _ t (0, 0) hg
  unfold wpSeg
  rw [if_pos (by simp [Region.wanted, hgd])]
  refine .inl ?_
  unfold Oper.wp execOp
  simp only [ho, hM.ev hx, hM.ev hy, Instr.storeAt, Instr.sureAddr, Sem.run_bind, Sem.run_pure, Result.andThen_ok, hr]
  show wpSeg P ops Q K rest (a.put o.dst (.tuple #[])) _
  rw [hd]
  exact h _ hk (grown_setRow w g _)
end
end Go.Proofs.Ytflamhndmggiaaa
/-
  The shape that the laws over a list have (a counted loop over its first records, then a last call), walked once for all, over frames known by facts. Over any program.
-/
namespace Go.Proofs.Ytflamhndmggiaaa
open Go.RowKit

section
variable {P : Program}
theorem seg_cut1 {ops : Array Oper} {Q : Exit → Act → World → Prop} {a : Act} {w : World} {rest : List Oper} {o1 : Oper} (S : Act → World → Prop)
    (h1 : ∀ K : Act → World → Prop, (∀ a' w', S a' w' → K a' w') → wpSeg P ops Q K [o1] a w) (h2 : ∀ a' w', S a' w' → wpList P ops Q rest a' w') : wpList P ops Q (o1 :: rest) a w := seg_cut 1 S h1 h2
theorem law_shape {NS t si sr n : Nat} {M0 : List (Nat × Value)} {R0 R1 R2 R3 R4 B : Code} {a : Act} {w : World} {Q : Exit → Act → World → Prop} (hM : Frm a NS M0)
    (h0 : ∀ a w Q, Frm a NS M0 → (∀ a', Frm a' NS M0 → Q .normal a' w) → R0.wp P Q a w)
    (h1 : ∀ a w Q, Frm a NS M0 → (∀ a', Frm a' NS ((si, .int .i64 0) :: M0) → Q .normal a' w) → R1.wp P Q a w)
    (h2 : ∀ (k : Nat) a w Q, Frm a NS ((si, .int .i64 k) :: M0) → (∀ a', Frm a' NS ((si, .int .i64 k) :: M0) → a'.eval (.tmp t) = .bool (decide (k < n) && decide (k < 8)) → Q .normal a' w) → R2.wp P Q a w)
    (h3 : ∀ (k : Nat) a w Q, k < 8 → Frm a NS ((si, .int .i64 k) :: M0) → (∀ a', Frm a' NS ((si, .int .i64 ((k + 1 : Nat) : Int)) :: M0) → Q .normal a' w) → R3.wp P Q a w)
    (hb : ∀ (k : Nat) a w' Q, k < n → k < 8 → Frm a NS ((si, .int .i64 k) :: M0) → Hid (Below w.heap.size w w') → (∀ a' w'', Frm a' NS ((si, .int .i64 k) :: M0) → Hid (Below w.heap.size w w'') → Q .normal a' w'') →
      (∀ a' w'', Frm a' NS ((si, .int .i64 k) :: M0) → Hid (Below w.heap.size w w'') → Q (.exit 1) a' w'') → (∀ a' w'', Frm a' NS [(sr, .bool true)] → Hid (Below w.heap.size w w'') → Q .ret a' w'') → B.wp P Q a w')
    (h4 : ∀ a w' Q, Frm a NS M0 → Hid (Below w.heap.size w w') → (∀ a' w'', Frm a' NS [(sr, .bool true)] → Hid (Below w.heap.size w w'') → Q .normal a' w'') → R4.wp P Q a w')
    (hQ : ∀ a' w', Frm a' NS [(sr, .bool true)] → Hid (Below w.heap.size w w') → Q .ret a' w') (hsi : lk M0 si = none) :
    (Code.seq R0 (Code.seq (Code.seq R1 (Code.block 0 (Code.loop (Code.seq (Code.seq R2 (Code.cond (.tmp t) .skip (.exit 0))) (Code.seq (Code.block 1 B) R3))))) (Code.seq R4 Code.ret))).wp P Q a w := by
  have hdrop : ∀ {a : Act} {v : Value}, Frm a NS ((si, v) :: M0) → Frm a NS M0 := by
    intro a v h
    refine ⟨h.1, h.2.1, fun t u hl => h.2.2 t u ?_⟩
    unfold lk
    cases hk : Nat.beq si t with
    | true =>
      have : si = t := Nat.eq_of_beq_eq_true hk
      subst this
      rw [hsi] at hl; cases hl
    | false => exact hl
  refine wp_seq (h0 _ _ _ hM fun a0 hM => ?_)
  show (Code.seq _ _).wp P Q a0 w
  refine wp_seq ?_
  refine wp_seq (h1 _ _ _ hM fun a1 hM => ?_)
  show (Code.block 0 _).wp P _ a1 w
  refine wp_block ?_
  refine wp_loop_ghost (fun m a w' => ∃ k : Nat, k ≤ n ∧ m = n - k ∧ Frm a NS ((si, .int .i64 k) :: M0) ∧ Hid (Below w.heap.size w w')) n ⟨0, by omega, by omega, hM, Below.refl _ _⟩ ?_
  rintro m a2 w2 ⟨k, hk, rfl, hM, HB⟩
  refine wp_seq ?_
  refine wp_seq (h2 k _ _ _ hM fun a3 hM ht => ?_)
  show (Code.cond _ _ _).wp P _ a3 w2
  refine wp_cond ht ?_
  by_cases hlt : k < n
  · by_cases hm : k < 8
    · rw [decide_eq_true hlt, decide_eq_true hm]
      refine wp_skip ?_
      show (Code.seq _ _).wp P _ a3 w2
      refine wp_seq ?_
      refine wp_block ?_
      have key : ∀ a' w'', Frm a' NS ((si, .int .i64 k) :: M0) → Hid (Below w.heap.size w w'') → R3.wp P (Exit.then (fun a' w' => ∃ n', n' < n - k ∧ ∃ k : Nat, k ≤ n ∧ n' = n - k ∧ Frm a' NS ((si, .int .i64 k) :: M0) ∧ Hid (Below w.heap.size w w')) (Exit.inBlock 0 (Exit.then (fun a w => (Code.seq R4 Code.ret).wp P Q a w) Q))) a' w'' := by
        intro a' w'' hM' HB'
        exact h3 k _ _ _ hm hM' fun a'' hM'' => ⟨n - (k + 1), by omega, k + 1, by omega, rfl, hM'', HB'⟩
      exact hb k _ _ _ hlt hm hM HB (fun a' w'' hM' HB' => key a' w'' hM' HB') (fun a' w'' hM' HB' => by simp only [Exit.inBlock, if_true]; exact key a' w'' hM' HB') (fun a' w'' hM' HB' => hQ a' w'' hM' HB')
    · rw [decide_eq_false hm, Bool.and_false]
      refine wp_exit ?_
      show (Code.seq R4 Code.ret).wp P Q a3 w2
      refine wp_seq (h4 _ _ _ (hdrop hM) HB fun a4 w4 hM4 HB4 => ?_)
      exact wp_ret (hQ _ _ hM4 HB4)
  · rw [decide_eq_false hlt, Bool.false_and]
    refine wp_exit ?_
    show (Code.seq R4 Code.ret).wp P Q a3 w2
    refine wp_seq (h4 _ _ _ (hdrop hM) HB fun a4 w4 hM4 HB4 => ?_)
    exact wp_ret (hQ _ _ hM4 HB4)
end
end Go.Proofs.Ytflamhndmggiaaa
/-
  A region that draws its order, whose operations only read and whose calls make memory at most ('Below'): one walk, in the order of the text. Over any program.
-/
namespace Go.Proofs.Ytflamhndmggiaaa
open Go.RowKit

/-- The worlds that have what W has. -/
def Wd (W : World) : Type := { w' : World // Below W.heap.size W w' }
def Wd.w {W : World} (n : Wd W) : World := n.1
theorem Wd.below {W : World} (n : Wd W) : Below W.heap.size W n.w := n.2
theorem Wd.is {W w' : World} (h : Below W.heap.size W w') : ∃ m : Wd W, w' = m.w := ⟨⟨w', h⟩, rfl⟩
instance (W : World) : Nonempty (Wd W) := ⟨⟨W, Below.refl _ _⟩⟩
instance (W : World) : Inhabited (Wd W) := ⟨⟨W, Below.refl _ _⟩⟩
theorem Wd.cell {W : World} {p : Addr} {v : Value} (h : W.cell? p = some v) (n : Wd W) : n.w.cell? p = some v := (n.below.cell (lt_of_cell h)).trans h
theorem Wd.sl {W : World} {size k : Nat} {A : Option Addr} {cs : List Value} (h : Sl W size A k cs) (n : Wd W) : Sl n.w size A k cs := h.below n.below
theorem wd_call {P : Program} {f : FuncId} {args : Array Value} {W : World} {n : Wd W} {v : Value} (h : Calls P f args n.w fun e w' => e = .returned v ∧ Below n.w.heap.size n.w w') :
    Calls P f args n.w fun e w'' => e = .returned v ∧ ∃ m : Wd W, w'' = m.w :=
  h.mono fun _ _ ⟨he, hb⟩ => ⟨he, Wd.is (n.below.trans (hb.mono n.below.size))⟩
theorem wd_same {P : Program} {f : FuncId} {args : Array Value} {W : World} {n : Wd W} {v : Value} (h : Calls P f args n.w fun e w' => e = .returned v ∧ n.w = w') :
    Calls P f args n.w fun e w'' => e = .returned v ∧ ∃ m : Wd W, w'' = m.w :=
  h.mono fun _ _ ⟨he, hb⟩ => ⟨he, n, hb.symm⟩
theorem wd_drawn {P : Program} {f : FuncId} {args : Array Value} {W : World} {n : Wd W} {v : Value} (h : Calls P f args n.w fun e w' => e = .returned v ∧ ∃ q, w' = n.w.drewN q) :
    Calls P f args n.w fun e w'' => e = .returned v ∧ ∃ m : Wd W, w'' = m.w :=
  h.mono fun _ _ ⟨he, q, hb⟩ => ⟨he, by subst hb; exact Wd.is (below_drewN n.below q)⟩
theorem wp_region_wd {P : Program} {id : Nat} {Q : Exit → Act → World → Prop} {a : Act} {W : World} {l : List Oper} (hm : P.follows .mixedOrders = true) (hB : Region.lexB .any l.toArray = true)
    (h : wpQuiet P l.toArray (fun w' => ∃ n : Wd W, w' = n.w) (fun a' => ∀ w', (∃ n : Wd W, w' = n.w) → Q .normal a' w') l a) : (Code.region id l.toArray true).wp P Q a W :=
  wp_region_quiet (C := fun w' => ∃ n : Wd W, w' = n.w) hm hB (Wd.is (Below.refl _ _).drew) (by simpa using h)
/-- Behind the region. -/
theorem wd_end {Q : Exit → Act → World → Prop} {a : Act} {W : World} (h : ∀ wq, Below W.heap.size W wq → Q .normal a wq) : ∀ w', (∃ n : Wd W, w' = n.w) → Q .normal a w' := by
  rintro w' ⟨n, rfl⟩
  exact h _ n.below
theorem yielded_undef : Go.yielded.match_1 (fun _ => Option Bool) (some undef) (fun b => some b) (fun _ => none) = none := rfl
attribute [go_sem] yielded_undef
end Go.Proofs.Ytflamhndmggiaaa
