/-
  Regions over frames known by facts: what an operation yields ('Ev'), told once for plain regions ('s_..') and for regions that draw their order ('q_..'). Over any program.
-/
import Derived.Test.YtflamhndmggiaaaGr08
import Derived.Deep.MidRow
import Derived.Maps.AppendAt
set_option linter.unusedVariables false
set_option linter.unusedSimpArgs false
namespace Go.Proofs.Ytflamhndmggiaaa
open Go.RowKit

/-- What an operand holds. -/
def opv (M : List (Nat × Value)) : Operand → Option Value
  | .tmp t => lk M t
  | .const v => some v
  | _ => none
def opvs (M : List (Nat × Value)) : List Operand → Option (List Value)
  | [] => some []
  | x :: r => match opv M x, opvs M r with
    | some v, some vs => some (v :: vs)
    | _, _ => none
def Want (ops : Array Oper) (M : List (Nat × Value)) (o : Oper) : Prop :=
  o.guard = none ∨ ∃ j b dj, o.guard = some (j, b) ∧ (ops[j]?).bind (·.dst) = some dj ∧ lk M dj = some (.bool b)
/-- The operation yields v, in the world that it gets. -/
def Ev (P : Program) (M : List (Nat × Value)) (o : Oper) (w : World) (v : Value) : Prop := ∀ (a : Act) (n : Nat), Frm a n M → (execOp a.eval o).run P w = .ok (.value v) w
/-- A row of cells in a block. -/
def Rng (w : World) (b o : Nat) (C : Array Value) : Prop := b < w.heap.size ∧ ∀ j v, C[j]? = some v → w.cell? ⟨b, o + j, none⟩ = some v
section
variable {P : Program} {a : Act} {n : Nat} {M M' : List (Nat × Value)} {ops : Array Oper} {o : Oper} {w w' : World} {v : Value}
theorem Rng.below {b k : Nat} {C : Array Value} (h : Rng w b k C) (hb : Below w.heap.size w w') : Rng w' b k C := ⟨Nat.lt_of_lt_of_le h.1 hb.size, fun j v hj => (hb.cell h.1).trans (h.2 j v hj)⟩
theorem Rng.sub {b k : Nat} {C D : Array Value} (h : Rng w b k C) (m : Nat) (hs : ∀ j v, D[j]? = some v → C[m + j]? = some v) : Rng w b (k + m) D := ⟨h.1, fun j v hj => by rw [Nat.add_assoc]; exact h.2 _ _ (hs j v hj)⟩
theorem Rng.at_ {b k m : Nat} {C : Array Value} (h : Rng w b k C) (hm : C[m]? = some v) : w.cell? ⟨b, k + m, none⟩ = some v := h.2 _ _ hm
theorem Blk.rng {g : Nat} {t : TypeId} {C : Array Value} (h : Blk w g t C) : Rng w g 0 C := ⟨h.lt, fun j v hj => by rw [Nat.zero_add]; exact h.at_ hj⟩
theorem below_alloc_ (w : World) (o : Obj) : Below w.heap.size w (w.alloc o) := (Below.refl _ _).alloc (Nat.le_refl _) o
theorem grown_set_ (w : World) (g i : Nat) (u : Value) : w.grownBy (w.setCell ⟨g, i, none⟩ u) (some g) :=
  ⟨rfl, rfl, rfl, by simp [World.setCell], fun k _ hk => Below.heap_setCell w ⟨g, i, none⟩ u k (by intro e; exact hk (by rw [e]))⟩
theorem Blk.on {g : Nat} {t : TypeId} {C : Array Value} (h : Blk w g t C) (hb : Below w.heap.size w w') : Blk w' g t C := h.later hb
theorem Frm.evo (h : Frm a n M) {x : Operand} (hl : opv M x = some v) : a.eval x = v := by
  cases x with
  | tmp t => exact h.ev hl
  | const u => injection hl
  | global _ => cases hl
  | func _ => cases hl
theorem Want.is (hw : Want ops M o) (h : Frm a n M) : Region.wanted o (yielded ops a.tmps) = true := by
  rcases hw with hw | ⟨j, b, dj, hg, hj, hl⟩
  · simp [Region.wanted, hw]
  · simp [Region.wanted, hg, h.yield hj hl]
theorem Frm.evs (h : Frm a n M) : ∀ {xs : List Operand} {vs : List Value}, opvs M xs = some vs → xs.map a.eval = vs
  | [], vs, hl => by simpa [opvs] using hl
  | x :: r, vs, hl => by
    unfold opvs at hl
    split at hl
    · rename_i v us h1 h2
      injection hl with hl
      subst hl
      simp [h.evo h1, h.evs h2]
    · cases hl
theorem ev_call {f : FuncId} {xs : List Operand} {ts : Array TypeId} {vs : List Value} {args : Array Value} (h : Frm a n M) (ho : o.op = .call { callee := .value (.func f), args := xs.toArray, argTypes := ts }) (ha : opvs M xs = some vs) (hv : vs.toArray = args)
    (hf : ∀ w, (callFunc f args).run P w = .ok (.enter f args) w) (w : World) : (execOp a.eval o).run P w = .ok (.enter f args) w := by
  have e : xs.toArray.map a.eval = args := by rw [← hv, ← h.evs ha]; simp
  have ef : a.eval (.func f) = .func (.func f) #[] #[] := rfl
  simp only [execOp, ho, resolve, e, ef]
  have := hf w
  simp [Deferred.ofValue, invoke, Sem.run_bind, this]
theorem ev_move {x : Operand} (ho : o.op = .move x ∨ o.op = .assign x) (hx : opv M x = some v) : Ev P M o w v := fun a n h => by
  rcases ho with ho | ho <;> simp [execOp, ho, h.evo hx]
theorem ev_pick {c x y : Operand} {b : Bool} (ho : o.op = .pick c x y) (hc : opv M c = some (.bool b)) (hx : (bif b then opv M x else opv M y) = some v) : Ev P M o w v := fun a n h => by
  cases b with
  | true => simp [execOp, ho, h.evo hc, h.evo (show opv M x = some v from hx), asBool]
  | false => simp [execOp, ho, h.evo hc, h.evo (show opv M y = some v from hx), asBool]
theorem ev_ext {x : Operand} {k : Nat} {vs : Array Value} (ho : o.op = .extract x k) (hx : opv M x = some (.tuple vs)) (hv : vs[k]? = some v) : Ev P M o w v := fun a n h => by
  simp [execOp, ho, h.evo hx, Instr.extract, hv]
theorem ev_len {x : Operand} {t : TypeId} {A : Option Addr} {m c : Nat} (ho : o.op = .call { callee := .builtin .len, args := #[x], argTypes := #[t] }) (hx : opv M x = some (.slice A m c)) (hu : P.underlying t = some (.slice (P.elem t))) : Ev P M o w (.int .i64 m) := fun a n h => by
  have e : (#[x] : Array Operand).map a.eval = #[.slice A m c] := by simp [h.evo hx]
  simp only [execOp, ho, resolve, e]
  simp [go_sem, run_len_slice _ _ _ _ _ _ hu]
theorem ev_fld {s : TypeId} {x : Operand} {f b k off m : Nat} {fs : Array Field} (ho : o.op = .fieldAddr s x f) (hx : opv M x = some (.pointer (some ⟨b, off, none⟩))) (hu : P.underlying s = some (.struct fs))
    (hf : ∀ w, (Instr.fieldAt s (.pointer (some ⟨b, off, none⟩)) f).run P w = .ok (.pointer (some ⟨b, off + k, none⟩)) w) (hk : off + k = m) : Ev P M o w (.pointer (some ⟨b, m, none⟩)) := fun a n h => by
  subst hk
  simp [execOp, ho, h.evo hx, hf]
theorem ev_fldw {s : TypeId} {x : Operand} {f b off m : Nat} (ho : o.op = .fieldAddr s x f) (hx : opv M x = some (.pointer (some ⟨b, off, none⟩)))
    (hf : ∀ w, (Instr.fieldAt s (.pointer (some ⟨b, off, none⟩)) f).run P w = .ok (.pointer (some ⟨b, m, none⟩)) w) : Ev P M o w (.pointer (some ⟨b, m, none⟩)) := fun a n h => by
  simp [execOp, ho, h.evo hx, hf]
theorem ev_idx {t e : TypeId} {x i : Operand} {b off sz m c k p : Nat} (ho : o.op = .indexAddr t x i) (hx : opv M x = some (.slice (some ⟨b, off, none⟩) m c)) (hi : opv M i = some (.int .i64 (k : Int)))
    (hu : P.underlying t = some (.slice e)) (hz : (P.info? e).map (·.size) = some sz) (hk : k < m) (hp : off + k * sz = p) : Ev P M o w (.pointer (some ⟨b, p, none⟩)) := fun a n h => by
  subst hp
  obtain ⟨d, hd, rfl⟩ := Option.map_eq_some_iff.1 hz
  simp [execOp, ho, h.evo hx, h.evo hi, Instr.indexAt, Sem.run_bind, run_underlying hu, asIntOf, hk, sizeOf, typeInfo, hd, add_lit]
theorem ev_loadm {ty : TypeId} {x : Operand} {b k : Nat} {C : Array Value} {d : TypeDesc} (ho : o.op = .load ty x) (hx : opv M x = some (.pointer (some ⟨b, k, none⟩))) (hc : Rng w b k C)
    (hu : P.underlying ty = some d) (hd : d.isRow = true) (hi : (P.info? ty).map (·.size) = some C.size) : Ev P M o w (.agg C) := fun a n h => by
  have := run_loadAt_mid (P := P) w b k ty C.toList d (fun j v hj => hc.2 j v (by simpa using hj)) hu hd (by simpa using hi)
  simp [execOp, ho, h.evo hx, this]
theorem ev_load1 {ty : TypeId} {x : Operand} {b k : Nat} (ho : o.op = .load ty x) (hx : opv M x = some (.pointer (some ⟨b, k, none⟩))) (hc : w.cell? ⟨b, k, none⟩ = some v)
    (hu : ∀ w, (isAgg ty).run P w = .ok false w) : Ev P M o w v := fun a n h => by
  simp only [execOp, ho, h.evo hx]
  simp [Instr.loadAt, Instr.sureAddr, loadVar, Sem.run_bind, hu, go_sem, hc]
theorem ev_bin {op : BinOp} {ty tr : TypeId} {x y : Operand} {vx vy : Value} (ho : o.op = .binOp op ty x y tr) (hx : opv M x = some vx) (hy : opv M y = some vy)
    (hg : ∀ w, (eqGuard op ty x y vx vy).run P w = .ok () w) (hr : ∀ w, (binOp op ty vx vy).run P w = .ok v w) : Ev P M o w v := fun a n h => by
  simp only [execOp, ho, h.evo hx, h.evo hy]
  simp [Sem.run_bind, hg, hr]
theorem ev_not {x : Operand} {ty : TypeId} {b c : Bool} (ho : o.op = .unOp .not ty x) (hx : opv M x = some (.bool b)) (hc : (!b) = c) : Ev P M o w (.bool c) := fun a n h => by
  subst hc
  simp only [execOp, ho, h.evo hx]
  simp [go_sem]
theorem Frm.cut0  (h : Frm a n M) : Frm a n [] := h.weak (fun p hp => absurd hp (by simp))
theorem Frm.cut1 {t1 : Nat} {v1 : Value} (h : Frm a n M) (h1 : lk M t1 = some v1) : Frm a n [(t1, v1)] := h.weak (by
  intro p hp
  simp only [List.mem_cons, List.not_mem_nil, or_false] at hp
  subst hp; exact h1)
theorem Frm.cut2 {t1 : Nat} {v1 : Value} {t2 : Nat} {v2 : Value} (h : Frm a n M) (h1 : lk M t1 = some v1) (h2 : lk M t2 = some v2) : Frm a n [(t1, v1), (t2, v2)] := h.weak (by
  intro p hp
  simp only [List.mem_cons, List.not_mem_nil, or_false] at hp
  rcases hp with rfl | rfl
  · exact h1
  · exact h2)
theorem Frm.cut3 {t1 : Nat} {v1 : Value} {t2 : Nat} {v2 : Value} {t3 : Nat} {v3 : Value} (h : Frm a n M) (h1 : lk M t1 = some v1) (h2 : lk M t2 = some v2) (h3 : lk M t3 = some v3) : Frm a n [(t1, v1), (t2, v2), (t3, v3)] := h.weak (by
  intro p hp
  simp only [List.mem_cons, List.not_mem_nil, or_false] at hp
  rcases hp with rfl | rfl | rfl
  · exact h1
  · exact h2
  · exact h3)
theorem Frm.cut4 {t1 : Nat} {v1 : Value} {t2 : Nat} {v2 : Value} {t3 : Nat} {v3 : Value} {t4 : Nat} {v4 : Value} (h : Frm a n M) (h1 : lk M t1 = some v1) (h2 : lk M t2 = some v2) (h3 : lk M t3 = some v3) (h4 : lk M t4 = some v4) : Frm a n [(t1, v1), (t2, v2), (t3, v3), (t4, v4)] := h.weak (by
  intro p hp
  simp only [List.mem_cons, List.not_mem_nil, or_false] at hp
  rcases hp with rfl | rfl | rfl | rfl
  · exact h1
  · exact h2
  · exact h3
  · exact h4)
theorem Frm.cut5 {t1 : Nat} {v1 : Value} {t2 : Nat} {v2 : Value} {t3 : Nat} {v3 : Value} {t4 : Nat} {v4 : Value} {t5 : Nat} {v5 : Value} (h : Frm a n M) (h1 : lk M t1 = some v1) (h2 : lk M t2 = some v2) (h3 : lk M t3 = some v3) (h4 : lk M t4 = some v4) (h5 : lk M t5 = some v5) : Frm a n [(t1, v1), (t2, v2), (t3, v3), (t4, v4), (t5, v5)] := h.weak (by
  intro p hp
  simp only [List.mem_cons, List.not_mem_nil, or_false] at hp
  rcases hp with rfl | rfl | rfl | rfl | rfl
  · exact h1
  · exact h2
  · exact h3
  · exact h4
  · exact h5)
theorem Frm.cut6 {t1 : Nat} {v1 : Value} {t2 : Nat} {v2 : Value} {t3 : Nat} {v3 : Value} {t4 : Nat} {v4 : Value} {t5 : Nat} {v5 : Value} {t6 : Nat} {v6 : Value} (h : Frm a n M) (h1 : lk M t1 = some v1) (h2 : lk M t2 = some v2) (h3 : lk M t3 = some v3) (h4 : lk M t4 = some v4) (h5 : lk M t5 = some v5) (h6 : lk M t6 = some v6) : Frm a n [(t1, v1), (t2, v2), (t3, v3), (t4, v4), (t5, v5), (t6, v6)] := h.weak (by
  intro p hp
  simp only [List.mem_cons, List.not_mem_nil, or_false] at hp
  rcases hp with rfl | rfl | rfl | rfl | rfl | rfl
  · exact h1
  · exact h2
  · exact h3
  · exact h4
  · exact h5
  · exact h6)
theorem Frm.cut7 {t1 : Nat} {v1 : Value} {t2 : Nat} {v2 : Value} {t3 : Nat} {v3 : Value} {t4 : Nat} {v4 : Value} {t5 : Nat} {v5 : Value} {t6 : Nat} {v6 : Value} {t7 : Nat} {v7 : Value} (h : Frm a n M) (h1 : lk M t1 = some v1) (h2 : lk M t2 = some v2) (h3 : lk M t3 = some v3) (h4 : lk M t4 = some v4) (h5 : lk M t5 = some v5) (h6 : lk M t6 = some v6) (h7 : lk M t7 = some v7) : Frm a n [(t1, v1), (t2, v2), (t3, v3), (t4, v4), (t5, v5), (t6, v6), (t7, v7)] := h.weak (by
  intro p hp
  simp only [List.mem_cons, List.not_mem_nil, or_false] at hp
  rcases hp with rfl | rfl | rfl | rfl | rfl | rfl | rfl
  · exact h1
  · exact h2
  · exact h3
  · exact h4
  · exact h5
  · exact h6
  · exact h7)
theorem Frm.cut8 {t1 : Nat} {v1 : Value} {t2 : Nat} {v2 : Value} {t3 : Nat} {v3 : Value} {t4 : Nat} {v4 : Value} {t5 : Nat} {v5 : Value} {t6 : Nat} {v6 : Value} {t7 : Nat} {v7 : Value} {t8 : Nat} {v8 : Value} (h : Frm a n M) (h1 : lk M t1 = some v1) (h2 : lk M t2 = some v2) (h3 : lk M t3 = some v3) (h4 : lk M t4 = some v4) (h5 : lk M t5 = some v5) (h6 : lk M t6 = some v6) (h7 : lk M t7 = some v7) (h8 : lk M t8 = some v8) : Frm a n [(t1, v1), (t2, v2), (t3, v3), (t4, v4), (t5, v5), (t6, v6), (t7, v7), (t8, v8)] := h.weak (by
  intro p hp
  simp only [List.mem_cons, List.not_mem_nil, or_false] at hp
  rcases hp with rfl | rfl | rfl | rfl | rfl | rfl | rfl | rfl
  · exact h1
  · exact h2
  · exact h3
  · exact h4
  · exact h5
  · exact h6
  · exact h7
  · exact h8)
theorem Frm.cut9 {t1 : Nat} {v1 : Value} {t2 : Nat} {v2 : Value} {t3 : Nat} {v3 : Value} {t4 : Nat} {v4 : Value} {t5 : Nat} {v5 : Value} {t6 : Nat} {v6 : Value} {t7 : Nat} {v7 : Value} {t8 : Nat} {v8 : Value} {t9 : Nat} {v9 : Value} (h : Frm a n M) (h1 : lk M t1 = some v1) (h2 : lk M t2 = some v2) (h3 : lk M t3 = some v3) (h4 : lk M t4 = some v4) (h5 : lk M t5 = some v5) (h6 : lk M t6 = some v6) (h7 : lk M t7 = some v7) (h8 : lk M t8 = some v8) (h9 : lk M t9 = some v9) : Frm a n [(t1, v1), (t2, v2), (t3, v3), (t4, v4), (t5, v5), (t6, v6), (t7, v7), (t8, v8), (t9, v9)] := h.weak (by
  intro p hp
  simp only [List.mem_cons, List.not_mem_nil, or_false] at hp
  rcases hp with rfl | rfl | rfl | rfl | rfl | rfl | rfl | rfl | rfl
  · exact h1
  · exact h2
  · exact h3
  · exact h4
  · exact h5
  · exact h6
  · exact h7
  · exact h8
  · exact h9)
theorem Frm.cut10 {t1 : Nat} {v1 : Value} {t2 : Nat} {v2 : Value} {t3 : Nat} {v3 : Value} {t4 : Nat} {v4 : Value} {t5 : Nat} {v5 : Value} {t6 : Nat} {v6 : Value} {t7 : Nat} {v7 : Value} {t8 : Nat} {v8 : Value} {t9 : Nat} {v9 : Value} {t10 : Nat} {v10 : Value} (h : Frm a n M) (h1 : lk M t1 = some v1) (h2 : lk M t2 = some v2) (h3 : lk M t3 = some v3) (h4 : lk M t4 = some v4) (h5 : lk M t5 = some v5) (h6 : lk M t6 = some v6) (h7 : lk M t7 = some v7) (h8 : lk M t8 = some v8) (h9 : lk M t9 = some v9) (h10 : lk M t10 = some v10) : Frm a n [(t1, v1), (t2, v2), (t3, v3), (t4, v4), (t5, v5), (t6, v6), (t7, v7), (t8, v8), (t9, v9), (t10, v10)] := h.weak (by
  intro p hp
  simp only [List.mem_cons, List.not_mem_nil, or_false] at hp
  rcases hp with rfl | rfl | rfl | rfl | rfl | rfl | rfl | rfl | rfl | rfl
  · exact h1
  · exact h2
  · exact h3
  · exact h4
  · exact h5
  · exact h6
  · exact h7
  · exact h8
  · exact h9
  · exact h10)
theorem Frm.cut11 {t1 : Nat} {v1 : Value} {t2 : Nat} {v2 : Value} {t3 : Nat} {v3 : Value} {t4 : Nat} {v4 : Value} {t5 : Nat} {v5 : Value} {t6 : Nat} {v6 : Value} {t7 : Nat} {v7 : Value} {t8 : Nat} {v8 : Value} {t9 : Nat} {v9 : Value} {t10 : Nat} {v10 : Value} {t11 : Nat} {v11 : Value} (h : Frm a n M) (h1 : lk M t1 = some v1) (h2 : lk M t2 = some v2) (h3 : lk M t3 = some v3) (h4 : lk M t4 = some v4) (h5 : lk M t5 = some v5) (h6 : lk M t6 = some v6) (h7 : lk M t7 = some v7) (h8 : lk M t8 = some v8) (h9 : lk M t9 = some v9) (h10 : lk M t10 = some v10) (h11 : lk M t11 = some v11) : Frm a n [(t1, v1), (t2, v2), (t3, v3), (t4, v4), (t5, v5), (t6, v6), (t7, v7), (t8, v8), (t9, v9), (t10, v10), (t11, v11)] := h.weak (by
  intro p hp
  simp only [List.mem_cons, List.not_mem_nil, or_false] at hp
  rcases hp with rfl | rfl | rfl | rfl | rfl | rfl | rfl | rfl | rfl | rfl | rfl
  · exact h1
  · exact h2
  · exact h3
  · exact h4
  · exact h5
  · exact h6
  · exact h7
  · exact h8
  · exact h9
  · exact h10
  · exact h11)
theorem Frm.cut12 {t1 : Nat} {v1 : Value} {t2 : Nat} {v2 : Value} {t3 : Nat} {v3 : Value} {t4 : Nat} {v4 : Value} {t5 : Nat} {v5 : Value} {t6 : Nat} {v6 : Value} {t7 : Nat} {v7 : Value} {t8 : Nat} {v8 : Value} {t9 : Nat} {v9 : Value} {t10 : Nat} {v10 : Value} {t11 : Nat} {v11 : Value} {t12 : Nat} {v12 : Value} (h : Frm a n M) (h1 : lk M t1 = some v1) (h2 : lk M t2 = some v2) (h3 : lk M t3 = some v3) (h4 : lk M t4 = some v4) (h5 : lk M t5 = some v5) (h6 : lk M t6 = some v6) (h7 : lk M t7 = some v7) (h8 : lk M t8 = some v8) (h9 : lk M t9 = some v9) (h10 : lk M t10 = some v10) (h11 : lk M t11 = some v11) (h12 : lk M t12 = some v12) : Frm a n [(t1, v1), (t2, v2), (t3, v3), (t4, v4), (t5, v5), (t6, v6), (t7, v7), (t8, v8), (t9, v9), (t10, v10), (t11, v11), (t12, v12)] := h.weak (by
  intro p hp
  simp only [List.mem_cons, List.not_mem_nil, or_false] at hp
  rcases hp with rfl | rfl | rfl | rfl | rfl | rfl | rfl | rfl | rfl | rfl | rfl | rfl
  · exact h1
  · exact h2
  · exact h3
  · exact h4
  · exact h5
  · exact h6
  · exact h7
  · exact h8
  · exact h9
  · exact h10
  · exact h11
  · exact h12)
theorem isAgg_no {ty : TypeId} {d : TypeDesc} (hu : P.underlying ty = some d) (hd : d.isRow = false) (w : World) : (isAgg ty).run P w = .ok false w := by
  unfold isAgg
  rw [Sem.run_bind, run_underlying hu w]
  cases d <;> simp_all
theorem g_int {op : BinOp} {ty : TypeId} {x y : Operand} {k : IntKind} {p q : Int} (w : World) : (eqGuard op ty x y (.int k p) (.int k q)).run P w = .ok () w := by
  simp [eqGuard, go_sem]
theorem g_bool {op : BinOp} {ty : TypeId} {x y : Operand} {p q : Bool} (w : World) : (eqGuard op ty x y (.bool p) (.bool q)).run P w = .ok () w := by
  simp [eqGuard, go_sem]
theorem b_lss {ty : TypeId} {p q : Int} {b : Bool} (hb : decide (p < q) = b) (w : World) : (binOp .lss ty (.int .i64 p) (.int .i64 q)).run P w = .ok (.bool b) w := by
  subst hb; simp [go_sem]
theorem b_leq {ty : TypeId} {p q : Int} {b : Bool} (hb : decide (p ≤ q) = b) (w : World) : (binOp .leq ty (.int .i64 p) (.int .i64 q)).run P w = .ok (.bool b) w := by
  subst hb; simp [go_sem]
theorem b_gtr {ty : TypeId} {p q : Int} {b : Bool} (hb : decide (q < p) = b) (w : World) : (binOp .gtr ty (.int .i64 p) (.int .i64 q)).run P w = .ok (.bool b) w := by
  subst hb; simp [go_sem]
theorem b_geq {ty : TypeId} {p q : Int} {b : Bool} (hb : decide (q ≤ p) = b) (w : World) : (binOp .geq ty (.int .i64 p) (.int .i64 q)).run P w = .ok (.bool b) w := by
  subst hb; simp [go_sem]
theorem b_eql {ty : TypeId} {p q : Int} {b : Bool} (hb : decide (p = q) = b) (w : World) : (binOp .eql ty (.int .i64 p) (.int .i64 q)).run P w = .ok (.bool b) w := by
  subst hb; simp [go_sem, Bool.beq_eq_decide_eq]
theorem b_neq {ty : TypeId} {p q : Int} {b : Bool} (hb : decide (p ≠ q) = b) (w : World) : (binOp .neq ty (.int .i64 p) (.int .i64 q)).run P w = .ok (.bool b) w := by
  subst hb; simp [go_sem, bne, Bool.beq_eq_decide_eq]
theorem b_eqb {ty : TypeId} {p q : Bool} {b : Bool} (hu : P.underlying ty = some .bool) (hb : (p == q) = b) (w : World) : (binOp .eql ty (.bool p) (.bool q)).run P w = .ok (.bool b) w := by
  subst hb; exact run_eql_bool _ _ _ _ hu
theorem b_neb {ty : TypeId} {p q : Bool} {b : Bool} (hu : P.underlying ty = some .bool) (hb : (p != q) = b) (w : World) : (binOp .neq ty (.bool p) (.bool q)).run P w = .ok (.bool b) w := by
  subst hb; exact run_neq_bool _ _ _ _ hu
theorem b_add {ty : TypeId} {p q r : Int} (hr : p + q = r) (h : -9223372036854775808 ≤ r ∧ r ≤ 9223372036854775807) (w : World) : (binOp .add ty (.int .i64 p) (.int .i64 q)).run P w = .ok (.int .i64 r) w := by
  subst hr
  have : IntKind.i64.wrap (p + q) = p + q := by rw [IntKind.wrap_i64]; omega
  simp [go_sem, this]
theorem b_sub {ty : TypeId} {p q r : Int} (hr : p - q = r) (h : -9223372036854775808 ≤ r ∧ r ≤ 9223372036854775807) (w : World) : (binOp .sub ty (.int .i64 p) (.int .i64 q)).run P w = .ok (.int .i64 r) w := by
  subst hr
  have : IntKind.i64.wrap (p - q) = p - q := by rw [IntKind.wrap_i64]; omega
  simp [go_sem, this]
end

section
variable {P : Program} {a : Act} {n : Nat} {M M' : List (Nat × Value)} {ops : Array Oper} {o : Oper} {w w' : World} {v : Value} {Q : Exit → Act → World → Prop} {K : Act → World → Prop} {rest : List Oper}
theorem region_then {id : Nat} {l : List Oper} {B : Code} (h : ∀ (K : Act → World → Prop) (Q' : Exit → Act → World → Prop), (∀ a' w', B.wp P Q a' w' → K a' w') → wpSeg P l.toArray Q' K l a w) : ((Code.region id l.toArray false).seq B).wp P Q a w := by
  refine wp_seq (wp_region_lit ?_)
  have := wpSeg_eq (P := P) (ops := l.toArray) (Q := Exit.then (fun a w => B.wp P Q a w) Q) l []
  rw [List.append_nil] at this
  rw [this]
  exact h _ _ (fun a' w' hB => hB)
theorem region_last {id : Nat} {l : List Oper} (h : ∀ (K : Act → World → Prop) (Q' : Exit → Act → World → Prop), (∀ a' w', Q .normal a' w' → K a' w') → wpSeg P l.toArray Q' K l a w) : (Code.region id l.toArray false).wp P Q a w := by
  refine wp_region_lit ?_
  have := wpSeg_eq (P := P) (ops := l.toArray) (Q := Q) l []
  rw [List.append_nil] at this
  rw [this]
  exact h _ _ (fun a' w' hB => hB)
theorem s_val {d : Nat} (hM : Frm a n M) (hw : Want ops M o) (hd : o.dst = some d) (hn : Nat.blt d n = true) (hr : Ev P M o w v)
    (h : ∀ a', Frm a' n ((d, v) :: M) → wpSeg P ops Q K rest a' w) : wpSeg P ops Q K (o :: rest) a w := by
  unfold wpSeg
  rw [if_pos (hw.is hM)]
  refine .inl ?_
  unfold Oper.wp
  rw [hr _ _ hM, Oper.upon_value, hd]
  exact h _ (hM.put (Nat.le_of_ble_eq_true hn) v)
theorem s_skip {d j dj : Nat} {b c : Bool} (hM : Frm a n M) (hg : o.guard = some (j, b)) (hj : (ops[j]?).bind (·.dst) = some dj) (hl : lk M dj = some (.bool c)) (hc : c = !b) (hd : o.dst = some d) (hn : Nat.blt d n = true)
    (h : ∀ a', Frm a' n ((d, undef) :: M) → wpSeg P ops Q K rest a' w) : wpSeg P ops Q K (o :: rest) a w := seg_skip hM hd (Nat.le_of_ble_eq_true hn) hg hj hl hc h
theorem Frm.yieldu {j d : Nat} (h : Frm a n M) (hj : (ops[j]?).bind (·.dst) = some d) (hl : lk M d = some undef) : yielded ops a.tmps j = none := by
  unfold yielded
  rw [hj]
  simp [h.at_ hl, undef]
theorem s_skipu {d j dj : Nat} {b : Bool} (hM : Frm a n M) (hg : o.guard = some (j, b)) (hj : (ops[j]?).bind (·.dst) = some dj) (hl : lk M dj = some undef) (hd : o.dst = some d) (hn : Nat.blt d n = true)
    (h : ∀ a', Frm a' n ((d, undef) :: M) → wpSeg P ops Q K rest a' w) : wpSeg P ops Q K (o :: rest) a w := by
  unfold wpSeg
  rw [if_neg (by simp [Region.wanted, hg, hM.yieldu hj hl]), hd]
  exact h _ (hM.put (Nat.le_of_ble_eq_true hn) undef)
theorem s_call {d : Nat} {f : FuncId} {args : Array Value} {Post : Ending → World → Prop} (hM : Frm a n M) (hw : Want ops M o) (hd : o.dst = some d) (hn : Nat.blt d n = true) (hr : (execOp a.eval o).run P w = .ok (.enter f args) w)
    (hc : Calls P f args w Post) (h : ∀ e w', Post e w' → ∃ v, e = .returned v ∧ ∀ a', Frm a' n ((d, v) :: M) → wpSeg P ops Q K rest a' w') : wpSeg P ops Q K (o :: rest) a w := by
  unfold wpSeg
  rw [if_pos (hw.is hM)]
  refine .inl ?_
  unfold Oper.wp
  rw [hr, Oper.upon_enter]
  refine hc.mono ?_
  intro e w' hp
  obtain ⟨v, rfl, hk⟩ := h e w' hp
  simp only [hd]
  exact hk _ (hM.put (Nat.le_of_ble_eq_true hn) v)
/-- A new block, at once written whole. -/
theorem s_new {o2 : Oper} {d : Nat} {T : TypeId} {x : Operand} {C Z : Array Value} (hM : Frm a n M) (hg : o.guard = none) (hd : o.dst = some d) (hn : Nat.blt d n = true) (ho : o.op = .alloc T)
    (hz : ∀ w, (Instr.alloc T true (.tuple #[])).run P w = .ok (.pointer (some ⟨w.heap.size, 0, none⟩)) (w.alloc (.cells Z T))) (hg2 : o2.guard = none) (hd2 : o2.dst = none) (ho2 : o2.op = .store T (.tmp d) x)
    (hx : opv ((d, .pointer (some ⟨w.heap.size, 0, none⟩)) :: M) x = some (.agg C)) (hi : (P.info? T).map (·.size) = some C.size) (hs : Z.size = C.size) (h1 : ∀ u ∈ C.toList, u.oneCell' = true)
    (h : ∀ g a' w', Frm a' n ((d, .pointer (some ⟨g, 0, none⟩)) :: M) → Blk w' g T C → Below w.heap.size w w' → w.heap.size ≤ g → wpSeg P ops Q K rest a' w') : wpSeg P ops Q K (o :: o2 :: rest) a w := by
  unfold wpSeg
  rw [if_pos (by simp [Region.wanted, hg])]
  refine .inl ?_
  unfold Oper.wp
  have hr : (execOp a.eval o).run P w = .ok (.value (.pointer (some ⟨w.heap.size, 0, none⟩))) (w.alloc (.cells Z T)) := by
    simp only [execOp, ho]
    simp [Sem.run_bind, hz]
  rw [hr, Oper.upon_value, hd]
  have hM2 := hM.put (Nat.le_of_ble_eq_true hn) (.pointer (some ⟨w.heap.size, 0, none⟩))
  unfold wpSeg
  rw [if_pos (by simp [Region.wanted, hg2])]
  refine .inl (wp_store_row T (.tmp d) x ho2 w.heap.size (hM2.evo (x := .tmp d) (by simp [opv, lk])) T Z (.agg C) (hM2.evo hx) (Blk.new w T Z) hi hs h1 fun w' q1 q2 => ?_)
  rw [hd2]
  refine h w.heap.size _ w' hM2 q1 ?_ (Nat.le_refl _)
  exact (below_alloc_ w _).grown q2 (by simp) (fun g e => by injection e with e; omega)
/-- One cell of a block written. -/
theorem s_put {T : TypeId} {x y : Operand} {g k : Nat} {t : TypeId} {cs : Array Value} (hM : Frm a n M) (hg : o.guard = none) (hd : o.dst = none) (ho : o.op = .store T x y) (hx : opv M x = some (.pointer (some ⟨g, k, none⟩))) (hy : opv M y = some v)
    (hb : Blk w g t cs) (hk : k < cs.size) (hst : ∀ w, (w.cell? ⟨g, k, none⟩).isSome = true → w.frozen? ⟨g, k, none⟩ = false → (Instr.storeAt T (.pointer (some ⟨g, k, none⟩)) v).run P w = .ok () (w.setCell ⟨g, k, none⟩ v))
    (h : ∀ w', Blk w' g t (cs.setIfInBounds k v) → w.grownBy w' (some g) → wpSeg P ops Q K rest a w') : wpSeg P ops Q K (o :: rest) a w := by
  unfold wpSeg
  rw [if_pos (by simp [Region.wanted, hg])]
  refine .inl ?_
  have hr : (execOp a.eval o).run P w = .ok .skip (w.setCell ⟨g, k, none⟩ v) := by
    simp only [execOp, ho, hM.evo hx, hM.evo hy]
    simp [Sem.run_bind, hst w (by rw [hb.cell]; simp [hk]) (hb.frozen k)]
  unfold Oper.wp
  rw [hr]
  show wpSeg P ops Q K rest (a.put o.dst _) _
  rw [hd]
  exact h _ (hb.set_ k v) (grown_set_ w g k v)
theorem st_int {T : TypeId} {g k : Nat} {z : Int} (hu : P.underlying T = some (.int .i64)) (hz : (P.info? T).map (·.size) = some 1) (w : World) (h1 : (w.cell? ⟨g, k, none⟩).isSome = true) (h2 : w.frozen? ⟨g, k, none⟩ = false) :
    (Instr.storeAt T (.pointer (some ⟨g, k, none⟩)) (.int .i64 z)).run P w = .ok () (w.setCell ⟨g, k, none⟩ (.int .i64 z)) := by
  obtain ⟨u, hu'⟩ := Option.isSome_iff_exists.1 h1
  obtain ⟨i, hi, hi1⟩ := Option.map_eq_some_iff.1 hz
  simp [Instr.storeAt, Instr.sureAddr, storeVar, sizeOf, typeInfo, Sem.run_bind, hi, hi1, go_sem, hu', h2]
theorem st_u8 {T : TypeId} {g k : Nat} {z : Int} (hu : P.underlying T = some (.int .u8)) (hz : (P.info? T).map (·.size) = some 1) (w : World) (h1 : (w.cell? ⟨g, k, none⟩).isSome = true) (h2 : w.frozen? ⟨g, k, none⟩ = false) :
    (Instr.storeAt T (.pointer (some ⟨g, k, none⟩)) (.int .u8 z)).run P w = .ok () (w.setCell ⟨g, k, none⟩ (.int .u8 z)) := by
  obtain ⟨u, hu'⟩ := Option.isSome_iff_exists.1 h1
  obtain ⟨i, hi, hi1⟩ := Option.map_eq_some_iff.1 hz
  simp [Instr.storeAt, Instr.sureAddr, storeVar, sizeOf, typeInfo, Sem.run_bind, hi, hi1, go_sem, hu', h2]
theorem b_rem {ty : TypeId} {p q : Int} {a b r : Nat} (hp : p = a) (hq : q = b) (h0 : 0 < b) (hr : a % b = r) (h : (r : Int) ≤ 9223372036854775807) (w : World) : (binOp .rem ty (.int .i64 p) (.int .i64 q)).run P w = .ok (.int .i64 (r : Int)) w := by
  subst hp; subst hq
  have e : Int.tmod (a : Int) (b : Int) = (r : Int) := by rw [Int.tmod_eq_emod_of_nonneg (by omega)]; subst hr; simp
  have e2 : IntKind.i64.wrap (r : Int) = r := by rw [IntKind.wrap_i64]; omega
  have hb : ¬ (b = 0) := by omega
  simp [go_sem, hb, e, e2]
theorem b_quo {ty : TypeId} {p q : Int} {a b r : Nat} (hp : p = a) (hq : q = b) (h0 : 0 < b) (hr : a / b = r) (h : (r : Int) ≤ 9223372036854775807) (w : World) : (binOp .quo ty (.int .i64 p) (.int .i64 q)).run P w = .ok (.int .i64 (r : Int)) w := by
  subst hp; subst hq
  have e : Int.tdiv (a : Int) (b : Int) = (r : Int) := by rw [Int.tdiv_eq_ediv_of_nonneg (by omega)]; subst hr; simp
  have e2 : IntKind.i64.wrap (r : Int) = r := by rw [IntKind.wrap_i64]; omega
  have hb : ¬ (b = 0) := by omega
  simp [go_sem, hb, e, e2]
theorem b_xor8 {ty : TypeId} {p q r : Int} (h : bits .xor .u8 p q = r) (w : World) : (binOp .xor ty (.int .u8 p) (.int .u8 q)).run P w = .ok (.int .u8 r) w := by
  simp [go_sem, h]
theorem ev_conv8 {s d : TypeId} {x : Operand} {z : Int} (ho : o.op = .convert s d x) (hx : opv M x = some (.int .i64 z)) (hs : P.underlying s = some (.int .i64)) (hd : P.underlying d = some (.int .u8)) (h : 0 ≤ z ∧ z < 256) : Ev P M o w (.int .u8 z) := fun a n hM => by
  have e2 : IntKind.u8.wrap z = z := by rw [IntKind.wrap_u8]; omega
  simp only [execOp, ho, hM.evo hx]
  simp [convert, Sem.run_bind, run_underlying hs, run_underlying hd, go_sem, e2]
theorem own_open {w : World} {B n : Nat} {e : TypeId} {v : Value} {xs : List Value} (h : w.ownsRow B e 1 v n xs) (h0 : 0 < n) : ∃ g c cur, v = .slice (some ⟨g, 0, none⟩) n c ∧ B ≤ g ∧ Blk w g e cur ∧ n ≤ cur.size ∧ n ≤ c ∧ c ≤ 9223372036854775807 ∧ ∀ (j : Nat) (u : Value), xs[j]? = some u → cur[j]? = some u := by
  have hlen := h.1
  rcases h.2 with ⟨rfl, rfl⟩ | ⟨g, cap, cur, rfl, hb, hh, h1, h2, h3, h4⟩
  · omega
  · unfold maxLen at h2
    refine ⟨g, cap, cur, rfl, hb, hh, by omega, h1, by omega, fun j u hu => ?_⟩
    rw [← h4, List.getElem?_take] at hu
    split at hu
    · simpa using hu
    · cases hu
theorem set_bytes {w : World} {g n j : Nat} {t : TypeId} {cur : Array Value} {xs : List UInt8} {z : UInt8} (h : Blk w g t (cur.setIfInBounds j (.int .u8 (z.toNat : Int)))) (hl : xs.length = n) (hc : ∀ (i : Nat) (u : Value), (bytes8 xs)[i]? = some u → cur[i]? = some u) (hj : j < n) :
    Sl w 1 (some ⟨g, 0, none⟩) n (bytes8 (xs.set j z)) := by
  refine ⟨by rw [bytes8_len, List.length_set]; omega, fun _ => ⟨g, 0, rfl, h.lt, fun i u hu => ?_⟩⟩
  rw [Nat.zero_add, h.cell]
  simp only [bytes8, List.getElem?_map, Option.map_eq_some_iff] at hu
  obtain ⟨y, hy, rfl⟩ := hu
  rw [List.getElem?_set] at hy
  have hjc : j < cur.size := by
    have : (bytes8 xs)[j]? = some (.int .u8 ((xs[j]'(by omega)).toNat : Int)) := by simp [bytes8, hl, hj]
    exact (Array.getElem?_eq_some_iff.1 (hc _ _ this)).1
  by_cases hij : j = i
  · subst hij
    rw [if_pos rfl, if_pos (by omega)] at hy
    injection hy with hy
    subst hy
    simp [hjc]
  · rw [if_neg hij] at hy
    rw [Array.getElem?_setIfInBounds_ne hij]
    exact hc i _ (by simp [bytes8, hy])
theorem inb_n {id : Nat} (h : Q .normal a w) : Exit.inBlock id Q .normal a w := h
theorem th_e {id : Nat} {K : Act → World → Prop} (h : Q (.exit id) a w) : Exit.then K Q (.exit id) a w := h
theorem inb_e {id : Nat} (h : Q .normal a w) : Exit.inBlock id Q (.exit id) a w := by simp [Exit.inBlock, h]
/-- A new block. -/
theorem s_alloc {d : Nat} {C : Array Value} {e : TypeId} {V : Nat → Value} (hM : Frm a n M) (hw : Want ops M o) (hd : o.dst = some d) (hn : Nat.blt d n = true) (hr : (execOp a.eval o).run P w = .ok (.value (V w.heap.size)) (w.alloc (.cells C e)))
    (h : ∀ g a' w', Frm a' n ((d, V g) :: M) → Blk w' g e C → Below w.heap.size w w' → w.heap.size ≤ g → wpSeg P ops Q K rest a' w') : wpSeg P ops Q K (o :: rest) a w := by
  unfold wpSeg
  rw [if_pos (hw.is hM)]
  refine .inl ?_
  unfold Oper.wp
  rw [hr, Oper.upon_value, hd]
  exact h _ _ _ (hM.put (Nat.le_of_ble_eq_true hn) _) (Blk.new w e C) (below_alloc_ w _) (Nat.le_refl _)
theorem s_append {d : Nat} {s x : Operand} {t : TypeId} (hM : Frm a n M) (hw : Want ops M o) (hd : o.dst = some d) (hn : Nat.blt d n = true) (ho : o.op = .call { callee := .builtin .append, args := #[s, x], argTypes := #[t, t] })
    (base : Nat) (e : TypeId) (i : TypeInfo) (z : Value) (size bytes : Nat) (ht : P.underlying t = some (.slice e)) (hi : P.info? e = some i) (hz : i.zero = some z) (hsize : i.size = size) (hby : i.bytes = bytes) (hzs : z.cells.size = size) (hsz : 0 < size)
    (m : Nat) (xs : List Value) (hs : opv M s = some v) (hown : w.ownsRow base e size v m xs) (ad : Addr) (k c : Nat) (news : List Value) (hx : opv M x = some (.slice (some ad) k c)) (hl : news.length = k * size)
    (hnews : ∀ j u, news[j]? = some u → w.cell? (ad.add j) = some u) (h1 : ∀ u ∈ news, u.oneCell' = true) (h63 : m + k ≤ maxLen) (hbytes : (m + k) * bytes ≤ 140737488355328) (hbase : base ≤ w.heap.size)
    (h : ∀ v' a' w', Frm a' n ((d, v') :: M) → w'.ownsRow base e size v' (m + k) (xs ++ news) → w.grownBy w' v.ownBlock → (v'.ownBlock = v.ownBlock ∨ v'.ownBlock = some w.heap.size) → wpSeg P ops Q K rest a' w') : wpSeg P ops Q K (o :: rest) a w := by
  obtain ⟨v', w', hr, h2, h3, _, h5⟩ := run_append_own_at (P := P) w base t o.type e i z size bytes ht hi hz hsize hby hzs hsz v m xs hown ad k c news hl hnews h1 h63 hbytes hbase
  have hrun : (execOp a.eval o).run P w = .ok (.value v') w' := by
    unfold execOp
    simp only [ho, resolve, invoke, builtin, Sem.run_bind, Sem.run_pure, Result.andThen_ok, List.map_toArray, List.map_cons, List.map_nil, hM.evo hs, hM.evo hx, hr]
  unfold wpSeg
  rw [if_pos (hw.is hM)]
  refine .inl ?_
  unfold Oper.wp
  rw [hrun, Oper.upon_value, hd]
  exact h _ _ _ (hM.put (Nat.le_of_ble_eq_true hn) _) h2 h3 h5
theorem st_slice {T e : TypeId} {g k m c : Nat} {A : Option Addr} (hu : P.underlying T = some (.slice e)) (hz : (P.info? T).map (·.size) = some 1) (w : World) (h1 : (w.cell? ⟨g, k, none⟩).isSome = true) (h2 : w.frozen? ⟨g, k, none⟩ = false) :
    (Instr.storeAt T (.pointer (some ⟨g, k, none⟩)) (.slice A m c)).run P w = .ok () (w.setCell ⟨g, k, none⟩ (.slice A m c)) := by
  obtain ⟨u, hu'⟩ := Option.isSome_iff_exists.1 h1
  obtain ⟨i, hi, hi1⟩ := Option.map_eq_some_iff.1 hz
  simp [Instr.storeAt, Instr.sureAddr, storeVar, sizeOf, typeInfo, Sem.run_bind, hi, hi1, go_sem, hu', h2]
theorem ev_bslice1 {t e : TypeId} {z : Value} (hM : Frm a n M) (ho : o.op = .buildSlice t 1 #[(0, .const z)]) (hr : ∀ w, (Instr.buildSlice t 1 #[(0, z)]).run P w = .ok (.slice (some ⟨w.heap.size, 0, none⟩) 1 1) (w.alloc (.cells #[z] e))) :
    (execOp a.eval o).run P w = .ok (.value ((fun g => Value.slice (some ⟨g, 0, none⟩) 1 1) w.heap.size)) (w.alloc (.cells #[z] e)) := by
  have e2 : (#[(0, Operand.const z)] : Array (Nat × Operand)).map (fun (i, x) => (i, a.eval x)) = #[(0, z)] := by simp; rfl
  simp only [execOp, ho, e2]
  simp [Sem.run_bind, hr]
theorem wp_if_skip {c : Operand} {X B : Code} (hc : a.eval c = .bool false) (h : B.wp P Q a w) : ((Code.cond c X .skip).seq B).wp P Q a w := wp_seq (wp_cond_false hc (wp_skip h))
theorem wp_if_go {c : Operand} {X Y B : Code} (hc : a.eval c = .bool true) (h : X.wp P (Exit.then (fun a w => B.wp P Q a w) Q) a w) : ((Code.cond c X Y).seq B).wp P Q a w := wp_seq (wp_cond_true hc h)
end
section
variable {P : Program} {a : Act} {n : Nat} {M M' : List (Nat × Value)} {ops : Array Oper} {o : Oper} {W : World} {v : Value} {Q : Act → Prop} {rest : List Oper}
theorem q_open {id : Nat} {Q : Exit → Act → World → Prop} {l : List Oper} {B : Code} (hm : P.follows .mixedOrders = true) (hB : Region.lexB .any l.toArray = true)
    (h : ∀ K : Act → Prop, (∀ a', (∀ w', Below W.heap.size W w' → B.wp P Q a' w') → K a') → wpQuiet P l.toArray (fun w' => ∃ n : Wd W, w' = n.w) K l a) : ((Code.region id l.toArray true).seq B).wp P Q a W :=
  wp_seq (wp_region_wd hm hB (h _ fun a' hh => wd_end fun w' hw => hh w' hw))
theorem q_val {d : Nat} (hM : Frm a n M) (hw : Want ops M o) (hd : o.dst = some d) (hn : Nat.blt d n = true) (hr : ∀ m : Wd W, Ev P M o m.w v)
    (h : ∀ a', Frm a' n ((d, v) :: M) → wpQuiet P ops (fun w' => ∃ n : Wd W, w' = n.w) Q rest a') : wpQuiet P ops (fun w' => ∃ n : Wd W, w' = n.w) Q (o :: rest) a := by
  unfold wpQuiet
  rw [if_pos (hw.is hM)]
  refine ⟨v, ?_, ?_⟩
  · rintro w ⟨m, rfl⟩
    unfold Oper.quietAt
    rw [hr m _ _ hM]
    exact ⟨rfl, rfl⟩
  · rw [hd]; exact h _ (hM.put (Nat.le_of_ble_eq_true hn) v)
theorem q_skip {d j dj : Nat} {b c : Bool} (hM : Frm a n M) (hg : o.guard = some (j, b)) (hj : (ops[j]?).bind (·.dst) = some dj) (hl : lk M dj = some (.bool c)) (hc : c = !b) (hd : o.dst = some d) (hn : Nat.blt d n = true)
    (h : ∀ a', Frm a' n ((d, undef) :: M) → wpQuiet P ops (fun w' => ∃ n : Wd W, w' = n.w) Q rest a') : wpQuiet P ops (fun w' => ∃ n : Wd W, w' = n.w) Q (o :: rest) a := by
  unfold wpQuiet
  rw [if_neg (by subst hc; simp [Region.wanted, hg, hM.yield hj hl]), hd]
  exact h _ (hM.put (Nat.le_of_ble_eq_true hn) undef)
theorem q_skipu {d j dj : Nat} {b : Bool} (hM : Frm a n M) (hg : o.guard = some (j, b)) (hj : (ops[j]?).bind (·.dst) = some dj) (hl : lk M dj = some undef) (hd : o.dst = some d) (hn : Nat.blt d n = true)
    (h : ∀ a', Frm a' n ((d, undef) :: M) → wpQuiet P ops (fun w' => ∃ n : Wd W, w' = n.w) Q rest a') : wpQuiet P ops (fun w' => ∃ n : Wd W, w' = n.w) Q (o :: rest) a := by
  unfold wpQuiet
  rw [if_neg (by simp [Region.wanted, hg, hM.yieldu hj hl]), hd]
  exact h _ (hM.put (Nat.le_of_ble_eq_true hn) undef)
theorem q_call {d : Nat} {f : FuncId} {args : Array Value} (hM : Frm a n M) (hw : Want ops M o) (hd : o.dst = some d) (hn : Nat.blt d n = true) (hr : ∀ w : World, (execOp a.eval o).run P w = .ok (.enter f args) w)
    (hc : ∀ m : Wd W, Calls P f args m.w fun e w'' => e = .returned v ∧ ∃ m' : Wd W, w'' = m'.w)
    (h : ∀ a', Frm a' n ((d, v) :: M) → wpQuiet P ops (fun w' => ∃ n : Wd W, w' = n.w) Q rest a') : wpQuiet P ops (fun w' => ∃ n : Wd W, w' = n.w) Q (o :: rest) a := by
  unfold wpQuiet
  rw [if_pos (hw.is hM)]
  refine ⟨v, ?_, ?_⟩
  · rintro w ⟨m, rfl⟩
    unfold Oper.quietAt
    rw [hr]
    exact ⟨rfl, hc m⟩
  · rw [hd]; exact h _ (hM.put (Nat.le_of_ble_eq_true hn) v)
end
end Go.Proofs.Ytflamhndmggiaaa
