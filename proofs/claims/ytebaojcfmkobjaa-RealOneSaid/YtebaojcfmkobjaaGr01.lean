/-
  Texts joined: words and contracts that later texts use; lemmas alone, no conditions of a statement.
-/
import Derived.Test.YtebaojcfmkobjaaGr00
import Derived.Deep.MidRow
import Derived.Maps.AppendAt
import Derived.OrdersHeld
import Derived.Test.YtebaojcfmkobjaaProg
set_option linter.unusedVariables false
set_option linter.unusedSimpArgs false
/-
  Regions over frames known by facts: what an operation yields ('Ev'), told once for plain regions ('s_..') and for regions that draw their order ('q_..'). Over any program.
-/
namespace Go.Proofs.Ytebaojcfmkobjaa
open Go.RowKit

/-- What an operand holds. -/
def opv (M : List (Nat × Value)) : Operand → Option Value
  | .tmp t => lk M t
  | .const v => some v
  | _ => none
def opvs (M : List (Nat × Value)) : List Operand → Option (List Value)
  | [] => some []
  | x :: r => match opv M x, opvs M r with
    | some v, some vs => some (v :: vs)
    | _, _ => none
def Want (ops : Array Oper) (M : List (Nat × Value)) (o : Oper) : Prop :=
  o.guard = none ∨ ∃ j b dj, o.guard = some (j, b) ∧ (ops[j]?).bind (·.dst) = some dj ∧ lk M dj = some (.bool b)
/-- The operation yields v, in the world that it gets. -/
def Ev (P : Program) (M : List (Nat × Value)) (o : Oper) (w : World) (v : Value) : Prop := ∀ (a : Act) (n : Nat), Frm a n M → (execOp a.eval o).run P w = .ok (.value v) w
/-- A row of cells in a block. -/
def Rng (w : World) (b o : Nat) (C : Array Value) : Prop := b < w.heap.size ∧ ∀ j v, C[j]? = some v → w.cell? ⟨b, o + j, none⟩ = some v
section
variable {P : Program} {a : Act} {n : Nat} {M M' : List (Nat × Value)} {ops : Array Oper} {o : Oper} {w w' : World} {v : Value}
theorem Rng.below {b k : Nat} {C : Array Value} (h : Rng w b k C) (hb : Below w.heap.size w w') : Rng w' b k C := ⟨Nat.lt_of_lt_of_le h.1 hb.size, fun j v hj => (hb.cell h.1).trans (h.2 j v hj)⟩
theorem Rng.sub {b k : Nat} {C D : Array Value} (h : Rng w b k C) (m : Nat) (hs : ∀ j v, D[j]? = some v → C[m + j]? = some v) : Rng w b (k + m) D := ⟨h.1, fun j v hj => by rw [Nat.add_assoc]; exact h.2 _ _ (hs j v hj)⟩
theorem Rng.at_ {b k m : Nat} {C : Array Value} (h : Rng w b k C) (hm : C[m]? = some v) : w.cell? ⟨b, k + m, none⟩ = some v := h.2 _ _ hm
theorem Blk.rng {g : Nat} {t : TypeId} {C : Array Value} (h : Blk w g t C) : Rng w g 0 C := ⟨h.lt, fun j v hj => by rw [Nat.zero_add]; exact h.at_ hj⟩
theorem below_alloc_ (w : World) (o : Obj) : Below w.heap.size w (w.alloc o) := (Below.refl _ _).alloc (Nat.le_refl _) o
theorem grown_set_ (w : World) (g i : Nat) (u : Value) : w.grownBy (w.setCell ⟨g, i, none⟩ u) (some g) :=
  ⟨rfl, rfl, rfl, by simp [World.setCell], fun k _ hk => Below.heap_setCell w ⟨g, i, none⟩ u k (by intro e; exact hk (by rw [e]))⟩
theorem Blk.on {g : Nat} {t : TypeId} {C : Array Value} (h : Blk w g t C) (hb : Below w.heap.size w w') : Blk w' g t C := h.later hb
theorem Frm.evo (h : Frm a n M) {x : Operand} (hl : opv M x = some v) : a.eval x = v := by
  cases x with
  | tmp t => exact h.ev hl
  | const u => injection hl
  | global _ => cases hl
  | func _ => cases hl
theorem Want.is (hw : Want ops M o) (h : Frm a n M) : Region.wanted o (yielded ops a.tmps) = true := by
  rcases hw with hw | ⟨j, b, dj, hg, hj, hl⟩
  · simp [Region.wanted, hw]
  · simp [Region.wanted, hg, h.yield hj hl]
theorem Frm.evs (h : Frm a n M) : ∀ {xs : List Operand} {vs : List Value}, opvs M xs = some vs → xs.map a.eval = vs
  | [], vs, hl => by simpa [opvs] using hl
  | x :: r, vs, hl => by
    unfold opvs at hl
    split at hl
    · rename_i v us h1 h2
      injection hl with hl
      subst hl
      simp [h.evo h1, h.evs h2]
    · cases hl
theorem ev_call {f : FuncId} {xs : List Operand} {ts : Array TypeId} {vs : List Value} {args : Array Value} (h : Frm a n M) (ho : o.op = .call { callee := .value (.func f), args := xs.toArray, argTypes := ts }) (ha : opvs M xs = some vs) (hv : vs.toArray = args)
    (hf : ∀ w, (callFunc f args).run P w = .ok (.enter f args) w) (w : World) : (execOp a.eval o).run P w = .ok (.enter f args) w := by
  have e : xs.toArray.map a.eval = args := by rw [← hv, ← h.evs ha]; simp
  have ef : a.eval (.func f) = .func (.func f) #[] #[] := rfl
  simp only [execOp, ho, resolve, e, ef]
  have := hf w
  simp [Deferred.ofValue, invoke, Sem.run_bind, this]
theorem ev_move {x : Operand} (ho : o.op = .move x ∨ o.op = .assign x) (hx : opv M x = some v) : Ev P M o w v := fun a n h => by
  rcases ho with ho | ho <;> simp [execOp, ho, h.evo hx]
theorem ev_pick {c x y : Operand} {b : Bool} (ho : o.op = .pick c x y) (hc : opv M c = some (.bool b)) (hx : (bif b then opv M x else opv M y) = some v) : Ev P M o w v := fun a n h => by
  cases b with
  | true => simp [execOp, ho, h.evo hc, h.evo (show opv M x = some v from hx), asBool]
  | false => simp [execOp, ho, h.evo hc, h.evo (show opv M y = some v from hx), asBool]
theorem ev_ext {x : Operand} {k : Nat} {vs : Array Value} (ho : o.op = .extract x k) (hx : opv M x = some (.tuple vs)) (hv : vs[k]? = some v) : Ev P M o w v := fun a n h => by
  simp [execOp, ho, h.evo hx, Instr.extract, hv]
theorem ev_len {x : Operand} {t : TypeId} {A : Option Addr} {m c : Nat} (ho : o.op = .call { callee := .builtin .len, args := #[x], argTypes := #[t] }) (hx : opv M x = some (.slice A m c)) (hu : P.underlying t = some (.slice (P.elem t))) : Ev P M o w (.int .i64 m) := fun a n h => by
  have e : (#[x] : Array Operand).map a.eval = #[.slice A m c] := by simp [h.evo hx]
  simp only [execOp, ho, resolve, e]
  simp [go_sem, run_len_slice _ _ _ _ _ _ hu]
theorem ev_fldw {s : TypeId} {x : Operand} {f b off m : Nat} (ho : o.op = .fieldAddr s x f) (hx : opv M x = some (.pointer (some ⟨b, off, none⟩)))
    (hf : ∀ w, (Instr.fieldAt s (.pointer (some ⟨b, off, none⟩)) f).run P w = .ok (.pointer (some ⟨b, m, none⟩)) w) : Ev P M o w (.pointer (some ⟨b, m, none⟩)) := fun a n h => by
  simp [execOp, ho, h.evo hx, hf]
theorem ev_idx {t e : TypeId} {x i : Operand} {b off sz m c k p : Nat} (ho : o.op = .indexAddr t x i) (hx : opv M x = some (.slice (some ⟨b, off, none⟩) m c)) (hi : opv M i = some (.int .i64 (k : Int)))
    (hu : P.underlying t = some (.slice e)) (hz : (P.info? e).map (·.size) = some sz) (hk : k < m) (hp : off + k * sz = p) : Ev P M o w (.pointer (some ⟨b, p, none⟩)) := fun a n h => by
  subst hp
  obtain ⟨d, hd, rfl⟩ := Option.map_eq_some_iff.1 hz
  simp [execOp, ho, h.evo hx, h.evo hi, Instr.indexAt, Sem.run_bind, run_underlying hu, asIntOf, hk, sizeOf, typeInfo, hd, add_lit]
theorem ev_loadm {ty : TypeId} {x : Operand} {b k : Nat} {C : Array Value} {d : TypeDesc} (ho : o.op = .load ty x) (hx : opv M x = some (.pointer (some ⟨b, k, none⟩))) (hc : Rng w b k C)
    (hu : P.underlying ty = some d) (hd : d.isRow = true) (hi : (P.info? ty).map (·.size) = some C.size) : Ev P M o w (.agg C) := fun a n h => by
  have := run_loadAt_mid (P := P) w b k ty C.toList d (fun j v hj => hc.2 j v (by simpa using hj)) hu hd (by simpa using hi)
  simp [execOp, ho, h.evo hx, this]
theorem ev_load1 {ty : TypeId} {x : Operand} {b k : Nat} (ho : o.op = .load ty x) (hx : opv M x = some (.pointer (some ⟨b, k, none⟩))) (hc : w.cell? ⟨b, k, none⟩ = some v)
    (hu : ∀ w, (isAgg ty).run P w = .ok false w) : Ev P M o w v := fun a n h => by
  simp only [execOp, ho, h.evo hx]
  simp [Instr.loadAt, Instr.sureAddr, loadVar, Sem.run_bind, hu, go_sem, hc]
theorem ev_bin {op : BinOp} {ty tr : TypeId} {x y : Operand} {vx vy : Value} (ho : o.op = .binOp op ty x y tr) (hx : opv M x = some vx) (hy : opv M y = some vy)
    (hg : ∀ w, (eqGuard op ty x y vx vy).run P w = .ok () w) (hr : ∀ w, (binOp op ty vx vy).run P w = .ok v w) : Ev P M o w v := fun a n h => by
  simp only [execOp, ho, h.evo hx, h.evo hy]
  simp [Sem.run_bind, hg, hr]
theorem ev_not {x : Operand} {ty : TypeId} {b c : Bool} (ho : o.op = .unOp .not ty x) (hx : opv M x = some (.bool b)) (hc : (!b) = c) : Ev P M o w (.bool c) := fun a n h => by
  subst hc
  simp only [execOp, ho, h.evo hx]
  simp [go_sem]
theorem Frm.cut0  (h : Frm a n M) : Frm a n [] := h.weak (fun p hp => absurd hp (by simp))
theorem Frm.cut1 {t1 : Nat} {v1 : Value} (h : Frm a n M) (h1 : lk M t1 = some v1) : Frm a n [(t1, v1)] := h.weak (by
  intro p hp
  simp only [List.mem_cons, List.not_mem_nil, or_false] at hp
  subst hp; exact h1)
theorem Frm.cut2 {t1 : Nat} {v1 : Value} {t2 : Nat} {v2 : Value} (h : Frm a n M) (h1 : lk M t1 = some v1) (h2 : lk M t2 = some v2) : Frm a n [(t1, v1), (t2, v2)] := h.weak (by
  intro p hp
  simp only [List.mem_cons, List.not_mem_nil, or_false] at hp
  rcases hp with rfl | rfl
  · exact h1
  · exact h2)
theorem Frm.cut3 {t1 : Nat} {v1 : Value} {t2 : Nat} {v2 : Value} {t3 : Nat} {v3 : Value} (h : Frm a n M) (h1 : lk M t1 = some v1) (h2 : lk M t2 = some v2) (h3 : lk M t3 = some v3) : Frm a n [(t1, v1), (t2, v2), (t3, v3)] := h.weak (by
  intro p hp
  simp only [List.mem_cons, List.not_mem_nil, or_false] at hp
  rcases hp with rfl | rfl | rfl
  · exact h1
  · exact h2
  · exact h3)
theorem Frm.cut4 {t1 : Nat} {v1 : Value} {t2 : Nat} {v2 : Value} {t3 : Nat} {v3 : Value} {t4 : Nat} {v4 : Value} (h : Frm a n M) (h1 : lk M t1 = some v1) (h2 : lk M t2 = some v2) (h3 : lk M t3 = some v3) (h4 : lk M t4 = some v4) : Frm a n [(t1, v1), (t2, v2), (t3, v3), (t4, v4)] := h.weak (by
  intro p hp
  simp only [List.mem_cons, List.not_mem_nil, or_false] at hp
  rcases hp with rfl | rfl | rfl | rfl
  · exact h1
  · exact h2
  · exact h3
  · exact h4)
theorem Frm.cut5 {t1 : Nat} {v1 : Value} {t2 : Nat} {v2 : Value} {t3 : Nat} {v3 : Value} {t4 : Nat} {v4 : Value} {t5 : Nat} {v5 : Value} (h : Frm a n M) (h1 : lk M t1 = some v1) (h2 : lk M t2 = some v2) (h3 : lk M t3 = some v3) (h4 : lk M t4 = some v4) (h5 : lk M t5 = some v5) : Frm a n [(t1, v1), (t2, v2), (t3, v3), (t4, v4), (t5, v5)] := h.weak (by
  intro p hp
  simp only [List.mem_cons, List.not_mem_nil, or_false] at hp
  rcases hp with rfl | rfl | rfl | rfl | rfl
  · exact h1
  · exact h2
  · exact h3
  · exact h4
  · exact h5)
theorem Frm.cut6 {t1 : Nat} {v1 : Value} {t2 : Nat} {v2 : Value} {t3 : Nat} {v3 : Value} {t4 : Nat} {v4 : Value} {t5 : Nat} {v5 : Value} {t6 : Nat} {v6 : Value} (h : Frm a n M) (h1 : lk M t1 = some v1) (h2 : lk M t2 = some v2) (h3 : lk M t3 = some v3) (h4 : lk M t4 = some v4) (h5 : lk M t5 = some v5) (h6 : lk M t6 = some v6) : Frm a n [(t1, v1), (t2, v2), (t3, v3), (t4, v4), (t5, v5), (t6, v6)] := h.weak (by
  intro p hp
  simp only [List.mem_cons, List.not_mem_nil, or_false] at hp
  rcases hp with rfl | rfl | rfl | rfl | rfl | rfl
  · exact h1
  · exact h2
  · exact h3
  · exact h4
  · exact h5
  · exact h6)
theorem Frm.cut7 {t1 : Nat} {v1 : Value} {t2 : Nat} {v2 : Value} {t3 : Nat} {v3 : Value} {t4 : Nat} {v4 : Value} {t5 : Nat} {v5 : Value} {t6 : Nat} {v6 : Value} {t7 : Nat} {v7 : Value} (h : Frm a n M) (h1 : lk M t1 = some v1) (h2 : lk M t2 = some v2) (h3 : lk M t3 = some v3) (h4 : lk M t4 = some v4) (h5 : lk M t5 = some v5) (h6 : lk M t6 = some v6) (h7 : lk M t7 = some v7) : Frm a n [(t1, v1), (t2, v2), (t3, v3), (t4, v4), (t5, v5), (t6, v6), (t7, v7)] := h.weak (by
  intro p hp
  simp only [List.mem_cons, List.not_mem_nil, or_false] at hp
  rcases hp with rfl | rfl | rfl | rfl | rfl | rfl | rfl
  · exact h1
  · exact h2
  · exact h3
  · exact h4
  · exact h5
  · exact h6
  · exact h7)
theorem Frm.cut8 {t1 : Nat} {v1 : Value} {t2 : Nat} {v2 : Value} {t3 : Nat} {v3 : Value} {t4 : Nat} {v4 : Value} {t5 : Nat} {v5 : Value} {t6 : Nat} {v6 : Value} {t7 : Nat} {v7 : Value} {t8 : Nat} {v8 : Value} (h : Frm a n M) (h1 : lk M t1 = some v1) (h2 : lk M t2 = some v2) (h3 : lk M t3 = some v3) (h4 : lk M t4 = some v4) (h5 : lk M t5 = some v5) (h6 : lk M t6 = some v6) (h7 : lk M t7 = some v7) (h8 : lk M t8 = some v8) : Frm a n [(t1, v1), (t2, v2), (t3, v3), (t4, v4), (t5, v5), (t6, v6), (t7, v7), (t8, v8)] := h.weak (by
  intro p hp
  simp only [List.mem_cons, List.not_mem_nil, or_false] at hp
  rcases hp with rfl | rfl | rfl | rfl | rfl | rfl | rfl | rfl
  · exact h1
  · exact h2
  · exact h3
  · exact h4
  · exact h5
  · exact h6
  · exact h7
  · exact h8)
theorem Frm.cut9 {t1 : Nat} {v1 : Value} {t2 : Nat} {v2 : Value} {t3 : Nat} {v3 : Value} {t4 : Nat} {v4 : Value} {t5 : Nat} {v5 : Value} {t6 : Nat} {v6 : Value} {t7 : Nat} {v7 : Value} {t8 : Nat} {v8 : Value} {t9 : Nat} {v9 : Value} (h : Frm a n M) (h1 : lk M t1 = some v1) (h2 : lk M t2 = some v2) (h3 : lk M t3 = some v3) (h4 : lk M t4 = some v4) (h5 : lk M t5 = some v5) (h6 : lk M t6 = some v6) (h7 : lk M t7 = some v7) (h8 : lk M t8 = some v8) (h9 : lk M t9 = some v9) : Frm a n [(t1, v1), (t2, v2), (t3, v3), (t4, v4), (t5, v5), (t6, v6), (t7, v7), (t8, v8), (t9, v9)] := h.weak (by
  intro p hp
  simp only [List.mem_cons, List.not_mem_nil, or_false] at hp
  rcases hp with rfl | rfl | rfl | rfl | rfl | rfl | rfl | rfl | rfl
  · exact h1
  · exact h2
  · exact h3
  · exact h4
  · exact h5
  · exact h6
  · exact h7
  · exact h8
  · exact h9)
theorem Frm.cut10 {t1 : Nat} {v1 : Value} {t2 : Nat} {v2 : Value} {t3 : Nat} {v3 : Value} {t4 : Nat} {v4 : Value} {t5 : Nat} {v5 : Value} {t6 : Nat} {v6 : Value} {t7 : Nat} {v7 : Value} {t8 : Nat} {v8 : Value} {t9 : Nat} {v9 : Value} {t10 : Nat} {v10 : Value} (h : Frm a n M) (h1 : lk M t1 = some v1) (h2 : lk M t2 = some v2) (h3 : lk M t3 = some v3) (h4 : lk M t4 = some v4) (h5 : lk M t5 = some v5) (h6 : lk M t6 = some v6) (h7 : lk M t7 = some v7) (h8 : lk M t8 = some v8) (h9 : lk M t9 = some v9) (h10 : lk M t10 = some v10) : Frm a n [(t1, v1), (t2, v2), (t3, v3), (t4, v4), (t5, v5), (t6, v6), (t7, v7), (t8, v8), (t9, v9), (t10, v10)] := h.weak (by
  intro p hp
  simp only [List.mem_cons, List.not_mem_nil, or_false] at hp
  rcases hp with rfl | rfl | rfl | rfl | rfl | rfl | rfl | rfl | rfl | rfl
  · exact h1
  · exact h2
  · exact h3
  · exact h4
  · exact h5
  · exact h6
  · exact h7
  · exact h8
  · exact h9
  · exact h10)
theorem Frm.cut11 {t1 : Nat} {v1 : Value} {t2 : Nat} {v2 : Value} {t3 : Nat} {v3 : Value} {t4 : Nat} {v4 : Value} {t5 : Nat} {v5 : Value} {t6 : Nat} {v6 : Value} {t7 : Nat} {v7 : Value} {t8 : Nat} {v8 : Value} {t9 : Nat} {v9 : Value} {t10 : Nat} {v10 : Value} {t11 : Nat} {v11 : Value} (h : Frm a n M) (h1 : lk M t1 = some v1) (h2 : lk M t2 = some v2) (h3 : lk M t3 = some v3) (h4 : lk M t4 = some v4) (h5 : lk M t5 = some v5) (h6 : lk M t6 = some v6) (h7 : lk M t7 = some v7) (h8 : lk M t8 = some v8) (h9 : lk M t9 = some v9) (h10 : lk M t10 = some v10) (h11 : lk M t11 = some v11) : Frm a n [(t1, v1), (t2, v2), (t3, v3), (t4, v4), (t5, v5), (t6, v6), (t7, v7), (t8, v8), (t9, v9), (t10, v10), (t11, v11)] := h.weak (by
  intro p hp
  simp only [List.mem_cons, List.not_mem_nil, or_false] at hp
  rcases hp with rfl | rfl | rfl | rfl | rfl | rfl | rfl | rfl | rfl | rfl | rfl
  · exact h1
  · exact h2
  · exact h3
  · exact h4
  · exact h5
  · exact h6
  · exact h7
  · exact h8
  · exact h9
  · exact h10
  · exact h11)
theorem Frm.cut12 {t1 : Nat} {v1 : Value} {t2 : Nat} {v2 : Value} {t3 : Nat} {v3 : Value} {t4 : Nat} {v4 : Value} {t5 : Nat} {v5 : Value} {t6 : Nat} {v6 : Value} {t7 : Nat} {v7 : Value} {t8 : Nat} {v8 : Value} {t9 : Nat} {v9 : Value} {t10 : Nat} {v10 : Value} {t11 : Nat} {v11 : Value} {t12 : Nat} {v12 : Value} (h : Frm a n M) (h1 : lk M t1 = some v1) (h2 : lk M t2 = some v2) (h3 : lk M t3 = some v3) (h4 : lk M t4 = some v4) (h5 : lk M t5 = some v5) (h6 : lk M t6 = some v6) (h7 : lk M t7 = some v7) (h8 : lk M t8 = some v8) (h9 : lk M t9 = some v9) (h10 : lk M t10 = some v10) (h11 : lk M t11 = some v11) (h12 : lk M t12 = some v12) : Frm a n [(t1, v1), (t2, v2), (t3, v3), (t4, v4), (t5, v5), (t6, v6), (t7, v7), (t8, v8), (t9, v9), (t10, v10), (t11, v11), (t12, v12)] := h.weak (by
  intro p hp
  simp only [List.mem_cons, List.not_mem_nil, or_false] at hp
  rcases hp with rfl | rfl | rfl | rfl | rfl | rfl | rfl | rfl | rfl | rfl | rfl | rfl
  · exact h1
  · exact h2
  · exact h3
  · exact h4
  · exact h5
  · exact h6
  · exact h7
  · exact h8
  · exact h9
  · exact h10
  · exact h11
  · exact h12)
theorem isAgg_no {ty : TypeId} {d : TypeDesc} (hu : P.underlying ty = some d) (hd : d.isRow = false) (w : World) : (isAgg ty).run P w = .ok false w := by
  unfold isAgg
  rw [Sem.run_bind, run_underlying hu w]
  cases d <;> simp_all
theorem g_int {op : BinOp} {ty : TypeId} {x y : Operand} {k : IntKind} {p q : Int} (w : World) : (eqGuard op ty x y (.int k p) (.int k q)).run P w = .ok () w := by
  simp [eqGuard, go_sem]
theorem b_lss {ty : TypeId} {p q : Int} {b : Bool} (hb : decide (p < q) = b) (w : World) : (binOp .lss ty (.int .i64 p) (.int .i64 q)).run P w = .ok (.bool b) w := by
  subst hb; simp [go_sem]
theorem b_leq {ty : TypeId} {p q : Int} {b : Bool} (hb : decide (p ≤ q) = b) (w : World) : (binOp .leq ty (.int .i64 p) (.int .i64 q)).run P w = .ok (.bool b) w := by
  subst hb; simp [go_sem]
theorem b_gtr {ty : TypeId} {p q : Int} {b : Bool} (hb : decide (q < p) = b) (w : World) : (binOp .gtr ty (.int .i64 p) (.int .i64 q)).run P w = .ok (.bool b) w := by
  subst hb; simp [go_sem]
theorem b_eql {ty : TypeId} {p q : Int} {b : Bool} (hb : decide (p = q) = b) (w : World) : (binOp .eql ty (.int .i64 p) (.int .i64 q)).run P w = .ok (.bool b) w := by
  subst hb; simp [go_sem, Bool.beq_eq_decide_eq]
theorem b_neq {ty : TypeId} {p q : Int} {b : Bool} (hb : decide (p ≠ q) = b) (w : World) : (binOp .neq ty (.int .i64 p) (.int .i64 q)).run P w = .ok (.bool b) w := by
  subst hb; simp [go_sem, bne, Bool.beq_eq_decide_eq]
theorem b_add {ty : TypeId} {p q r : Int} (hr : p + q = r) (h : -9223372036854775808 ≤ r ∧ r ≤ 9223372036854775807) (w : World) : (binOp .add ty (.int .i64 p) (.int .i64 q)).run P w = .ok (.int .i64 r) w := by
  subst hr
  have : IntKind.i64.wrap (p + q) = p + q := by rw [IntKind.wrap_i64]; omega
  simp [go_sem, this]
theorem b_sub {ty : TypeId} {p q r : Int} (hr : p - q = r) (h : -9223372036854775808 ≤ r ∧ r ≤ 9223372036854775807) (w : World) : (binOp .sub ty (.int .i64 p) (.int .i64 q)).run P w = .ok (.int .i64 r) w := by
  subst hr
  have : IntKind.i64.wrap (p - q) = p - q := by rw [IntKind.wrap_i64]; omega
  simp [go_sem, this]
end

section
variable {P : Program} {a : Act} {n : Nat} {M M' : List (Nat × Value)} {ops : Array Oper} {o : Oper} {w w' : World} {v : Value} {Q : Exit → Act → World → Prop} {K : Act → World → Prop} {rest : List Oper}
theorem region_then {id : Nat} {l : List Oper} {B : Code} (h : ∀ (K : Act → World → Prop) (Q' : Exit → Act → World → Prop), (∀ a' w', B.wp P Q a' w' → K a' w') → wpSeg P l.toArray Q' K l a w) : ((Code.region id l.toArray false).seq B).wp P Q a w := by
  refine wp_seq (wp_region_lit ?_)
  have := wpSeg_eq (P := P) (ops := l.toArray) (Q := Exit.then (fun a w => B.wp P Q a w) Q) l []
  rw [List.append_nil] at this
  rw [this]
  exact h _ _ (fun a' w' hB => hB)
theorem region_last {id : Nat} {l : List Oper} (h : ∀ (K : Act → World → Prop) (Q' : Exit → Act → World → Prop), (∀ a' w', Q .normal a' w' → K a' w') → wpSeg P l.toArray Q' K l a w) : (Code.region id l.toArray false).wp P Q a w := by
  refine wp_region_lit ?_
  have := wpSeg_eq (P := P) (ops := l.toArray) (Q := Q) l []
  rw [List.append_nil] at this
  rw [this]
  exact h _ _ (fun a' w' hB => hB)
theorem s_val {d : Nat} (hM : Frm a n M) (hw : Want ops M o) (hd : o.dst = some d) (hn : Nat.blt d n = true) (hr : Ev P M o w v)
    (h : ∀ a', Frm a' n ((d, v) :: M) → wpSeg P ops Q K rest a' w) : wpSeg P ops Q K (o :: rest) a w := by
  unfold wpSeg
  rw [if_pos (hw.is hM)]
  refine .inl ?_
  unfold Oper.wp
  rw [hr _ _ hM, Oper.upon_value, hd]
  exact h _ (hM.put (Nat.le_of_ble_eq_true hn) v)
theorem s_skip {d j dj : Nat} {b c : Bool} (hM : Frm a n M) (hg : o.guard = some (j, b)) (hj : (ops[j]?).bind (·.dst) = some dj) (hl : lk M dj = some (.bool c)) (hc : c = !b) (hd : o.dst = some d) (hn : Nat.blt d n = true)
    (h : ∀ a', Frm a' n ((d, undef) :: M) → wpSeg P ops Q K rest a' w) : wpSeg P ops Q K (o :: rest) a w := seg_skip hM hd (Nat.le_of_ble_eq_true hn) hg hj hl hc h
theorem Frm.yieldu {j d : Nat} (h : Frm a n M) (hj : (ops[j]?).bind (·.dst) = some d) (hl : lk M d = some undef) : yielded ops a.tmps j = none := by
  unfold yielded
  rw [hj]
  simp [h.at_ hl, undef]
theorem s_skipu {d j dj : Nat} {b : Bool} (hM : Frm a n M) (hg : o.guard = some (j, b)) (hj : (ops[j]?).bind (·.dst) = some dj) (hl : lk M dj = some undef) (hd : o.dst = some d) (hn : Nat.blt d n = true)
    (h : ∀ a', Frm a' n ((d, undef) :: M) → wpSeg P ops Q K rest a' w) : wpSeg P ops Q K (o :: rest) a w := by
  unfold wpSeg
  rw [if_neg (by simp [Region.wanted, hg, hM.yieldu hj hl]), hd]
  exact h _ (hM.put (Nat.le_of_ble_eq_true hn) undef)
theorem s_call {d : Nat} {f : FuncId} {args : Array Value} {Post : Ending → World → Prop} (hM : Frm a n M) (hw : Want ops M o) (hd : o.dst = some d) (hn : Nat.blt d n = true) (hr : (execOp a.eval o).run P w = .ok (.enter f args) w)
    (hc : Calls P f args w Post) (h : ∀ e w', Post e w' → ∃ v, e = .returned v ∧ ∀ a', Frm a' n ((d, v) :: M) → wpSeg P ops Q K rest a' w') : wpSeg P ops Q K (o :: rest) a w := by
  unfold wpSeg
  rw [if_pos (hw.is hM)]
  refine .inl ?_
  unfold Oper.wp
  rw [hr, Oper.upon_enter]
  refine hc.mono ?_
  intro e w' hp
  obtain ⟨v, rfl, hk⟩ := h e w' hp
  simp only [hd]
  exact hk _ (hM.put (Nat.le_of_ble_eq_true hn) v)
/-- A new block, at once written whole. -/
theorem s_new {o2 : Oper} {d : Nat} {T : TypeId} {x : Operand} {C Z : Array Value} (hM : Frm a n M) (hg : o.guard = none) (hd : o.dst = some d) (hn : Nat.blt d n = true) (ho : o.op = .alloc T)
    (hz : ∀ w, (Instr.alloc T true (.tuple #[])).run P w = .ok (.pointer (some ⟨w.heap.size, 0, none⟩)) (w.alloc (.cells Z T))) (hg2 : o2.guard = none) (hd2 : o2.dst = none) (ho2 : o2.op = .store T (.tmp d) x)
    (hx : opv ((d, .pointer (some ⟨w.heap.size, 0, none⟩)) :: M) x = some (.agg C)) (hi : (P.info? T).map (·.size) = some C.size) (hs : Z.size = C.size) (h1 : ∀ u ∈ C.toList, u.oneCell' = true)
    (h : ∀ g a' w', Frm a' n ((d, .pointer (some ⟨g, 0, none⟩)) :: M) → Blk w' g T C → Below w.heap.size w w' → w.heap.size ≤ g → wpSeg P ops Q K rest a' w') : wpSeg P ops Q K (o :: o2 :: rest) a w := by
  unfold wpSeg
  rw [if_pos (by simp [Region.wanted, hg])]
  refine .inl ?_
  unfold Oper.wp
  have hr : (execOp a.eval o).run P w = .ok (.value (.pointer (some ⟨w.heap.size, 0, none⟩))) (w.alloc (.cells Z T)) := by
    simp only [execOp, ho]
    simp [Sem.run_bind, hz]
  rw [hr, Oper.upon_value, hd]
  have hM2 := hM.put (Nat.le_of_ble_eq_true hn) (.pointer (some ⟨w.heap.size, 0, none⟩))
  unfold wpSeg
  rw [if_pos (by simp [Region.wanted, hg2])]
  refine .inl (wp_store_row T (.tmp d) x ho2 w.heap.size (hM2.evo (x := .tmp d) (by simp [opv, lk])) T Z (.agg C) (hM2.evo hx) (Blk.new w T Z) hi hs h1 fun w' q1 q2 => ?_)
  rw [hd2]
  refine h w.heap.size _ w' hM2 q1 ?_ (Nat.le_refl _)
  exact (below_alloc_ w _).grown q2 (by simp) (fun g e => by injection e with e; omega)
/-- One cell of a block written. -/
theorem s_put {T : TypeId} {x y : Operand} {g k : Nat} {t : TypeId} {cs : Array Value} (hM : Frm a n M) (hg : o.guard = none) (hd : o.dst = none) (ho : o.op = .store T x y) (hx : opv M x = some (.pointer (some ⟨g, k, none⟩))) (hy : opv M y = some v)
    (hb : Blk w g t cs) (hk : k < cs.size) (hst : ∀ w, (w.cell? ⟨g, k, none⟩).isSome = true → w.frozen? ⟨g, k, none⟩ = false → (Instr.storeAt T (.pointer (some ⟨g, k, none⟩)) v).run P w = .ok () (w.setCell ⟨g, k, none⟩ v))
    (h : ∀ w', Blk w' g t (cs.setIfInBounds k v) → w.grownBy w' (some g) → wpSeg P ops Q K rest a w') : wpSeg P ops Q K (o :: rest) a w := by
  unfold wpSeg
  rw [if_pos (by simp [Region.wanted, hg])]
  refine .inl ?_
  have hr : (execOp a.eval o).run P w = .ok .skip (w.setCell ⟨g, k, none⟩ v) := by
    simp only [execOp, ho, hM.evo hx, hM.evo hy]
    simp [Sem.run_bind, hst w (by rw [hb.cell]; simp [hk]) (hb.frozen k)]
  unfold Oper.wp
  rw [hr]
  show wpSeg P ops Q K rest (a.put o.dst _) _
  rw [hd]
  exact h _ (hb.set_ k v) (grown_set_ w g k v)
theorem st_int {T : TypeId} {g k : Nat} {z : Int} (hu : P.underlying T = some (.int .i64)) (hz : (P.info? T).map (·.size) = some 1) (w : World) (h1 : (w.cell? ⟨g, k, none⟩).isSome = true) (h2 : w.frozen? ⟨g, k, none⟩ = false) :
    (Instr.storeAt T (.pointer (some ⟨g, k, none⟩)) (.int .i64 z)).run P w = .ok () (w.setCell ⟨g, k, none⟩ (.int .i64 z)) := by
  obtain ⟨u, hu'⟩ := Option.isSome_iff_exists.1 h1
  obtain ⟨i, hi, hi1⟩ := Option.map_eq_some_iff.1 hz
  simp [Instr.storeAt, Instr.sureAddr, storeVar, sizeOf, typeInfo, Sem.run_bind, hi, hi1, go_sem, hu', h2]
theorem inb_n {id : Nat} (h : Q .normal a w) : Exit.inBlock id Q .normal a w := h
theorem th_e {id : Nat} {K : Act → World → Prop} (h : Q (.exit id) a w) : Exit.then K Q (.exit id) a w := h
theorem inb_e {id : Nat} (h : Q .normal a w) : Exit.inBlock id Q (.exit id) a w := by simp [Exit.inBlock, h]
/-- A new block. -/
theorem s_alloc {d : Nat} {C : Array Value} {e : TypeId} {V : Nat → Value} (hM : Frm a n M) (hw : Want ops M o) (hd : o.dst = some d) (hn : Nat.blt d n = true) (hr : (execOp a.eval o).run P w = .ok (.value (V w.heap.size)) (w.alloc (.cells C e)))
    (h : ∀ g a' w', Frm a' n ((d, V g) :: M) → Blk w' g e C → Below w.heap.size w w' → w.heap.size ≤ g → wpSeg P ops Q K rest a' w') : wpSeg P ops Q K (o :: rest) a w := by
  unfold wpSeg
  rw [if_pos (hw.is hM)]
  refine .inl ?_
  unfold Oper.wp
  rw [hr, Oper.upon_value, hd]
  exact h _ _ _ (hM.put (Nat.le_of_ble_eq_true hn) _) (Blk.new w e C) (below_alloc_ w _) (Nat.le_refl _)
theorem s_append {d : Nat} {s x : Operand} {t : TypeId} (hM : Frm a n M) (hw : Want ops M o) (hd : o.dst = some d) (hn : Nat.blt d n = true) (ho : o.op = .call { callee := .builtin .append, args := #[s, x], argTypes := #[t, t] })
    (base : Nat) (e : TypeId) (i : TypeInfo) (z : Value) (size bytes : Nat) (ht : P.underlying t = some (.slice e)) (hi : P.info? e = some i) (hz : i.zero = some z) (hsize : i.size = size) (hby : i.bytes = bytes) (hzs : z.cells.size = size) (hsz : 0 < size)
    (m : Nat) (xs : List Value) (hs : opv M s = some v) (hown : w.ownsRow base e size v m xs) (ad : Addr) (k c : Nat) (news : List Value) (hx : opv M x = some (.slice (some ad) k c)) (hl : news.length = k * size)
    (hnews : ∀ j u, news[j]? = some u → w.cell? (ad.add j) = some u) (h1 : ∀ u ∈ news, u.oneCell' = true) (h63 : m + k ≤ maxLen) (hbytes : (m + k) * bytes ≤ 140737488355328) (hbase : base ≤ w.heap.size)
    (h : ∀ v' a' w', Frm a' n ((d, v') :: M) → w'.ownsRow base e size v' (m + k) (xs ++ news) → w.grownBy w' v.ownBlock → (v'.ownBlock = v.ownBlock ∨ v'.ownBlock = some w.heap.size) → wpSeg P ops Q K rest a' w') : wpSeg P ops Q K (o :: rest) a w := by
  obtain ⟨v', w', hr, h2, h3, _, h5⟩ := run_append_own_at (P := P) w base t o.type e i z size bytes ht hi hz hsize hby hzs hsz v m xs hown ad k c news hl hnews h1 h63 hbytes hbase
  have hrun : (execOp a.eval o).run P w = .ok (.value v') w' := by
    unfold execOp
    simp only [ho, resolve, invoke, builtin, Sem.run_bind, Sem.run_pure, Result.andThen_ok, List.map_toArray, List.map_cons, List.map_nil, hM.evo hs, hM.evo hx, hr]
  unfold wpSeg
  rw [if_pos (hw.is hM)]
  refine .inl ?_
  unfold Oper.wp
  rw [hrun, Oper.upon_value, hd]
  exact h _ _ _ (hM.put (Nat.le_of_ble_eq_true hn) _) h2 h3 h5
theorem st_slice {T e : TypeId} {g k m c : Nat} {A : Option Addr} (hu : P.underlying T = some (.slice e)) (hz : (P.info? T).map (·.size) = some 1) (w : World) (h1 : (w.cell? ⟨g, k, none⟩).isSome = true) (h2 : w.frozen? ⟨g, k, none⟩ = false) :
    (Instr.storeAt T (.pointer (some ⟨g, k, none⟩)) (.slice A m c)).run P w = .ok () (w.setCell ⟨g, k, none⟩ (.slice A m c)) := by
  obtain ⟨u, hu'⟩ := Option.isSome_iff_exists.1 h1
  obtain ⟨i, hi, hi1⟩ := Option.map_eq_some_iff.1 hz
  simp [Instr.storeAt, Instr.sureAddr, storeVar, sizeOf, typeInfo, Sem.run_bind, hi, hi1, go_sem, hu', h2]
theorem ev_bslice1 {t e : TypeId} {z : Value} (hM : Frm a n M) (ho : o.op = .buildSlice t 1 #[(0, .const z)]) (hr : ∀ w, (Instr.buildSlice t 1 #[(0, z)]).run P w = .ok (.slice (some ⟨w.heap.size, 0, none⟩) 1 1) (w.alloc (.cells #[z] e))) :
    (execOp a.eval o).run P w = .ok (.value ((fun g => Value.slice (some ⟨g, 0, none⟩) 1 1) w.heap.size)) (w.alloc (.cells #[z] e)) := by
  have e2 : (#[(0, Operand.const z)] : Array (Nat × Operand)).map (fun (i, x) => (i, a.eval x)) = #[(0, z)] := by simp; rfl
  simp only [execOp, ho, e2]
  simp [Sem.run_bind, hr]
end
section
variable {P : Program} {a : Act} {n : Nat} {M M' : List (Nat × Value)} {ops : Array Oper} {o : Oper} {W : World} {v : Value} {Q : Act → Prop} {rest : List Oper}
end
end Go.Proofs.Ytebaojcfmkobjaa
/-
  Regions that draw their order, over frames known by facts, with calls that make memory: what only reads is taken first, a call when it is the only one left to come up. Over any program.
-/
namespace Go.Proofs.Ytebaojcfmkobjaa
open Go.RowKit

def OnlyN (K : Act → World → Prop) (e : Exit) (a : Act) (w : World) : Prop := e = .normal ∧ K a w
section
variable {P : Program} {a : Act} {n : Nat} {M M' : List (Nat × Value)} {ops : Array Oper} {o : Oper} {w w' W : World} {v : Value} {K : Act → World → Prop} {S : World → Prop} {fuel i : Nat} {listed : Array Bool}
theorem h_open {id : Nat} {Q : Exit → Act → World → Prop} {l : List Oper} {B : Code} (N : Nat) (hN : l.length = N) (hm : P.follows .mixedOrders = true)
    (h : ∀ (K : Act → World → Prop) (w1 : World), Below W.heap.size W w1 → (∀ a' w', B.wp P Q a' w' → K a' w') → wpAnyH P .any l.toArray (OnlyN K) (Below w1.heap.size w1) N (Array.replicate N false) a w1) : ((Code.region id l.toArray true).seq B).wp P Q a W := by
  subst hN
  refine wp_seq (wp_mono (Q := OnlyN fun a w => B.wp P Q a w) (wp_region_held (S := Below W.drew.heap.size W.drew) hm ?_) ?_)
  · simpa using h _ W.drew (Below.refl _ W).drew (fun _ _ h => h)
  · rintro e a' w' ⟨rfl, h⟩
    exact h
theorem h_val {d : Nat} (i : Nat) (hi : ops[i]? = some o) (hs : Region.noSelect ops = true) (hf : Region.free .any ops listed i = true) (hr : (Region.ready .any ops listed).contains i = true) (hM : Frm a n M) (hw : Want ops M o) (hd : o.dst = some d) (hn : Nat.blt d n = true)
    (hS : S w) (hy : ∀ w', S w' → Ev P M o w' v) (h : ∀ a', Frm a' n ((d, v) :: M) → wpAnyH P .any ops (OnlyN K) S fuel (listed.setIfInBounds i true) a' w) : wpAnyH P .any ops (OnlyN K) S (fuel + 1) listed a w := by
  refine wpAnyH_take hi hs hf hr ?_ (.inl ⟨hw.is hM, fun w' h' => hy w' h' _ _ hM⟩) hS ?_
  · rintro c a w ⟨h, _⟩; cases h
  · rw [hd]; exact h _ (hM.put (Nat.le_of_ble_eq_true hn) v)
theorem h_op_call {d : Nat} {f : FuncId} {args : Array Value} {Post : Ending → World → Prop} {K' : Act → World → Prop} {Q : Exit → Act → World → Prop} (hi : ops[i]? = some o) (hM : Frm a n M) (hw : Want ops M o) (hd : o.dst = some d) (hn : Nat.blt d n = true) (hr : (execOp a.eval o).run P w = .ok (.enter f args) w)
    (hc : Calls P f args w Post) (h : ∀ e w', Post e w' → ∃ v, e = .returned v ∧ ∀ a', Frm a' n ((d, v) :: M) → K' a' w') : wpOp P ops Q i K' a w := by
  unfold wpOp
  rw [hi]
  show (if Region.wanted o (yielded ops a.tmps) then _ else _)
  rw [if_pos (hw.is hM)]
  refine .inl ?_
  unfold Oper.wp
  rw [hr, Oper.upon_enter]
  refine hc.mono ?_
  intro e w' hp
  obtain ⟨v, rfl, hk⟩ := h e w' hp
  simp only [hd]
  exact hk _ (hM.put (Nat.le_of_ble_eq_true hn) v)
theorem h_call {d : Nat} {f : FuncId} {args : Array Value} {Post : Ending → World → Prop} (i : Nat) (hi : ops[i]? = some o) (hrs : Region.ready .any ops listed = [i]) (hM : Frm a n M) (hw : Want ops M o) (hd : o.dst = some d) (hn : Nat.blt d n = true) (hr : (execOp a.eval o).run P w = .ok (.enter f args) w)
    (hc : Calls P f args w Post) (h : ∀ e w', Post e w' → ∃ v, e = .returned v ∧ ∀ a', Frm a' n ((d, v) :: M) → S w' ∧ wpAnyH P .any ops (OnlyN K) S fuel (listed.setIfInBounds i true) a' w') : wpAnyH P .any ops (OnlyN K) S (fuel + 1) listed a w :=
  wpAnyH_all hrs (by simp) (fun j hj => by
    obtain rfl : j = i := by simpa using hj
    exact h_op_call hi hM hw hd hn hr hc h)
theorem h_nil (hr : Region.ready .any ops listed = []) (h : K a w) : wpAnyH P .any ops (OnlyN K) S fuel listed a w := wpAnyH_done hr ⟨rfl, h⟩ fuel
theorem s_in {w w1 : World} (h : Below w1.heap.size w1 w) (h' : Below w.heap.size w w') : Below w1.heap.size w1 w' := h.trans (h'.mono h.size)
end
end Go.Proofs.Ytebaojcfmkobjaa
/-
  Numbers as bytes, seven bits each, the last byte below 128 and not 0 behind another: plain facts, over no program.
-/
namespace Go.Proofs.Ytebaojcfmkobjaa

/-- A number's bytes. -/
def enc (n : Nat) : List UInt8 := if n < 128 then [UInt8.ofNat n] else UInt8.ofNat (n % 128 + 128) :: enc (n / 128)
termination_by n
decreasing_by omega

theorem enc_lt {n : Nat} (h : n < 128) : enc n = [UInt8.ofNat n] := by rw [enc, if_pos h]
theorem enc_ge {n : Nat} (h : 128 ≤ n) : enc n = UInt8.ofNat (n % 128 + 128) :: enc (n / 128) := by rw [enc, if_neg (by omega)]

/-- The number with whose bytes a list begins, and how many they are; of at most f bytes. -/
def dec : Nat → List UInt8 → Option (Nat × Nat)
  | 0, _ => none
  | _ + 1, [] => none
  | f + 1, c :: r => if c.toNat < 128 then some (c.toNat, 1) else
    match dec f r with
    | some (n, k) => if n = 0 then none else some (c.toNat % 128 + 128 * n, k + 1)
    | none => none

theorem enc_pos (n : Nat) : 0 < (enc n).length := by
  by_cases h : n < 128
  · rw [enc_lt h]; simp
  · rw [enc_ge (by omega)]; simp

theorem enc_len_le (k : Nat) : ∀ n, n < 128 ^ (k + 1) → (enc n).length ≤ k + 1 := by
  induction k with
  | zero => intro n h; rw [enc_lt (by simpa using h)]; simp
  | succ k ih =>
    intro n h
    by_cases h1 : n < 128
    · rw [enc_lt h1]; simp
    · rw [enc_ge (by omega), List.length_cons]
      have := ih (n / 128) (by rw [Nat.pow_succ] at h; omega)
      omega
theorem enc_len_63 {n : Nat} (h : n < 9223372036854775808) : (enc n).length ≤ 9 := enc_len_le 8 n (Nat.lt_of_lt_of_eq h (by decide))

theorem toNat_low {n : Nat} (h : n < 128) : (UInt8.ofNat n).toNat = n := by rw [UInt8.toNat_ofNat']; omega
theorem toNat_high (n : Nat) : (UInt8.ofNat (n % 128 + 128)).toNat = n % 128 + 128 := by rw [UInt8.toNat_ofNat']; omega

theorem dec_enc (f : Nat) : ∀ (n : Nat) (r : List UInt8), n < 128 ^ f → 0 < f → dec f (enc n ++ r) = some (n, (enc n).length) := by
  induction f with
  | zero => intro n r _ h; omega
  | succ f ih =>
    intro n r h _
    by_cases h1 : n < 128
    · rw [enc_lt h1]
      simp only [List.cons_append, List.nil_append, dec, toNat_low h1, if_pos h1]
      rfl
    · rw [enc_ge (by omega)]
      have hf : 0 < f := by
        rcases Nat.eq_zero_or_pos f with rfl | hf
        · simp at h; omega
        · exact hf
      have := ih (n / 128) r (by rw [Nat.pow_succ] at h; omega) hf
      simp only [List.cons_append, dec, toNat_high, this, if_neg (show ¬ n % 128 + 128 < 128 by omega), if_neg (show ¬ n / 128 = 0 by omega), List.length_cons]
      congr 2
      omega

theorem ofNat_eq {c : UInt8} {n : Nat} (h : c.toNat = n) : UInt8.ofNat n = c := by subst h; simp

theorem dec_some (f : Nat) : ∀ (bs : List UInt8) (n k : Nat), dec f bs = some (n, k) → n < 128 ^ f ∧ k = (enc n).length ∧ ∃ r, bs = enc n ++ r := by
  induction f with
  | zero => intro bs n k h; cases h
  | succ f ih =>
    intro bs n k h
    cases bs with
    | nil => cases h
    | cons c r =>
      have hc : c.toNat < 256 := c.toNat_lt
      unfold dec at h
      by_cases h1 : c.toNat < 128
      · rw [if_pos h1] at h
        injection h with h
        injection h with e1 e2
        subst e1; subst e2
        have hp : 1 ≤ 128 ^ f := Nat.one_le_pow _ _ (by omega)
        refine ⟨by rw [Nat.pow_succ]; omega, by rw [enc_lt h1]; rfl, r, ?_⟩
        rw [enc_lt h1, ofNat_eq rfl]; rfl
      · rw [if_neg h1] at h
        cases hd : dec f r with
        | none => rw [hd] at h; cases h
        | some p =>
          obtain ⟨m, j⟩ := p
          rw [hd] at h
          simp only at h
          by_cases hm : m = 0
          · rw [if_pos hm] at h; cases h
          · rw [if_neg hm] at h
            injection h with h
            injection h with e1 e2
            subst e1; subst e2
            obtain ⟨g1, g2, r', rfl⟩ := ih r m j hd
            have e : enc (c.toNat % 128 + 128 * m) = c :: enc m := by
              rw [enc_ge (by omega)]
              have a1 : (c.toNat % 128 + 128 * m) / 128 = m := by omega
              have a2 : (c.toNat % 128 + 128 * m) % 128 + 128 = c.toNat := by omega
              rw [a1, a2, ofNat_eq rfl]
            refine ⟨by rw [Nat.pow_succ]; omega, by rw [e, g2]; rfl, r', by rw [e]; rfl⟩

/-- Reading from the i-th byte on, with what has been read till there. -/
def cont (i acc : Nat) : Option (Nat × Nat) → Option (Nat × Nat)
  | some (m, k) => if 0 < i ∧ m = 0 then none else some (acc + 128 ^ i * m, i + k)
  | none => none
theorem cont_zero (o : Option (Nat × Nat)) : cont 0 0 o = o := by
  cases o with
  | none => rfl
  | some p => obtain ⟨m, k⟩ := p; simp [cont]
theorem dec_cons (f : Nat) (c : UInt8) (r : List UInt8) : dec (f + 1) (c :: r) = if c.toNat < 128 then some (c.toNat, 1) else
    match dec f r with
    | some (n, k) => if n = 0 then none else some (c.toNat % 128 + 128 * n, k + 1)
    | none => none := rfl
theorem cont_next {i acc f : Nat} {c : UInt8} {r : List UInt8} (h : 128 ≤ c.toNat) : cont i acc (dec (f + 1) (c :: r)) = cont (i + 1) (acc + 128 ^ i * (c.toNat % 128)) (dec f r) := by
  rw [dec_cons, if_neg (by omega)]
  cases dec f r with
  | none => rfl
  | some p =>
    obtain ⟨m, k⟩ := p
    simp only
    by_cases hm : m = 0
    · simp [hm, cont]
    · rw [if_neg hm]
      simp only [cont]
      rw [if_neg (by omega), if_neg (by omega)]
      congr 2
      · rw [Nat.mul_add, Nat.pow_succ, ← Nat.mul_assoc, Nat.add_assoc]
      · omega
theorem cont_last {i acc f : Nat} {c : UInt8} {r : List UInt8} (h : c.toNat < 128) : cont i acc (dec (f + 1) (c :: r)) = if 0 < i ∧ c.toNat = 0 then none else some (acc + 128 ^ i * c.toNat, i + 1) := by
  rw [dec_cons, if_pos h]
  rfl
theorem dec_end (f : Nat) : dec f [] = none := by cases f <;> rfl
end Go.Proofs.Ytebaojcfmkobjaa
/-
  Contracts of the wire's numbers and of the reference's: which bytes a number has, which number bytes begin with: for every input.
-/
namespace Go.Proofs.Ytebaojcfmkobjaa
open Go.RowKit

theorem Try.infoByte : (Try.prog.info? 5).map (fun i => (i.zero, i.size, i.bytes)) = some (some (.int .u8 0), 1, 1) := by kernel_rfl
theorem bytes8_snoc (xs : List UInt8) (c : UInt8) : bytes8 xs ++ [.int .u8 (c.toNat : Int)] = bytes8 (xs ++ [c]) := by simp [bytes8]
theorem bytes8_append (xs ys : List UInt8) : bytes8 (xs ++ ys) = bytes8 xs ++ bytes8 ys := by simp [bytes8]

theorem or_all : ∀ a : Fin 256, bits BinOp.or IntKind.u8 ((a.val : Nat) : Int) 128 = ((a.val % 128 + 128 : Nat) : Int) := by decide +kernel
/-- The byte that says that more come. -/
theorem high_byte (m : Nat) : ∃ c : UInt8, Hid (UInt8.ofNat (m % 128 + 128) = c) ∧ bits BinOp.or IntKind.u8 ((m : Int) % 256) 128 = (c.toNat : Int) := by
  refine ⟨_, rfl, ?_⟩
  have h := or_all ⟨m % 256, Nat.mod_lt _ (by omega)⟩
  simp only at h
  have e : ((m : Int) % 256) = ((m % 256 : Nat) : Int) := by omega
  rw [e, h, toNat_high]
  omega
theorem high_byte' (m : Nat) : ∃ c : UInt8, Hid (UInt8.ofNat (m % 128 + 128) = c) ∧ bits BinOp.or IntKind.u8 ((m : Int) % 128) 128 = (c.toNat : Int) := by
  refine ⟨_, rfl, ?_⟩
  have h := or_all ⟨m % 128, by omega⟩
  simp only at h
  have e : ((m : Int) % 128) = ((m % 128 : Nat) : Int) := by omega
  rw [e, h, toNat_high]
  omega

set_option maxRecDepth 100000 in
set_option maxHeartbeats 400000 in
theorem wire_num (base : Nat) (v : Value) (m : Nat) (xs : List UInt8) (w : World) (hown : w.ownsRow base 5 1 v xs.length (bytes8 xs)) (hb : base ≤ w.heap.size) (hm : m ≤ 9223372036854775807) (hl : xs.length ≤ 1099511627776) :
    Calls Try.prog 103 #[v, .int .i64 m] w fun e w' => ∃ v', e = .returned v' ∧ w'.ownsRow base 5 1 v' (xs ++ enc m).length (bytes8 (xs ++ enc m)) ∧ Below base w w' := by
  have HX := hide (enc_len_63 (n := m) (by omega))
  obtain ⟨i0, hi, hz0, hz1, hz2⟩ := info_parts Try.infoByte
  go_enter Try.func103, Try.ntmps103
  go_wp2_with fail
  go_loopw [0, 1] (fun b n wr => ∃ (m' : Nat) (ys : List UInt8), n = .int .i64 m' ∧ Hid (xs ++ enc m = ys ++ enc m') ∧ m' ≤ m ∧ wr.ownsRow base 5 1 b ys.length (bytes8 ys) ∧ Below base w wr) (fun _ n _ => (intOf n).toNat)
  case atStart => exact ⟨m, xs, rfl, rfl, Nat.le_refl _, hown, Below.refl _ _⟩
  case round =>
    obtain ⟨m', ys, rfl, HE, hle, hown', hbw⟩ := hrel
    have hsz := hbw.size
    have hyl : ys.length ≤ 1099511627785 := by
      have h1 := congrArg List.length HE.out
      rw [List.length_append, List.length_append] at h1
      have h2 := HX.out
      omega
    by_cases hge : 128 ≤ m'
    · obtain ⟨c, HC, hor⟩ := high_byte m'
      have HQ : Hid (xs ++ enc m = (ys ++ [c]) ++ enc (m' / 128)) := by rw [Hid, HE.out, enc_ge hge, HC.out]; simp
      clear hown
      go_wp2_with (first
        | (at_builtin; refine wpList_append_own _ rfl _ _ 60 rfl base 5 i0 (.int .u8 0) 1 1 Try.underlying60 hi hz0 hz1 hz2 rfl (by decide) _ _ _ rfl (hown'.alloc _) ⟨wr.heap.size, 0, none⟩ 1 1 [.int .u8 (c.toNat : Int)] rfl rfl ?c1 ?c2 ?c3 ?c4 ?c5 ?_))
      case c1 => exact news_one _ _ _
      case c2 => exact one_int _ _
      case c3 => unfold maxLen; omega
      case c4 => omega
      case c5 => simp; omega
      intro v' w1 hown2 hg _
      have hown3 : w1.ownsRow base 5 1 v' (ys ++ [c]).length (bytes8 (ys ++ [c])) := by rw [← bytes8_snoc, List.length_append]; exact hown2
      have hb2 : Below base w w1 := (hbw.alloc (by omega) _).grown hg (by simp; omega) (fun g hg' => (hown'.lt g hg').1)
      clear hown2 hg hown' hbw hor
      go_wp2_with fail
      go_roundw
      case rel => exact ⟨m' / 128, ys ++ [c], by go_num, HQ, by omega, hown3, hb2⟩
      case measure => simp [intOf]; omega
    · have HQ : Hid (xs ++ enc m = ys ++ [UInt8.ofNat m']) := by rw [Hid, HE.out, enc_lt (by omega)]
      have hm' : m' < 128 := by omega
      clear hown
      go_wp2_with (first
        | (at_builtin; refine wpList_append_own _ rfl _ _ 60 rfl base 5 i0 (.int .u8 0) 1 1 Try.underlying60 hi hz0 hz1 hz2 rfl (by decide) _ _ _ rfl (hown'.alloc _) ⟨wr.heap.size, 0, none⟩ 1 1 [.int .u8 (m' : Int)] rfl rfl ?d1 ?d2 ?d3 ?d4 ?d5 ?_))
      case d1 => exact news_one _ _ _
      case d2 => exact one_int _ _
      case d3 => unfold maxLen; omega
      case d4 => omega
      case d5 => simp; omega
      intro v' w1 hown2 hg _
      have hown3 : w1.ownsRow base 5 1 v' (xs ++ enc m).length (bytes8 (xs ++ enc m)) := by
        rw [HQ.out, ← bytes8_snoc, List.length_append, toNat_low hm']; exact hown2
      have hb2 : Below base w w1 := (hbw.alloc (by omega) _).grown hg (by simp; omega) (fun g hg' => (hown'.lt g hg').1)
      clear hown2 hg hown' hbw
      go_wp2_with fail
      go_ret
      exact ⟨_, rfl, hown3, hb2⟩

set_option maxRecDepth 100000 in
set_option maxHeartbeats 400000 in
theorem ref2_Num (m : Nat) (w : World) (hm : m ≤ 9223372036854775807) :
    Calls Try.prog 81 #[.int .i64 m] w fun e w' => ∃ v', e = .returned v' ∧ w'.ownsRow w.heap.size 5 1 v' (enc m).length (bytes8 (enc m)) ∧ Below w.heap.size w w' := by
  have HX := hide (enc_len_63 (n := m) (by omega))
  obtain ⟨i0, hi, hz0, hz1, hz2⟩ := info_parts Try.infoByte
  go_enter Try.func81, Try.ntmps81
  go_wp2_with fail
  go_loopw [0, 3] (fun n b wr => ∃ (m' : Nat) (ys : List UInt8), n = .int .i64 m' ∧ Hid (enc m = ys ++ enc m') ∧ m' ≤ m ∧ wr.ownsRow w.heap.size 5 1 b ys.length (bytes8 ys) ∧ Below w.heap.size w wr) (fun n _ _ => (intOf n).toNat)
  case atStart => exact ⟨m, [], rfl, rfl, Nat.le_refl _, World.ownsRow_nil _ _ _ _, Below.refl _ _⟩
  case round =>
    obtain ⟨m', ys, rfl, HE, hle, hown', hbw⟩ := hrel
    have hsz := hbw.size
    have hyl : ys.length ≤ 9 := by
      have h1 := congrArg List.length HE.out
      rw [List.length_append] at h1
      have h2 := HX.out
      omega
    by_cases hge : 128 ≤ m'
    · obtain ⟨c, HC, hor⟩ := high_byte' m'
      have HQ : Hid (enc m = (ys ++ [c]) ++ enc (m' / 128)) := by rw [Hid, HE.out, enc_ge hge, HC.out]; simp
      go_wp2_with (first
        | (at_builtin; refine wpList_append_own _ rfl _ _ 60 rfl w.heap.size 5 i0 (.int .u8 0) 1 1 Try.underlying60 hi hz0 hz1 hz2 rfl (by decide) _ _ _ rfl (hown'.alloc _) ⟨wr.heap.size, 0, none⟩ 1 1 [.int .u8 (c.toNat : Int)] rfl rfl ?c1 ?c2 ?c3 ?c4 ?c5 ?_))
      case c1 => exact news_one _ _ _
      case c2 => exact one_int _ _
      case c3 => unfold maxLen; omega
      case c4 => omega
      case c5 => simp; omega
      intro v' w1 hown2 hg _
      have hown3 : w1.ownsRow w.heap.size 5 1 v' (ys ++ [c]).length (bytes8 (ys ++ [c])) := by rw [← bytes8_snoc, List.length_append]; exact hown2
      have hb2 : Below w.heap.size w w1 := (hbw.alloc (by omega) _).grown hg (by simp; omega) (fun g hg' => (hown'.lt g hg').1)
      clear hown2 hg hown' hbw hor
      go_wp2_with fail
      go_roundw
      case rel => exact ⟨m' / 128, ys ++ [c], by go_num, HQ, by omega, hown3, hb2⟩
      case measure => simp [intOf]; omega
    · have HQ : Hid (enc m = ys ++ [UInt8.ofNat m']) := by rw [Hid, HE.out, enc_lt (by omega)]
      have hm' : m' < 128 := by omega
      go_wp2_with (first
        | (at_builtin; refine wpList_append_own _ rfl _ _ 60 rfl w.heap.size 5 i0 (.int .u8 0) 1 1 Try.underlying60 hi hz0 hz1 hz2 rfl (by decide) _ _ _ rfl (hown'.alloc _) ⟨wr.heap.size, 0, none⟩ 1 1 [.int .u8 (m' : Int)] rfl rfl ?d1 ?d2 ?d3 ?d4 ?d5 ?_))
      case d1 => exact news_one _ _ _
      case d2 => exact one_int _ _
      case d3 => unfold maxLen; omega
      case d4 => omega
      case d5 => simp; omega
      intro v' w1 hown2 hg _
      have hown3 : w1.ownsRow w.heap.size 5 1 v' (enc m).length (bytes8 (enc m)) := by
        rw [HQ.out, ← bytes8_snoc, List.length_append, toNat_low hm']; exact hown2
      have hb2 : Below w.heap.size w w1 := (hbw.alloc (by omega) _).grown hg (by simp; omega) (fun g hg' => (hown'.lt g hg').1)
      clear hown2 hg hown' hbw
      go_wp2_with fail
      go_ret
      exact ⟨_, rfl, hown3, hb2⟩
end Go.Proofs.Ytebaojcfmkobjaa
/-
  Contracts: the place of a number in a list, whether it is there.
-/
namespace Go.Proofs.Ytebaojcfmkobjaa
open Go.RowKit

/-- Where a number is, or -1. -/
def inIdx (xs : List Int) (x : Int) : Int := if x ∈ xs then (xs.idxOf x : Int) else -1
theorem inIdx_ge {xs : List Int} {x : Int} : 0 ≤ inIdx xs x ↔ x ∈ xs := by
  unfold inIdx; split <;> rename_i h <;> simp [h]

theorem mem_take_succ {xs : List Int} {k : Nat} {u : Int} (h : xs[k]? = some u) (x : Int) : x ∈ xs.take (k + 1) ↔ x ∈ xs.take k ∨ x = u := by
  rw [take_at h]; simp
theorem inIdx_found {xs : List Int} {x : Int} {k : Nat} (hk : xs[k]? = some x) (h : x ∉ xs.take k) : inIdx xs x = k := by
  rw [inIdx, if_pos (mem_of_at hk)]
  have hsp : xs = xs.take k ++ xs.drop k := (List.take_append_drop k xs).symm
  have hl := lt_of_at hk
  rw [hsp, List.idxOf_append, if_neg h, drop_at hk]
  simp; omega
theorem inIdx_none {xs : List Int} {x : Int} {n : Nat} (hn : xs.length = n) (h : x ∉ xs.take n) : inIdx xs x = -1 := by
  rw [← hn, List.take_length] at h; rw [inIdx, if_neg h]

end Go.Proofs.Ytebaojcfmkobjaa
/-
  Contracts of reading a number: what bytes begin with: for every input.
-/
namespace Go.Proofs.Ytebaojcfmkobjaa
open Go.RowKit

/-- What GetNum answers. -/
def getN (bs : List UInt8) : Option (Nat × Nat) := dec 9 bs

theorem pow7 (i : Nat) : 2 ^ (7 * i) = 128 ^ i := by rw [Nat.pow_mul]
theorem or_shift {acc i x : Nat} (ha : acc < 128 ^ i) (hx : x < 128) (hi : i ≤ 8) : bits BinOp.or IntKind.i64 (acc : Int) ((128 ^ i * x : Nat) : Int) = ((acc + 128 ^ i * x : Nat) : Int) ∧ acc + 128 ^ i * x < 128 ^ (i + 1) ∧ 128 ^ (i + 1) ≤ 9223372036854775808 := by
  have h1 : (128 : Nat) ^ (i + 1) ≤ 128 ^ 9 := Nat.pow_le_pow_right (by omega) (by omega)
  have h9 : (128 : Nat) ^ 9 = 9223372036854775808 := by decide
  have h2 : acc + 128 ^ i * x < 128 ^ (i + 1) := by
    rw [Nat.pow_succ]
    have : 128 ^ i * x ≤ 128 ^ i * 127 := Nat.mul_le_mul_left _ (by omega)
    omega
  refine ⟨?_, h2, by omega⟩
  rw [i64_or_nat acc (128 ^ i * x) (by omega) (by omega)]
  congr 1
  have e : 128 ^ i * x = x <<< (7 * i) := by rw [Nat.shiftLeft_eq, pow7, Nat.mul_comm]
  rw [e, Nat.or_comm, ← Nat.shiftLeft_add_eq_or_of_lt (by rw [pow7]; exact ha)]
  omega

/-- What is left to read at the i-th byte. -/
def At (bs : List UInt8) (i acc : Nat) (o : Option (Nat × Nat)) : Prop := i ≤ 9 ∧ acc < 128 ^ i ∧ cont i acc (dec (9 - i) (bs.drop i)) = o
theorem At.start (bs : List UInt8) : At bs 0 0 (getN bs) := ⟨by omega, by simp, by rw [cont_zero]; rfl⟩
theorem At.next {bs : List UInt8} {i acc : Nat} {o : Option (Nat × Nat)} {c : UInt8} (h : At bs i acc o) (hc : bs[i]? = some c) (hi : i < 9) (hh : 128 ≤ c.toNat) : At bs (i + 1) (acc + 128 ^ i * (c.toNat % 128)) o := by
  obtain ⟨h1, h2, h3⟩ := h
  rw [drop_at hc, show 9 - i = (9 - (i + 1)) + 1 by omega, cont_next hh] at h3
  exact ⟨by omega, (or_shift h2 (by omega) (by omega)).2.1, h3⟩
theorem At.last {bs : List UInt8} {i acc : Nat} {o : Option (Nat × Nat)} {c : UInt8} (h : At bs i acc o) (hc : bs[i]? = some c) (hi : i < 9) (hh : c.toNat < 128) : o = if 0 < i ∧ c.toNat = 0 then none else some (acc + 128 ^ i * c.toNat, i + 1) := by
  obtain ⟨h1, h2, h3⟩ := h
  rw [drop_at hc, show 9 - i = (9 - (i + 1)) + 1 by omega, cont_last hh] at h3
  exact h3.symm
theorem At.out {bs : List UInt8} {i acc : Nat} {o : Option (Nat × Nat)} (h : At bs i acc o) (hi : bs.length ≤ i) : o = none := by
  obtain ⟨h1, h2, h3⟩ := h
  rw [List.drop_eq_nil_of_le hi, dec_end] at h3
  exact h3.symm

end Go.Proofs.Ytebaojcfmkobjaa
/-
  Contracts of the reference's reading of a number.
-/
namespace Go.Proofs.Ytebaojcfmkobjaa
open Go.RowKit

end Go.Proofs.Ytebaojcfmkobjaa
