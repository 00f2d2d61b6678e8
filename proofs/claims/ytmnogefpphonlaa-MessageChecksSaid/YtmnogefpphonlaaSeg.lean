/-
  Regions over frames known by facts: what an operation yields ('Ev'), told once for plain regions ('s_..') and for regions that draw their order ('q_..'). Over any program.
-/
import Derived.Test.YtmnogefpphonlaaGr21
import Derived.Test.YtmnogefpphonlaaGr23
import Derived.Test.YtmnogefpphonlaaGr06
import Derived.Deep.MidRow
namespace Go.Proofs.Ytmnogefpphonlaa
open Go.RowKit

/-- What an operand holds. -/
def opv (M : List (Nat × Value)) : Operand → Option Value
  | .tmp t => lk M t
  | .const v => some v
  | _ => none
def Want (ops : Array Oper) (M : List (Nat × Value)) (o : Oper) : Prop :=
  o.guard = none ∨ ∃ j b dj, o.guard = some (j, b) ∧ (ops[j]?).bind (·.dst) = some dj ∧ lk M dj = some (.bool b)
/-- The operation yields v, in the world that it gets. -/
def Ev (P : Program) (M : List (Nat × Value)) (o : Oper) (w : World) (v : Value) : Prop := ∀ (a : Act) (n : Nat), Frm a n M → (execOp a.eval o).run P w = .ok (.value v) w
/-- A row of cells in a block. -/
def Rng (w : World) (b o : Nat) (C : Array Value) : Prop := b < w.heap.size ∧ ∀ j v, C[j]? = some v → w.cell? ⟨b, o + j, none⟩ = some v
section
variable {P : Program} {a : Act} {n : Nat} {M M' : List (Nat × Value)} {ops : Array Oper} {o : Oper} {w w' : World} {v : Value}
theorem Rng.below {b k : Nat} {C : Array Value} (h : Rng w b k C) (hb : Below w.heap.size w w') : Rng w' b k C := ⟨Nat.lt_of_lt_of_le h.1 hb.size, fun j v hj => (hb.cell h.1).trans (h.2 j v hj)⟩
theorem Rng.sub {b k : Nat} {C D : Array Value} (h : Rng w b k C) (m : Nat) (hs : ∀ j v, D[j]? = some v → C[m + j]? = some v) : Rng w b (k + m) D := ⟨h.1, fun j v hj => by rw [Nat.add_assoc]; exact h.2 _ _ (hs j v hj)⟩
theorem Rng.at_ {b k m : Nat} {C : Array Value} (h : Rng w b k C) (hm : C[m]? = some v) : w.cell? ⟨b, k + m, none⟩ = some v := h.2 _ _ hm
theorem Blk.rng {g : Nat} {t : TypeId} {C : Array Value} (h : Blk w g t C) : Rng w g 0 C := ⟨h.lt, fun j v hj => by rw [Nat.zero_add]; exact h.at_ hj⟩
theorem below_alloc_ (w : World) (o : Obj) : Below w.heap.size w (w.alloc o) := (Below.refl _ _).alloc (Nat.le_refl _) o
theorem grown_set_ (w : World) (g i : Nat) (u : Value) : w.grownBy (w.setCell ⟨g, i, none⟩ u) (some g) :=
  ⟨rfl, rfl, rfl, by simp [World.setCell], fun k _ hk => Below.heap_setCell w ⟨g, i, none⟩ u k (by intro e; exact hk (by rw [e]))⟩
theorem Blk.on {g : Nat} {t : TypeId} {C : Array Value} (h : Blk w g t C) (hb : Below w.heap.size w w') : Blk w' g t C := h.later hb
theorem Frm.evo (h : Frm a n M) {x : Operand} (hl : opv M x = some v) : a.eval x = v := by
  cases x with
  | tmp t => exact h.ev hl
  | const u => injection hl
  | global _ => cases hl
  | func _ => cases hl
theorem Want.is (hw : Want ops M o) (h : Frm a n M) : Region.wanted o (yielded ops a.tmps) = true := by
  rcases hw with hw | ⟨j, b, dj, hg, hj, hl⟩
  · simp [Region.wanted, hw]
  · simp [Region.wanted, hg, h.yield hj hl]
theorem ev_move {x : Operand} (ho : o.op = .move x ∨ o.op = .assign x) (hx : opv M x = some v) : Ev P M o w v := fun a n h => by
  rcases ho with ho | ho <;> simp [execOp, ho, h.evo hx]
theorem ev_pick {c x y : Operand} {b : Bool} (ho : o.op = .pick c x y) (hc : opv M c = some (.bool b)) (hx : (bif b then opv M x else opv M y) = some v) : Ev P M o w v := fun a n h => by
  cases b with
  | true => simp [execOp, ho, h.evo hc, h.evo (show opv M x = some v from hx), asBool]
  | false => simp [execOp, ho, h.evo hc, h.evo (show opv M y = some v from hx), asBool]
theorem ev_ext {x : Operand} {k : Nat} {vs : Array Value} (ho : o.op = .extract x k) (hx : opv M x = some (.tuple vs)) (hv : vs[k]? = some v) : Ev P M o w v := fun a n h => by
  simp [execOp, ho, h.evo hx, Instr.extract, hv]
theorem ev_len {x : Operand} {t : TypeId} {A : Option Addr} {m c : Nat} (ho : o.op = .call { callee := .builtin .len, args := #[x], argTypes := #[t] }) (hx : opv M x = some (.slice A m c)) (hu : P.underlying t = some (.slice (P.elem t))) : Ev P M o w (.int .i64 m) := fun a n h => by
  have e : (#[x] : Array Operand).map a.eval = #[.slice A m c] := by simp [h.evo hx]
  simp only [execOp, ho, resolve, e]
  simp [go_sem, run_len_slice _ _ _ _ _ _ hu]
theorem ev_fld {s : TypeId} {x : Operand} {f b k off m : Nat} {fs : Array Field} (ho : o.op = .fieldAddr s x f) (hx : opv M x = some (.pointer (some ⟨b, off, none⟩))) (hu : P.underlying s = some (.struct fs))
    (hf : ∀ w, (Instr.fieldAt s (.pointer (some ⟨b, off, none⟩)) f).run P w = .ok (.pointer (some ⟨b, off + k, none⟩)) w) (hk : off + k = m) : Ev P M o w (.pointer (some ⟨b, m, none⟩)) := fun a n h => by
  subst hk
  simp [execOp, ho, h.evo hx, hf]
theorem ev_fldw {s : TypeId} {x : Operand} {f b off m : Nat} (ho : o.op = .fieldAddr s x f) (hx : opv M x = some (.pointer (some ⟨b, off, none⟩)))
    (hf : ∀ w, (Instr.fieldAt s (.pointer (some ⟨b, off, none⟩)) f).run P w = .ok (.pointer (some ⟨b, m, none⟩)) w) : Ev P M o w (.pointer (some ⟨b, m, none⟩)) := fun a n h => by
  simp [execOp, ho, h.evo hx, hf]
theorem ev_idx {t e : TypeId} {x i : Operand} {b off sz m c k p : Nat} (ho : o.op = .indexAddr t x i) (hx : opv M x = some (.slice (some ⟨b, off, none⟩) m c)) (hi : opv M i = some (.int .i64 (k : Int)))
    (hu : P.underlying t = some (.slice e)) (hz : (P.info? e).map (·.size) = some sz) (hk : k < m) (hp : off + k * sz = p) : Ev P M o w (.pointer (some ⟨b, p, none⟩)) := fun a n h => by
  subst hp
  obtain ⟨d, hd, rfl⟩ := Option.map_eq_some_iff.1 hz
  simp [execOp, ho, h.evo hx, h.evo hi, Instr.indexAt, Sem.run_bind, run_underlying hu, asIntOf, hk, sizeOf, typeInfo, hd, add_lit]
theorem ev_loadm {ty : TypeId} {x : Operand} {b k : Nat} {C : Array Value} {d : TypeDesc} (ho : o.op = .load ty x) (hx : opv M x = some (.pointer (some ⟨b, k, none⟩))) (hc : Rng w b k C)
    (hu : P.underlying ty = some d) (hd : d.isRow = true) (hi : (P.info? ty).map (·.size) = some C.size) : Ev P M o w (.agg C) := fun a n h => by
  have := run_loadAt_mid (P := P) w b k ty C.toList d (fun j v hj => hc.2 j v (by simpa using hj)) hu hd (by simpa using hi)
  simp [execOp, ho, h.evo hx, this]
theorem ev_load1 {ty : TypeId} {x : Operand} {b k : Nat} (ho : o.op = .load ty x) (hx : opv M x = some (.pointer (some ⟨b, k, none⟩))) (hc : w.cell? ⟨b, k, none⟩ = some v)
    (hu : ∀ w, (isAgg ty).run P w = .ok false w) : Ev P M o w v := fun a n h => by
  simp only [execOp, ho, h.evo hx]
  simp [Instr.loadAt, Instr.sureAddr, loadVar, Sem.run_bind, hu, go_sem, hc]
theorem ev_bin {op : BinOp} {ty tr : TypeId} {x y : Operand} {vx vy : Value} (ho : o.op = .binOp op ty x y tr) (hx : opv M x = some vx) (hy : opv M y = some vy)
    (hg : ∀ w, (eqGuard op ty x y vx vy).run P w = .ok () w) (hr : ∀ w, (binOp op ty vx vy).run P w = .ok v w) : Ev P M o w v := fun a n h => by
  simp only [execOp, ho, h.evo hx, h.evo hy]
  simp [Sem.run_bind, hg, hr]
theorem ev_not {x : Operand} {ty : TypeId} {b c : Bool} (ho : o.op = .unOp .not ty x) (hx : opv M x = some (.bool b)) (hc : (!b) = c) : Ev P M o w (.bool c) := fun a n h => by
  subst hc
  simp only [execOp, ho, h.evo hx]
  simp [go_sem]
theorem Frm.cut0  (h : Frm a n M) : Frm a n [] := h.weak (fun p hp => absurd hp (by simp))
theorem Frm.cut1 {t1 : Nat} {v1 : Value} (h : Frm a n M) (h1 : lk M t1 = some v1) : Frm a n [(t1, v1)] := h.weak (by
  intro p hp
  simp only [List.mem_cons, List.not_mem_nil, or_false] at hp
  subst hp; exact h1)
theorem Frm.cut2 {t1 : Nat} {v1 : Value} {t2 : Nat} {v2 : Value} (h : Frm a n M) (h1 : lk M t1 = some v1) (h2 : lk M t2 = some v2) : Frm a n [(t1, v1), (t2, v2)] := h.weak (by
  intro p hp
  simp only [List.mem_cons, List.not_mem_nil, or_false] at hp
  rcases hp with rfl | rfl
  · exact h1
  · exact h2)
theorem Frm.cut3 {t1 : Nat} {v1 : Value} {t2 : Nat} {v2 : Value} {t3 : Nat} {v3 : Value} (h : Frm a n M) (h1 : lk M t1 = some v1) (h2 : lk M t2 = some v2) (h3 : lk M t3 = some v3) : Frm a n [(t1, v1), (t2, v2), (t3, v3)] := h.weak (by
  intro p hp
  simp only [List.mem_cons, List.not_mem_nil, or_false] at hp
  rcases hp with rfl | rfl | rfl
  · exact h1
  · exact h2
  · exact h3)
theorem Frm.cut4 {t1 : Nat} {v1 : Value} {t2 : Nat} {v2 : Value} {t3 : Nat} {v3 : Value} {t4 : Nat} {v4 : Value} (h : Frm a n M) (h1 : lk M t1 = some v1) (h2 : lk M t2 = some v2) (h3 : lk M t3 = some v3) (h4 : lk M t4 = some v4) : Frm a n [(t1, v1), (t2, v2), (t3, v3), (t4, v4)] := h.weak (by
  intro p hp
  simp only [List.mem_cons, List.not_mem_nil, or_false] at hp
  rcases hp with rfl | rfl | rfl | rfl
  · exact h1
  · exact h2
  · exact h3
  · exact h4)
theorem Frm.cut5 {t1 : Nat} {v1 : Value} {t2 : Nat} {v2 : Value} {t3 : Nat} {v3 : Value} {t4 : Nat} {v4 : Value} {t5 : Nat} {v5 : Value} (h : Frm a n M) (h1 : lk M t1 = some v1) (h2 : lk M t2 = some v2) (h3 : lk M t3 = some v3) (h4 : lk M t4 = some v4) (h5 : lk M t5 = some v5) : Frm a n [(t1, v1), (t2, v2), (t3, v3), (t4, v4), (t5, v5)] := h.weak (by
  intro p hp
  simp only [List.mem_cons, List.not_mem_nil, or_false] at hp
  rcases hp with rfl | rfl | rfl | rfl | rfl
  · exact h1
  · exact h2
  · exact h3
  · exact h4
  · exact h5)
theorem Frm.cut6 {t1 : Nat} {v1 : Value} {t2 : Nat} {v2 : Value} {t3 : Nat} {v3 : Value} {t4 : Nat} {v4 : Value} {t5 : Nat} {v5 : Value} {t6 : Nat} {v6 : Value} (h : Frm a n M) (h1 : lk M t1 = some v1) (h2 : lk M t2 = some v2) (h3 : lk M t3 = some v3) (h4 : lk M t4 = some v4) (h5 : lk M t5 = some v5) (h6 : lk M t6 = some v6) : Frm a n [(t1, v1), (t2, v2), (t3, v3), (t4, v4), (t5, v5), (t6, v6)] := h.weak (by
  intro p hp
  simp only [List.mem_cons, List.not_mem_nil, or_false] at hp
  rcases hp with rfl | rfl | rfl | rfl | rfl | rfl
  · exact h1
  · exact h2
  · exact h3
  · exact h4
  · exact h5
  · exact h6)
theorem Frm.cut7 {t1 : Nat} {v1 : Value} {t2 : Nat} {v2 : Value} {t3 : Nat} {v3 : Value} {t4 : Nat} {v4 : Value} {t5 : Nat} {v5 : Value} {t6 : Nat} {v6 : Value} {t7 : Nat} {v7 : Value} (h : Frm a n M) (h1 : lk M t1 = some v1) (h2 : lk M t2 = some v2) (h3 : lk M t3 = some v3) (h4 : lk M t4 = some v4) (h5 : lk M t5 = some v5) (h6 : lk M t6 = some v6) (h7 : lk M t7 = some v7) : Frm a n [(t1, v1), (t2, v2), (t3, v3), (t4, v4), (t5, v5), (t6, v6), (t7, v7)] := h.weak (by
  intro p hp
  simp only [List.mem_cons, List.not_mem_nil, or_false] at hp
  rcases hp with rfl | rfl | rfl | rfl | rfl | rfl | rfl
  · exact h1
  · exact h2
  · exact h3
  · exact h4
  · exact h5
  · exact h6
  · exact h7)
theorem Frm.cut8 {t1 : Nat} {v1 : Value} {t2 : Nat} {v2 : Value} {t3 : Nat} {v3 : Value} {t4 : Nat} {v4 : Value} {t5 : Nat} {v5 : Value} {t6 : Nat} {v6 : Value} {t7 : Nat} {v7 : Value} {t8 : Nat} {v8 : Value} (h : Frm a n M) (h1 : lk M t1 = some v1) (h2 : lk M t2 = some v2) (h3 : lk M t3 = some v3) (h4 : lk M t4 = some v4) (h5 : lk M t5 = some v5) (h6 : lk M t6 = some v6) (h7 : lk M t7 = some v7) (h8 : lk M t8 = some v8) : Frm a n [(t1, v1), (t2, v2), (t3, v3), (t4, v4), (t5, v5), (t6, v6), (t7, v7), (t8, v8)] := h.weak (by
  intro p hp
  simp only [List.mem_cons, List.not_mem_nil, or_false] at hp
  rcases hp with rfl | rfl | rfl | rfl | rfl | rfl | rfl | rfl
  · exact h1
  · exact h2
  · exact h3
  · exact h4
  · exact h5
  · exact h6
  · exact h7
  · exact h8)
theorem Frm.cut9 {t1 : Nat} {v1 : Value} {t2 : Nat} {v2 : Value} {t3 : Nat} {v3 : Value} {t4 : Nat} {v4 : Value} {t5 : Nat} {v5 : Value} {t6 : Nat} {v6 : Value} {t7 : Nat} {v7 : Value} {t8 : Nat} {v8 : Value} {t9 : Nat} {v9 : Value} (h : Frm a n M) (h1 : lk M t1 = some v1) (h2 : lk M t2 = some v2) (h3 : lk M t3 = some v3) (h4 : lk M t4 = some v4) (h5 : lk M t5 = some v5) (h6 : lk M t6 = some v6) (h7 : lk M t7 = some v7) (h8 : lk M t8 = some v8) (h9 : lk M t9 = some v9) : Frm a n [(t1, v1), (t2, v2), (t3, v3), (t4, v4), (t5, v5), (t6, v6), (t7, v7), (t8, v8), (t9, v9)] := h.weak (by
  intro p hp
  simp only [List.mem_cons, List.not_mem_nil, or_false] at hp
  rcases hp with rfl | rfl | rfl | rfl | rfl | rfl | rfl | rfl | rfl
  · exact h1
  · exact h2
  · exact h3
  · exact h4
  · exact h5
  · exact h6
  · exact h7
  · exact h8
  · exact h9)
theorem Frm.cut10 {t1 : Nat} {v1 : Value} {t2 : Nat} {v2 : Value} {t3 : Nat} {v3 : Value} {t4 : Nat} {v4 : Value} {t5 : Nat} {v5 : Value} {t6 : Nat} {v6 : Value} {t7 : Nat} {v7 : Value} {t8 : Nat} {v8 : Value} {t9 : Nat} {v9 : Value} {t10 : Nat} {v10 : Value} (h : Frm a n M) (h1 : lk M t1 = some v1) (h2 : lk M t2 = some v2) (h3 : lk M t3 = some v3) (h4 : lk M t4 = some v4) (h5 : lk M t5 = some v5) (h6 : lk M t6 = some v6) (h7 : lk M t7 = some v7) (h8 : lk M t8 = some v8) (h9 : lk M t9 = some v9) (h10 : lk M t10 = some v10) : Frm a n [(t1, v1), (t2, v2), (t3, v3), (t4, v4), (t5, v5), (t6, v6), (t7, v7), (t8, v8), (t9, v9), (t10, v10)] := h.weak (by
  intro p hp
  simp only [List.mem_cons, List.not_mem_nil, or_false] at hp
  rcases hp with rfl | rfl | rfl | rfl | rfl | rfl | rfl | rfl | rfl | rfl
  · exact h1
  · exact h2
  · exact h3
  · exact h4
  · exact h5
  · exact h6
  · exact h7
  · exact h8
  · exact h9
  · exact h10)
theorem Frm.cut11 {t1 : Nat} {v1 : Value} {t2 : Nat} {v2 : Value} {t3 : Nat} {v3 : Value} {t4 : Nat} {v4 : Value} {t5 : Nat} {v5 : Value} {t6 : Nat} {v6 : Value} {t7 : Nat} {v7 : Value} {t8 : Nat} {v8 : Value} {t9 : Nat} {v9 : Value} {t10 : Nat} {v10 : Value} {t11 : Nat} {v11 : Value} (h : Frm a n M) (h1 : lk M t1 = some v1) (h2 : lk M t2 = some v2) (h3 : lk M t3 = some v3) (h4 : lk M t4 = some v4) (h5 : lk M t5 = some v5) (h6 : lk M t6 = some v6) (h7 : lk M t7 = some v7) (h8 : lk M t8 = some v8) (h9 : lk M t9 = some v9) (h10 : lk M t10 = some v10) (h11 : lk M t11 = some v11) : Frm a n [(t1, v1), (t2, v2), (t3, v3), (t4, v4), (t5, v5), (t6, v6), (t7, v7), (t8, v8), (t9, v9), (t10, v10), (t11, v11)] := h.weak (by
  intro p hp
  simp only [List.mem_cons, List.not_mem_nil, or_false] at hp
  rcases hp with rfl | rfl | rfl | rfl | rfl | rfl | rfl | rfl | rfl | rfl | rfl
  · exact h1
  · exact h2
  · exact h3
  · exact h4
  · exact h5
  · exact h6
  · exact h7
  · exact h8
  · exact h9
  · exact h10
  · exact h11)
theorem Frm.cut12 {t1 : Nat} {v1 : Value} {t2 : Nat} {v2 : Value} {t3 : Nat} {v3 : Value} {t4 : Nat} {v4 : Value} {t5 : Nat} {v5 : Value} {t6 : Nat} {v6 : Value} {t7 : Nat} {v7 : Value} {t8 : Nat} {v8 : Value} {t9 : Nat} {v9 : Value} {t10 : Nat} {v10 : Value} {t11 : Nat} {v11 : Value} {t12 : Nat} {v12 : Value} (h : Frm a n M) (h1 : lk M t1 = some v1) (h2 : lk M t2 = some v2) (h3 : lk M t3 = some v3) (h4 : lk M t4 = some v4) (h5 : lk M t5 = some v5) (h6 : lk M t6 = some v6) (h7 : lk M t7 = some v7) (h8 : lk M t8 = some v8) (h9 : lk M t9 = some v9) (h10 : lk M t10 = some v10) (h11 : lk M t11 = some v11) (h12 : lk M t12 = some v12) : Frm a n [(t1, v1), (t2, v2), (t3, v3), (t4, v4), (t5, v5), (t6, v6), (t7, v7), (t8, v8), (t9, v9), (t10, v10), (t11, v11), (t12, v12)] := h.weak (by
  intro p hp
  simp only [List.mem_cons, List.not_mem_nil, or_false] at hp
  rcases hp with rfl | rfl | rfl | rfl | rfl | rfl | rfl | rfl | rfl | rfl | rfl | rfl
  · exact h1
  · exact h2
  · exact h3
  · exact h4
  · exact h5
  · exact h6
  · exact h7
  · exact h8
  · exact h9
  · exact h10
  · exact h11
  · exact h12)
theorem isAgg_no {ty : TypeId} {d : TypeDesc} (hu : P.underlying ty = some d) (hd : d.isRow = false) (w : World) : (isAgg ty).run P w = .ok false w := by
  unfold isAgg
  rw [Sem.run_bind, run_underlying hu w]
  cases d <;> simp_all
theorem g_int {op : BinOp} {ty : TypeId} {x y : Operand} {k : IntKind} {p q : Int} (w : World) : (eqGuard op ty x y (.int k p) (.int k q)).run P w = .ok () w := by
  simp [eqGuard, go_sem]
theorem g_bool {op : BinOp} {ty : TypeId} {x y : Operand} {p q : Bool} (w : World) : (eqGuard op ty x y (.bool p) (.bool q)).run P w = .ok () w := by
  simp [eqGuard, go_sem]
theorem b_lss {ty : TypeId} {p q : Int} {b : Bool} (hb : decide (p < q) = b) (w : World) : (binOp .lss ty (.int .i64 p) (.int .i64 q)).run P w = .ok (.bool b) w := by
  subst hb; simp [go_sem]
theorem b_leq {ty : TypeId} {p q : Int} {b : Bool} (hb : decide (p ≤ q) = b) (w : World) : (binOp .leq ty (.int .i64 p) (.int .i64 q)).run P w = .ok (.bool b) w := by
  subst hb; simp [go_sem]
theorem b_gtr {ty : TypeId} {p q : Int} {b : Bool} (hb : decide (q < p) = b) (w : World) : (binOp .gtr ty (.int .i64 p) (.int .i64 q)).run P w = .ok (.bool b) w := by
  subst hb; simp [go_sem]
theorem b_geq {ty : TypeId} {p q : Int} {b : Bool} (hb : decide (q ≤ p) = b) (w : World) : (binOp .geq ty (.int .i64 p) (.int .i64 q)).run P w = .ok (.bool b) w := by
  subst hb; simp [go_sem]
theorem b_eql {ty : TypeId} {p q : Int} {b : Bool} (hb : decide (p = q) = b) (w : World) : (binOp .eql ty (.int .i64 p) (.int .i64 q)).run P w = .ok (.bool b) w := by
  subst hb; simp [go_sem, Bool.beq_eq_decide_eq]
theorem b_neq {ty : TypeId} {p q : Int} {b : Bool} (hb : decide (p ≠ q) = b) (w : World) : (binOp .neq ty (.int .i64 p) (.int .i64 q)).run P w = .ok (.bool b) w := by
  subst hb; simp [go_sem, bne, Bool.beq_eq_decide_eq]
theorem b_eqb {ty : TypeId} {p q : Bool} {b : Bool} (hu : P.underlying ty = some .bool) (hb : (p == q) = b) (w : World) : (binOp .eql ty (.bool p) (.bool q)).run P w = .ok (.bool b) w := by
  subst hb; exact run_eql_bool _ _ _ _ hu
theorem b_neb {ty : TypeId} {p q : Bool} {b : Bool} (hu : P.underlying ty = some .bool) (hb : (p != q) = b) (w : World) : (binOp .neq ty (.bool p) (.bool q)).run P w = .ok (.bool b) w := by
  subst hb; exact run_neq_bool _ _ _ _ hu
theorem b_add {ty : TypeId} {p q r : Int} (hr : p + q = r) (h : -9223372036854775808 ≤ r ∧ r ≤ 9223372036854775807) (w : World) : (binOp .add ty (.int .i64 p) (.int .i64 q)).run P w = .ok (.int .i64 r) w := by
  subst hr
  have : IntKind.i64.wrap (p + q) = p + q := by rw [IntKind.wrap_i64]; omega
  simp [go_sem, this]
theorem b_sub {ty : TypeId} {p q r : Int} (hr : p - q = r) (h : -9223372036854775808 ≤ r ∧ r ≤ 9223372036854775807) (w : World) : (binOp .sub ty (.int .i64 p) (.int .i64 q)).run P w = .ok (.int .i64 r) w := by
  subst hr
  have : IntKind.i64.wrap (p - q) = p - q := by rw [IntKind.wrap_i64]; omega
  simp [go_sem, this]
end

section
variable {P : Program} {a : Act} {n : Nat} {M M' : List (Nat × Value)} {ops : Array Oper} {o : Oper} {w w' : World} {v : Value} {Q : Exit → Act → World → Prop} {K : Act → World → Prop} {rest : List Oper}
theorem region_then {id : Nat} {l : List Oper} {B : Code} (h : ∀ (K : Act → World → Prop) (Q' : Exit → Act → World → Prop), (∀ a' w', B.wp P Q a' w' → K a' w') → wpSeg P l.toArray Q' K l a w) : ((Code.region id l.toArray false).seq B).wp P Q a w := by
  refine wp_seq (wp_region_lit ?_)
  have := wpSeg_eq (P := P) (ops := l.toArray) (Q := Exit.then (fun a w => B.wp P Q a w) Q) l []
  rw [List.append_nil] at this
  rw [this]
  exact h _ _ (fun a' w' hB => hB)
theorem region_last {id : Nat} {l : List Oper} (h : ∀ (K : Act → World → Prop) (Q' : Exit → Act → World → Prop), (∀ a' w', Q .normal a' w' → K a' w') → wpSeg P l.toArray Q' K l a w) : (Code.region id l.toArray false).wp P Q a w := by
  refine wp_region_lit ?_
  have := wpSeg_eq (P := P) (ops := l.toArray) (Q := Q) l []
  rw [List.append_nil] at this
  rw [this]
  exact h _ _ (fun a' w' hB => hB)
theorem s_val {d : Nat} (hM : Frm a n M) (hw : Want ops M o) (hd : o.dst = some d) (hn : Nat.blt d n = true) (hr : Ev P M o w v)
    (h : ∀ a', Frm a' n ((d, v) :: M) → wpSeg P ops Q K rest a' w) : wpSeg P ops Q K (o :: rest) a w := by
  unfold wpSeg
  rw [if_pos (hw.is hM)]
  refine .inl ?_
  unfold Oper.wp
  rw [hr _ _ hM, Oper.upon_value, hd]
  exact h _ (hM.put (Nat.le_of_ble_eq_true hn) v)
theorem s_skip {d j dj : Nat} {b c : Bool} (hM : Frm a n M) (hg : o.guard = some (j, b)) (hj : (ops[j]?).bind (·.dst) = some dj) (hl : lk M dj = some (.bool c)) (hc : c = !b) (hd : o.dst = some d) (hn : Nat.blt d n = true)
    (h : ∀ a', Frm a' n ((d, undef) :: M) → wpSeg P ops Q K rest a' w) : wpSeg P ops Q K (o :: rest) a w := seg_skip hM hd (Nat.le_of_ble_eq_true hn) hg hj hl hc h
theorem s_call {d : Nat} {f : FuncId} {args : Array Value} {Post : Ending → World → Prop} (hM : Frm a n M) (hw : Want ops M o) (hd : o.dst = some d) (hn : Nat.blt d n = true) (hr : (execOp a.eval o).run P w = .ok (.enter f args) w)
    (hc : Calls P f args w Post) (h : ∀ e w', Post e w' → ∃ v, e = .returned v ∧ ∀ a', Frm a' n ((d, v) :: M) → wpSeg P ops Q K rest a' w') : wpSeg P ops Q K (o :: rest) a w := by
  unfold wpSeg
  rw [if_pos (hw.is hM)]
  refine .inl ?_
  unfold Oper.wp
  rw [hr, Oper.upon_enter]
  refine hc.mono ?_
  intro e w' hp
  obtain ⟨v, rfl, hk⟩ := h e w' hp
  simp only [hd]
  exact hk _ (hM.put (Nat.le_of_ble_eq_true hn) v)
/-- A new block, at once written whole. -/
theorem s_new {o2 : Oper} {d : Nat} {T : TypeId} {x : Operand} {C Z : Array Value} (hM : Frm a n M) (hg : o.guard = none) (hd : o.dst = some d) (hn : Nat.blt d n = true) (ho : o.op = .alloc T)
    (hz : ∀ w, (Instr.alloc T true (.tuple #[])).run P w = .ok (.pointer (some ⟨w.heap.size, 0, none⟩)) (w.alloc (.cells Z T))) (hg2 : o2.guard = none) (hd2 : o2.dst = none) (ho2 : o2.op = .store T (.tmp d) x)
    (hx : opv ((d, .pointer (some ⟨w.heap.size, 0, none⟩)) :: M) x = some (.agg C)) (hi : (P.info? T).map (·.size) = some C.size) (hs : Z.size = C.size) (h1 : ∀ u ∈ C.toList, u.oneCell' = true)
    (h : ∀ g a' w', Frm a' n ((d, .pointer (some ⟨g, 0, none⟩)) :: M) → Blk w' g T C → Below w.heap.size w w' → w.heap.size ≤ g → wpSeg P ops Q K rest a' w') : wpSeg P ops Q K (o :: o2 :: rest) a w := by
  unfold wpSeg
  rw [if_pos (by simp [Region.wanted, hg])]
  refine .inl ?_
  unfold Oper.wp
  have hr : (execOp a.eval o).run P w = .ok (.value (.pointer (some ⟨w.heap.size, 0, none⟩))) (w.alloc (.cells Z T)) := by
    simp only [execOp, ho]
    simp [Sem.run_bind, hz]
  rw [hr, Oper.upon_value, hd]
  have hM2 := hM.put (Nat.le_of_ble_eq_true hn) (.pointer (some ⟨w.heap.size, 0, none⟩))
  unfold wpSeg
  rw [if_pos (by simp [Region.wanted, hg2])]
  refine .inl (wp_store_row T (.tmp d) x ho2 w.heap.size (hM2.evo (x := .tmp d) (by simp [opv, lk])) T Z (.agg C) (hM2.evo hx) (Blk.new w T Z) hi hs h1 fun w' q1 q2 => ?_)
  rw [hd2]
  refine h w.heap.size _ w' hM2 q1 ?_ (Nat.le_refl _)
  exact (below_alloc_ w _).grown q2 (by simp) (fun g e => by injection e with e; omega)
/-- One cell of a block written. -/
theorem s_put {T : TypeId} {x y : Operand} {g k : Nat} {t : TypeId} {cs : Array Value} (hM : Frm a n M) (hg : o.guard = none) (hd : o.dst = none) (ho : o.op = .store T x y) (hx : opv M x = some (.pointer (some ⟨g, k, none⟩))) (hy : opv M y = some v)
    (hb : Blk w g t cs) (hk : k < cs.size) (hst : ∀ w, (w.cell? ⟨g, k, none⟩).isSome = true → w.frozen? ⟨g, k, none⟩ = false → (Instr.storeAt T (.pointer (some ⟨g, k, none⟩)) v).run P w = .ok () (w.setCell ⟨g, k, none⟩ v))
    (h : ∀ w', Blk w' g t (cs.setIfInBounds k v) → w.grownBy w' (some g) → wpSeg P ops Q K rest a w') : wpSeg P ops Q K (o :: rest) a w := by
  unfold wpSeg
  rw [if_pos (by simp [Region.wanted, hg])]
  refine .inl ?_
  have hr : (execOp a.eval o).run P w = .ok .skip (w.setCell ⟨g, k, none⟩ v) := by
    simp only [execOp, ho, hM.evo hx, hM.evo hy]
    simp [Sem.run_bind, hst w (by rw [hb.cell]; simp [hk]) (hb.frozen k)]
  unfold Oper.wp
  rw [hr]
  show wpSeg P ops Q K rest (a.put o.dst _) _
  rw [hd]
  exact h _ (hb.set_ k v) (grown_set_ w g k v)
theorem wp_if_skip {c : Operand} {X B : Code} (hc : a.eval c = .bool false) (h : B.wp P Q a w) : ((Code.cond c X .skip).seq B).wp P Q a w := wp_seq (wp_cond_false hc (wp_skip h))
theorem wp_if_go {c : Operand} {X Y B : Code} (hc : a.eval c = .bool true) (h : X.wp P (Exit.then (fun a w => B.wp P Q a w) Q) a w) : ((Code.cond c X Y).seq B).wp P Q a w := wp_seq (wp_cond_true hc h)
end
section
variable {P : Program} {a : Act} {n : Nat} {M M' : List (Nat × Value)} {ops : Array Oper} {o : Oper} {W : World} {v : Value} {Q : Act → Prop} {rest : List Oper}
theorem q_open {id : Nat} {Q : Exit → Act → World → Prop} {l : List Oper} {B : Code} (hm : P.follows .mixedOrders = true) (hB : Region.lexB .any l.toArray = true)
    (h : ∀ K : Act → Prop, (∀ a', (∀ w', Below W.heap.size W w' → B.wp P Q a' w') → K a') → wpQuiet P l.toArray (fun w' => ∃ n : Wd W, w' = n.w) K l a) : ((Code.region id l.toArray true).seq B).wp P Q a W :=
  wp_seq (wp_region_wd hm hB (h _ fun a' hh => wd_end fun w' hw => hh w' hw))
theorem q_val {d : Nat} (hM : Frm a n M) (hw : Want ops M o) (hd : o.dst = some d) (hn : Nat.blt d n = true) (hr : ∀ m : Wd W, Ev P M o m.w v)
    (h : ∀ a', Frm a' n ((d, v) :: M) → wpQuiet P ops (fun w' => ∃ n : Wd W, w' = n.w) Q rest a') : wpQuiet P ops (fun w' => ∃ n : Wd W, w' = n.w) Q (o :: rest) a := by
  unfold wpQuiet
  rw [if_pos (hw.is hM)]
  refine ⟨v, ?_, ?_⟩
  · rintro w ⟨m, rfl⟩
    unfold Oper.quietAt
    rw [hr m _ _ hM]
    exact ⟨rfl, rfl⟩
  · rw [hd]; exact h _ (hM.put (Nat.le_of_ble_eq_true hn) v)
theorem q_skip {d j dj : Nat} {b c : Bool} (hM : Frm a n M) (hg : o.guard = some (j, b)) (hj : (ops[j]?).bind (·.dst) = some dj) (hl : lk M dj = some (.bool c)) (hc : c = !b) (hd : o.dst = some d) (hn : Nat.blt d n = true)
    (h : ∀ a', Frm a' n ((d, undef) :: M) → wpQuiet P ops (fun w' => ∃ n : Wd W, w' = n.w) Q rest a') : wpQuiet P ops (fun w' => ∃ n : Wd W, w' = n.w) Q (o :: rest) a := by
  unfold wpQuiet
  rw [if_neg (by subst hc; simp [Region.wanted, hg, hM.yield hj hl]), hd]
  exact h _ (hM.put (Nat.le_of_ble_eq_true hn) undef)
theorem q_call {d : Nat} {f : FuncId} {args : Array Value} (hM : Frm a n M) (hw : Want ops M o) (hd : o.dst = some d) (hn : Nat.blt d n = true) (hr : ∀ w : World, (execOp a.eval o).run P w = .ok (.enter f args) w)
    (hc : ∀ m : Wd W, Calls P f args m.w fun e w'' => e = .returned v ∧ ∃ m' : Wd W, w'' = m'.w)
    (h : ∀ a', Frm a' n ((d, v) :: M) → wpQuiet P ops (fun w' => ∃ n : Wd W, w' = n.w) Q rest a') : wpQuiet P ops (fun w' => ∃ n : Wd W, w' = n.w) Q (o :: rest) a := by
  unfold wpQuiet
  rw [if_pos (hw.is hM)]
  refine ⟨v, ?_, ?_⟩
  · rintro w ⟨m, rfl⟩
    unfold Oper.quietAt
    rw [hr]
    exact ⟨rfl, hc m⟩
  · rw [hd]; exact h _ (hM.put (Nat.le_of_ble_eq_true hn) v)
end
end Go.Proofs.Ytmnogefpphonlaa
