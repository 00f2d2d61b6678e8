/-
  What the walk of BatchQuotas leans on: steps of regions that draw their order (calls, new blocks, rows stored), a record put into an own row, plain facts of the records of that law.
-/
import Derived.Test.YtihpmaifcebpiaaGr09
import Derived.Test.YtihpmaifcebpiaaSegM
import Derived.Test.YtihpmaifcebpiaaGr11
import Derived.Laws.MakeOwn
set_option linter.unusedVariables false
set_option linter.unusedSimpArgs false
namespace Go.Proofs.Ytihpmaifcebpiaa
open Go.RowKit

theorem m_dep {o : Oper} {j : Nat} (h : (o.after.any fun e => Region.binds .any e && Nat.beq e.on j) = true) : ∃ e ∈ o.after, Region.binds .any e = true ∧ e.on = j := by
  obtain ⟨e, he, hb⟩ := Array.any_eq_true'.1 h
  rw [Bool.and_eq_true] at hb
  exact ⟨e, he, hb.1, Nat.eq_of_beq_eq_true hb.2⟩
section
variable {P : Program} {a : Act} {n : Nat} {M : List (Nat × Value)} {ops : Array Oper} {o : Oper} {w w' : World} {v : Value} {Q : Exit → Act → World → Prop} {K : Act → World → Prop} {i : Nat}
theorem m_val {d : Nat} (hi : ops[i]? = some o) (hM : Frm a n M) (hw : Want ops M o) (hd : o.dst = some d) (hr : (execOp a.eval o).run P w = .ok (.value v) w') (h : K (a.put (some d) v) w') : wpOp P ops Q i K a w := by
  unfold wpOp
  rw [hi]
  show (if Region.wanted o (yielded ops a.tmps) then _ else _)
  rw [if_pos (hw.is hM)]
  refine .inl ?_
  unfold Oper.wp
  rw [hr, Oper.upon_value, hd]
  exact h
theorem m_call {d : Nat} {f : FuncId} {args : Array Value} {Post : Ending → World → Prop} (hi : ops[i]? = some o) (hM : Frm a n M) (hw : Want ops M o) (hd : o.dst = some d) (hr : (execOp a.eval o).run P w = .ok (.enter f args) w)
    (hc : Calls P f args w Post) (h : ∀ e w', Post e w' → ∃ v, e = .returned v ∧ K (a.put (some d) v) w') : wpOp P ops Q i K a w := by
  unfold wpOp
  rw [hi]
  show (if Region.wanted o (yielded ops a.tmps) then _ else _)
  rw [if_pos (hw.is hM)]
  refine .inl ?_
  unfold Oper.wp
  rw [hr, Oper.upon_enter]
  refine hc.mono ?_
  intro e w' hp
  obtain ⟨v, rfl, hk⟩ := h e w' hp
  simp only [hd]
  exact hk
theorem m_putrow {listed : Array Bool} {fuel : Nat} {T : TypeId} {x y : Operand} {g : Nat} {t : TypeId} {cs C : Array Value} (q : Nat) (hq : ops[q]? = some o) (hrs : Region.ready .any ops listed = [q]) (hM : Frm a n M) (hg : o.guard = none) (hd : o.dst = none) (ho : o.op = .store T x y) (hx : opv M x = some (.pointer (some ⟨g, 0, none⟩))) (hy : opv M y = some (.agg C))
    (hb : Blk w g t cs) (hz : (P.info? T).map (·.size) = some C.size) (hs : cs.size = C.size) (h1 : ∀ u ∈ C.toList, u.oneCell' = true)
    (h : ∀ w', Blk w' g t C → w.grownBy w' (some g) → wpAny P .any ops Q fuel (listed.setIfInBounds q true) a w') : wpAny P .any ops Q (fuel + 1) listed a w := by
  refine ⟨fun h0 => absurd (hrs ▸ h0) (by simp), fun j hj => ?_⟩
  rw [hrs] at hj
  obtain rfl : j = q := by simpa using hj
  unfold wpOp
  rw [hq]
  show (if Region.wanted o (yielded ops a.tmps) then _ else _)
  rw [if_pos (by simp [Region.wanted, hg])]
  refine .inl (wp_store_row T x y ho g (hM.evo hx) t cs (.agg C) (hM.evo hy) hb hz hs h1 fun w' q1 q2 => ?_)
  rw [hd]
  exact h w' q1 q2
theorem m_done {listed : Array Bool} {fuel : Nat} (hrs : Region.ready .any ops listed = []) (h : Q .normal a w) : wpAny P .any ops Q fuel listed a w := by
  cases fuel with
  | zero => exact ⟨hrs, h⟩
  | succ f => exact ⟨fun _ => h, by rw [hrs]; simp⟩
/-- A record put into a list's cells. -/
def putR (xs : List Value) (k : Nat) (vs : List Value) : List Value := xs.take k ++ vs ++ xs.drop (k + vs.length)
theorem putR_len {xs vs : List Value} {k : Nat} (h : k + vs.length ≤ xs.length) : (putR xs k vs).length = xs.length := by
  unfold putR
  simp only [List.length_append, List.length_take, List.length_drop]
  omega
theorem putR_app {xs ys vs : List Value} {k : Nat} (h : k + vs.length ≤ xs.length) : putR (xs ++ ys) k vs = putR xs k vs ++ ys := by
  unfold putR
  rw [List.take_append_of_le_length (by omega), List.drop_append_of_le_length h]
  simp
theorem own_part {B g n c k : Nat} {e : TypeId} {size : Nat} {xs : List Value} {C : Array Value} (h : w.ownsRow B e size (.slice (some ⟨g, 0, none⟩) n c) n xs) (hk : k + C.size ≤ n * size) :
    ∃ cur, Blk w g e cur ∧ k + C.size ≤ cur.size ∧ ((w.setRow g (putAt cur k C.toList)).ownsRow B e size (.slice (some ⟨g, 0, none⟩) n c) n (putR xs k C.toList)) := by
  obtain ⟨hl, hh⟩ := h
  rcases hh with ⟨h0, _⟩ | ⟨g', cap, cur, hv, hB, hg, hn, hc, hs, ht⟩
  · cases h0
  injection hv with hA _ hcc
  injection hA with hA
  injection hA with hA
  subst hA; subst hcc
  have hle : n * size ≤ cur.toList.length := by rw [Array.length_toList, hs]; exact Nat.mul_le_mul_right _ hn
  have hk' : k + C.toList.length ≤ xs.length := by rw [Array.length_toList, hl]; exact hk
  have ec : cur.toList = xs ++ cur.toList.drop (n * size) := by rw [← ht, List.take_append_drop]
  have e2 : (putAt cur k C.toList).toList = putR xs k C.toList ++ cur.toList.drop (n * size) := by
    show putR cur.toList k C.toList = _
    rw [← putR_app hk', ← ec]
  refine ⟨cur, hg, ?_, ?_⟩
  · rw [Array.length_toList] at hle; omega
  · refine ⟨(putR_len hk').trans hl, .inr ⟨_, _, putAt cur k C.toList, rfl, hB, setRow_heap w _ cur _ e (0, 0) hg, hn, hc, ?_, ?_⟩⟩
    · rw [← Array.length_toList, e2, List.length_append, putR_len hk', hl, List.length_drop, Array.length_toList, hs]
      have := Nat.mul_le_mul_right size hn; omega
    · rw [e2, List.take_left' ((putR_len hk').trans hl)]
theorem z_putown {S : World → Prop} {fuel z : Nat} {listed : Array Bool} {T : TypeId} {x y : Operand} {g k : Nat} {e : TypeId} {B m c size : Nat} {xs : List Value} {C : Array Value} (hz : ops[z]? = some o) (hrs : Region.ready .any ops listed = [z]) (hM : Frm a n M) (hg : o.guard = none) (hd : o.dst = none) (ho : o.op = .store T x y) (hx : opv M x = some (.pointer (some ⟨g, k, none⟩))) (hy : opv M y = some (.agg C))
    (hown : w.ownsRow B e size (.slice (some ⟨g, 0, none⟩) m c) m xs) (hk : k + C.size ≤ m * size) (hi : (P.info? T).map (·.size) = some C.size) (h1 : ∀ u ∈ C.toList, u.oneCell' = true) (hnil : Region.ready .any ops (listed.setIfInBounds z true) = [])
    (h : ∀ w', w'.ownsRow B e size (.slice (some ⟨g, 0, none⟩) m c) m (putR xs k C.toList) → w.grownBy w' (some g) → K a w') : wpAnyZ P ops (OnlyN K) S z (fuel + 1) listed a w := by
  obtain ⟨cur, hb, hle, ho2⟩ := own_part hown hk
  refine z_only z hrs ?_
  have hr := run_storeVar_part (P := P) w g k e T cur (.agg C) hb hi hle h1
  unfold wpOp
  rw [hz]
  show (if Region.wanted o (yielded ops a.tmps) then _ else _)
  rw [if_pos (by simp [Region.wanted, hg])]
  refine .inl ?_
  have hr2 : (execOp a.eval o).run P w = .ok .skip (w.setRow g (putAt cur k C.toList)) := by
    unfold execOp
    simp only [ho, hM.evo hx, hM.evo hy, Instr.storeAt, Instr.sureAddr, Sem.run_bind, Sem.run_pure, Result.andThen_ok, hr]
    rfl
  unfold Oper.wp
  rw [hr2, Oper.upon_skip, hd]
  refine ⟨.inl rfl, ?_⟩
  have hk := h _ ho2 (grown_setRow w g _)
  cases fuel with
  | zero => exact ⟨hnil, rfl, hk⟩
  | succ f => exact ⟨fun _ => ⟨rfl, hk⟩, by rw [hnil]; simp⟩
end
theorem putR_txs {l : List TxD} {j : Nat} {t : TxD} (hj : j < l.length) : putR (txsC l) (j * 4) (txC t) = txsC (l.set j t) := by
  induction l generalizing j with
  | nil => simp at hj
  | cons a l ih =>
    cases j with
    | zero => simp [putR, txsC, txC]
    | succ j =>
      have h := ih (j := j) (by simpa using hj)
      rw [List.set_cons_succ, txsC, List.flatMap_cons]
      show _ = txC a ++ txsC (l.set j t)
      rw [← h]
      have e4 : (txC a).length = 4 := rfl
      unfold putR
      rw [show (j + 1) * 4 = (txC a).length + j * 4 by rw [e4]; omega, List.take_length_add_append, Nat.add_assoc, List.drop_length_add_append]
      simp [txsC]
def OwnR (w : World) (B : Nat) (e : TypeId) (size : Nat) (v : Value) (n : Nat) (xs : List Value) : Prop := w.ownsRow B e size v n xs
theorem OwnR.below {w w' : World} {B n size : Nat} {e : TypeId} {v : Value} {xs : List Value} (h : OwnR w B e size v n xs) (hb : Below w.heap.size w w') : OwnR w' B e size v n xs := own_later h hb
theorem own_in {w : World} {base size n : Nat} {e : TypeId} {v : Value} {xs : List Value} (h : w.ownsRow base e size v n xs) {g : Nat} (hg : v.ownBlock = some g) : g < w.heap.size := (h.lt g hg).2
theorem own_keep {w w' : World} {B n size : Nat} {e : TypeId} {v : Value} {xs : List Value} {row : Option Nat} (h : w.ownsRow B e size v n xs) (hg : w.grownBy w' row) (hne : ∀ b, row = some b → v.ownBlock ≠ some b) : w'.ownsRow B e size v n xs := by
  refine ⟨h.1, ?_⟩
  rcases h.2 with h0 | ⟨g, cap, cur, rfl, hbg, hh, hr⟩
  · exact .inl h0
  · exact .inr ⟨g, cap, cur, rfl, hbg, (hg.block g (own_in h rfl) (fun e => hne g e.symm rfl)).trans hh, hr⟩
theorem below_grown_own {W0 w w' : World} {n size : Nat} {e : TypeId} {v : Value} {xs : List Value} (hb : Below W0.heap.size W0 w) (h : w.ownsRow W0.heap.size e size v n xs) (hg : w.grownBy w' v.ownBlock) : Below W0.heap.size W0 w' := hb.grown hg hb.size (fun b hb => (h.lt b hb).1)
theorem news_row {w : World} {g : Nat} {t : TypeId} {D : Array Value} (h : Blk w g t D) : ∀ j u, D.toList[j]? = some u → w.cell? ((⟨g, 0, none⟩ : Addr).add j) = some u := fun j u hu => by
  have e : (⟨g, 0, none⟩ : Addr).add j = ⟨g, j, none⟩ := by rw [add_lit, Nat.zero_add]
  rw [e]; exact h.at_ (by simpa using hu)
/-- The records of this law. -/
def zk : ByteArray := tx (List.replicate 16 0)
def zv : ByteArray := tx (List.replicate 32 0)
theorem zk_size : zk.size = 16 := by rw [zk, tx_size]; rfl
theorem zv_size : zv.size = 32 := by rw [zv, tx_size]; rfl
def tT : TxD := ⟨1099511627776, 1099511627776, zk, zv⟩
theorem may_tT : mayTx tT = true := mayTx_iff.2 ⟨by decide, by decide, by show 1 ≤ zk.size ∧ zk.size ≤ 16; rw [zk_size]; decide, by show zv.size ≤ 32; rw [zv_size]; decide⟩
def tL (k : Nat) : List TxD := List.replicate k tT
theorem tL_len (k : Nat) : (tL k).length = k := by simp [tL]
theorem tL_snoc (k : Nat) : tL (k + 1) = tL k ++ [tT] := by rw [tL, List.replicate_succ']; rfl
def Sm (l : List TxD) : Prop := ∀ t ∈ l, t.k.size ≤ 100 ∧ t.v.size ≤ 100
theorem Sm.z {l : List TxD} (h : Sm l) : TxZ l := fun t ht => by have := h t ht; omega
theorem sm_tT : tT.k.size ≤ 100 ∧ tT.v.size ≤ 100 := by
  show zk.size ≤ 100 ∧ zv.size ≤ 100
  rw [zk_size, zv_size]; decide
theorem sm_tL (k : Nat) : Sm (tL k) := fun t ht => by
  obtain rfl := List.eq_of_mem_replicate ht
  exact sm_tT
theorem may8 : mayB 16 1099511627776 (tL 8) = true := mayB_iff.2 ⟨by decide, by decide, by rw [tL_len]; decide, fun t ht => by
  obtain rfl := List.eq_of_mem_replicate ht
  exact may_tT⟩
theorem mayB_no {a n : Int} {l : List TxD} (h : ¬ ((1 ≤ a ∧ a ≤ 16) ∧ (1 ≤ n ∧ n ≤ 1099511627776) ∧ (1 ≤ l.length ∧ l.length ≤ 8) ∧ ∀ t ∈ l, mayTx t = true)) : mayB a n l = false := by
  rw [← mayB_iff] at h
  exact Bool.eq_false_iff.2 h
theorem may9 : mayB 16 1099511627776 (tL 8 ++ [tT]) = false := mayB_no (fun h => by have := h.2.2.1.2; rw [List.length_append, tL_len] at this; simp at this)
theorem may0 : mayB 16 1099511627776 [] = false := mayB_no (fun h => by have := h.2.2.1.1; simp at this)
theorem may17 : mayB 17 1099511627776 (tL 8) = false := mayB_no (fun h => by have := h.1.2; omega)
theorem mayN1 : mayB 16 1099511627777 (tL 8) = false := mayB_no (fun h => by have := h.2.1.2; omega)
def x1 : ByteArray := ⟨#[120]⟩
/-- The seven. -/
def bsL (s q : Int) (k v k2 : ByteArray) (s2 q2 : Int) : List TxD := [⟨s, 1099511627776, zk, zv⟩, ⟨1099511627776, q, zk, zv⟩, ⟨1099511627776, 1099511627776, k, zv⟩, ⟨1099511627776, 1099511627776, zk, v⟩, ⟨1099511627776, 1099511627776, k2, zv⟩, ⟨s2, 1099511627776, zk, zv⟩, ⟨1099511627776, q2, zk, zv⟩]
def bsC (s q : Int) (k v k2 : ByteArray) (s2 q2 : Int) : Array Value := #[.int .i64 s, .int .i64 1099511627776, .string zk, .string zv, .int .i64 1099511627776, .int .i64 q, .string zk, .string zv, .int .i64 1099511627776, .int .i64 1099511627776, .string k, .string zv,
  .int .i64 1099511627776, .int .i64 1099511627776, .string zk, .string v, .int .i64 1099511627776, .int .i64 1099511627776, .string k2, .string zv, .int .i64 s2, .int .i64 1099511627776, .string zk, .string zv, .int .i64 1099511627776, .int .i64 q2, .string zk, .string zv]
theorem bsC_eq {s q : Int} {k v k2 : ByteArray} {s2 q2 : Int} : (bsC s q k v k2 s2 q2).toList = txsC (bsL s q k v k2 s2 q2) := rfl
theorem bsC_sz {s q : Int} {k v k2 : ByteArray} {s2 q2 : Int} : (bsC s q k v k2 s2 q2).size = 28 := rfl
section
variable {s q s' : Int} {k v k2 k' : ByteArray} {s2 q2 : Int}
theorem bs_0 : (bsC s q k v k2 s2 q2).setIfInBounds 0 (.int .i64 s') = bsC s' q k v k2 s2 q2 := by kernel_rfl
theorem bs_1 : (bsC s q k v k2 s2 q2).setIfInBounds 5 (.int .i64 s') = bsC s s' k v k2 s2 q2 := by kernel_rfl
theorem bs_2 : (bsC s q k v k2 s2 q2).setIfInBounds 10 (.string k') = bsC s q k' v k2 s2 q2 := by kernel_rfl
theorem bs_3 : (bsC s q k v k2 s2 q2).setIfInBounds 15 (.string k') = bsC s q k k' k2 s2 q2 := by kernel_rfl
theorem bs_4 : (bsC s q k v k2 s2 q2).setIfInBounds 18 (.string k') = bsC s q k v k' s2 q2 := by kernel_rfl
theorem bs_5 : (bsC s q k v k2 s2 q2).setIfInBounds 20 (.int .i64 s') = bsC s q k v k2 s' q2 := by kernel_rfl
theorem bs_6 : (bsC s q k v k2 s2 q2).setIfInBounds 25 (.int .i64 s') = bsC s q k v k2 s2 s' := by kernel_rfl
end
def b7 : List TxD := bsL 1099511627777 1099511627777 (zk ++ x1) (zv ++ x1) ⟨#[]⟩ 0 0
theorem b7_len : b7.length = 7 := rfl
theorem kx_size : (zk ++ x1).size = 17 := by rw [ByteArray.size_append, zk_size]; rfl
theorem vx_size : (zv ++ x1).size = 33 := by rw [ByteArray.size_append, zv_size]; rfl
theorem b7_bad {t : TxD} (h : t ∈ b7) : mayTx t = false ∧ t.k.size ≤ 100 ∧ t.v.size ≤ 100 := by
  have hno : ¬ ((1 ≤ t.s ∧ t.s ≤ 1099511627776) ∧ (1 ≤ t.q ∧ t.q ≤ 1099511627776) ∧ (1 ≤ t.k.size ∧ t.k.size ≤ 16) ∧ t.v.size ≤ 32) ∧ t.k.size ≤ 100 ∧ t.v.size ≤ 100 := by
    have h1 := kx_size
    have h2 := vx_size
    have h3 := zk_size
    have h4 := zv_size
    have h5 : (⟨#[]⟩ : ByteArray).size = 0 := rfl
    simp only [b7, bsL, List.mem_cons, List.not_mem_nil, or_false] at h
    rcases h with rfl | rfl | rfl | rfl | rfl | rfl | rfl <;> simp only [h1, h2, h3, h4, h5] <;> omega
  exact ⟨Bool.eq_false_iff.2 (fun h => hno.1 (mayTx_iff.1 h)), hno.2⟩
theorem may_bad {j : Nat} {t : TxD} (hj : j < 8) (h : mayTx t = false) : mayB 16 1099511627776 ((tL 8).set j t) = false := mayB_no (fun hh => by
  have := hh.2.2.2 t (List.mem_set (h := by rw [tL_len]; exact hj) ..)
  rw [h] at this; cases this)
theorem sm_bad {j : Nat} {t : TxD} (h : t.k.size ≤ 100 ∧ t.v.size ≤ 100) : Sm ((tL 8).set j t) := fun u hu => by
  rcases List.mem_or_eq_of_mem_set hu with hu | rfl
  · exact sm_tL 8 u hu
  · exact h
theorem rng_tx {w : World} {g : Nat} {T : TypeId} {C : Array Value} {L : List TxD} {j : Nat} {t : TxD} (h : Blk w g T C) (hC : C.toList = txsC L) (ht : L[j]? = some t) : Rng w g (j * 4) (txC t).toArray :=
  ⟨h.lt, fun i v hi => h.at_ (by
    have hi' : (txC t)[i]? = some v := by simpa using hi
    have h4 : i < 4 := (List.getElem?_eq_some_iff.1 hi').1
    have := txsC_at L j t ht i v h4 hi'
    rw [← hC] at this
    simpa using this)⟩
theorem one_tx (t : TxD) : ∀ u ∈ (txC t).toArray.toList, u.oneCell' = true := by simp [txC, Value.oneCell']
def zT4 : Array Value := #[.int .i64 0, .int .i64 0, .string ⟨#[]⟩, .string ⟨#[]⟩]
def zB3 : Array Value := #[.int .i64 0, .int .i64 0, .slice none 0 0]
def bC (a n : Int) (A : Option Addr) (m c : Nat) : Array Value := #[.int .i64 a, .int .i64 n, .slice A m c]
theorem alloc_tx (w : World) : (Instr.alloc 67 true (.tuple #[])).run Try.prog w = .ok (.pointer (some ⟨w.heap.size, 0, none⟩)) (w.alloc (.cells zT4 67)) := by
  simp [go_sem, zT4]
theorem alloc_bat (w : World) : (Instr.alloc 26 true (.tuple #[])).run Try.prog w = .ok (.pointer (some ⟨w.heap.size, 0, none⟩)) (w.alloc (.cells zB3 26)) := by
  simp [go_sem, zB3]
theorem info_tx4 : (Try.prog.info? 67).map (·.size) = some 4 := by kernel_rfl
theorem info_bat3 : (Try.prog.info? 26).map (·.size) = some 3 := by kernel_rfl
theorem one_bC {a n : Int} {A : Option Addr} {m c : Nat} : ∀ z ∈ (bC a n A m c).toList, z.oneCell' = true := by simp [bC, Value.oneCell']
theorem made_bytes (k : Nat) : madeCells (Value.int .u8 0).cells (k * 1) = (bytes8 (List.replicate k 0)).toArray := by
  refine Array.ext (by simp [madeCells, bytes8]) fun i h1 h2 => ?_
  simp [madeCells, bytes8, Value.cells, Nat.mod_one]
theorem b_cat {P : Program} {ty : TypeId} {p q : ByteArray} (h : p.size + q.size ≤ 9223372036854775807) (w : World) : (binOp .add ty (.string p) (.string q)).run P w = .ok (.string (p ++ q)) w := by
  simp [binOp, go_sem, h]
theorem g_str {P : Program} {ty : TypeId} {x y : Operand} {p q : ByteArray} (w : World) : (eqGuard .add ty x y (.string p) (.string q)).run P w = .ok () w := by
  simp [eqGuard, go_sem]
theorem st_str {P : Program} {T : TypeId} {g k : Nat} {z : ByteArray} (hu : P.underlying T = some .string) (hz : (P.info? T).map (·.size) = some 1) (w : World) (h1 : (w.cell? ⟨g, k, none⟩).isSome = true) (h2 : w.frozen? ⟨g, k, none⟩ = false) :
    (Instr.storeAt T (.pointer (some ⟨g, k, none⟩)) (.string z)).run P w = .ok () (w.setCell ⟨g, k, none⟩ (.string z)) := by
  obtain ⟨u, hu'⟩ := Option.isSome_iff_exists.1 h1
  obtain ⟨i, hi, hi1⟩ := Option.map_eq_some_iff.1 hz
  simp [Instr.storeAt, Instr.sureAddr, storeVar, sizeOf, typeInfo, Sem.run_bind, hi, hi1, go_sem, hu', h2]
section
variable {P : Program} {a : Act} {n : Nat} {M : List (Nat × Value)} {ops : Array Oper} {o : Oper} {w w' : World} {v : Value} {Q : Exit → Act → World → Prop} {K : Act → World → Prop} {i : Nat}
theorem m_putown {fuel q : Nat} {listed : Array Bool} {T : TypeId} {x y : Operand} {g k : Nat} {e : TypeId} {B m c size : Nat} {xs : List Value} {C : Array Value} (hz : ops[q]? = some o) (hrs : Region.ready .any ops listed = [q]) (hM : Frm a n M) (hg : o.guard = none) (hd : o.dst = none) (ho : o.op = .store T x y) (hx : opv M x = some (.pointer (some ⟨g, k, none⟩))) (hy : opv M y = some (.agg C))
    (hown : w.ownsRow B e size (.slice (some ⟨g, 0, none⟩) m c) m xs) (hk : k + C.size ≤ m * size) (hi : (P.info? T).map (·.size) = some C.size) (h1 : ∀ u ∈ C.toList, u.oneCell' = true)
    (h : ∀ w', w'.ownsRow B e size (.slice (some ⟨g, 0, none⟩) m c) m (putR xs k C.toList) → w.grownBy w' (some g) → wpAny P .any ops Q fuel (listed.setIfInBounds q true) a w') : wpAny P .any ops Q (fuel + 1) listed a w := by
  obtain ⟨cur, hb, hle, ho2⟩ := own_part hown hk
  have hr := run_storeVar_part (P := P) w g k e T cur (.agg C) hb hi hle h1
  refine ⟨fun h0 => absurd (hrs ▸ h0) (by simp), fun j hj => ?_⟩
  rw [hrs] at hj
  obtain rfl : j = q := by simpa using hj
  unfold wpOp
  rw [hz]
  show (if Region.wanted o (yielded ops a.tmps) then _ else _)
  rw [if_pos (by simp [Region.wanted, hg])]
  refine .inl ?_
  have hr2 : (execOp a.eval o).run P w = .ok .skip (w.setRow g (putAt cur k C.toList)) := by
    unfold execOp
    simp only [ho, hM.evo hx, hM.evo hy, Instr.storeAt, Instr.sureAddr, Sem.run_bind, Sem.run_pure, Result.andThen_ok, hr]
    rfl
  unfold Oper.wp
  rw [hr2, Oper.upon_skip, hd]
  exact h _ ho2 (grown_setRow w g _)
theorem run_mk {t e : TypeId} {k : Nat} {ti : TypeInfo} (ho : o.op = .makeSlice t (.const (.int .i64 (k : Int))) (.const (.int .i64 (k : Int)))) (ht : P.underlying t = some (.slice e)) (hi : P.info? e = some ti) (hz : ti.zero = some (.int .u8 0)) (hs : ti.size = 1) (hb : ti.bytes = 1) (hk : k ≤ 100) :
    (execOp a.eval o).run P w = .ok (.value (.slice (some ⟨w.heap.size, 0, none⟩) k k)) (w.alloc (.cells (bytes8 (List.replicate k 0)).toArray e)) := by
  have h := run_makeSlice (P := P) w t e ti (.int .u8 0) ht hi hz .i64 .i64 (k : Int) (k : Int) (by omega) (by omega) (by rw [hs, Int.toNat_natCast]; omega) (by rw [hb]; omega) (by omega)
  rw [hs, Int.toNat_natCast, made_bytes] at h
  simp only [execOp, ho, Act.eval]
  simp [Sem.run_bind, h]
theorem ev_cstr {s d e : TypeId} {x : Operand} {A : Option Addr} {m c : Nat} {bs : List UInt8} (ho : o.op = .convert s d x) (hx : opv M x = some (.slice A m c)) (hs : P.underlying s = some (.slice e)) (he : P.underlying e = some (.int .u8)) (hd : P.underlying d = some .string) (hsl : Sl w 1 A m (bytes8 bs)) : Ev P M o w (.string (tx bs)) := fun a n hM => by
  have h := run_str_of_bytes (P := P) w s d e hs he hd (c := c) hsl
  simp only [execOp, ho, hM.evo hx]
  simp [Sem.run_bind, h]
end
theorem batch_TxA {t : TxD} {C : Array Value} (hC : C = (txC t).toArray) (w : World) (hk : t.k.size ≤ 100 ∧ t.v.size ≤ 100) {r : Bool} (hr : Hid (mayTx t = r)) :
    Calls Try.prog 37 #[.agg C] w fun e w' => e = .returned (.int .i64 (formE r)) ∧ Below w.heap.size w w' := by
  subst hC
  exact batch_Tx t w (by omega) (by omega) hr
theorem bC_set0 {a n a' : Int} {A : Option Addr} {m c : Nat} : (bC a n A m c).setIfInBounds 0 (.int .i64 a') = bC a' n A m c := by kernel_rfl
theorem bC_set1 {a n a' : Int} {A : Option Addr} {m c : Nat} : (bC a n A m c).setIfInBounds 1 (.int .i64 a') = bC a a' A m c := by kernel_rfl
theorem bC_set2 {a n : Int} {A A' : Option Addr} {m c m' c' : Nat} : (bC a n A m c).setIfInBounds 2 (.slice A' m' c') = bC a n A' m' c' := by kernel_rfl
theorem bC_sz {a n : Int} {A : Option Addr} {m c : Nat} : (bC a n A m c).size = 3 := rfl
/-- Four copies of a batch, their rows of records apart. -/
structure QB (w : World) (B g1 g2 g3 g4 : Nat) (C1 C2 C3 C4 : Array Value) (V1 : Value) (n1 : Nat) (l1 : List TxD) (V3 V4 : Value) : Prop where
  k1 : Blk w g1 26 C1
  k2 : Blk w g2 26 C2
  k3 : Blk w g3 26 C3
  k4 : Blk w g4 26 C4
  o1 : w.ownsRow B 67 4 V1 n1 (txsC l1)
  o3 : w.ownsRow B 67 4 V3 8 (txsC (tL 8))
  o4 : w.ownsRow B 67 4 V4 8 (txsC (tL 8))
  a3 : ∀ b, V1.ownBlock = some b → V3.ownBlock ≠ some b
  a4 : ∀ b, V1.ownBlock = some b → V4.ownBlock ≠ some b
  ne : g1 ≠ g2 ∧ g1 ≠ g3 ∧ g1 ≠ g4 ∧ g2 ≠ g3 ∧ g2 ≠ g4 ∧ g3 ≠ g4
  lo : B ≤ g1 ∧ B ≤ g2 ∧ B ≤ g3 ∧ B ≤ g4
section
variable {w w' : World} {B g1 g2 g3 g4 n1 : Nat} {C1 C2 C3 C4 C' : Array Value} {V1 V1' V3 V4 : Value} {l1 l1' : List TxD}
theorem QB.below (h : QB w B g1 g2 g3 g4 C1 C2 C3 C4 V1 n1 l1 V3 V4) (hb : Below w.heap.size w w') : QB w' B g1 g2 g3 g4 C1 C2 C3 C4 V1 n1 l1 V3 V4 :=
  ⟨h.k1.on hb, h.k2.on hb, h.k3.on hb, h.k4.on hb, own_later h.o1 hb, own_later h.o3 hb, own_later h.o4 hb, h.a3, h.a4, h.ne, h.lo⟩
theorem QB.ow {V : Value} {n : Nat} {xs : List Value} {g : Nat} {C : Array Value} (ho : w.ownsRow B 67 4 V n xs) (hk : Blk w g 26 C) (hg : w.grownBy w' (some g)) : w'.ownsRow B 67 4 V n xs :=
  own_keep ho hg (fun b hb => by injection hb with hb; subst hb; exact own_blk_ne ho hk (by decide))
theorem QB.put1 (h : QB w B g1 g2 g3 g4 C1 C2 C3 C4 V1 n1 l1 V3 V4) (hk : Blk w' g1 26 C') (hg : w.grownBy w' (some g1)) : QB w' B g1 g2 g3 g4 C' C2 C3 C4 V1 n1 l1 V3 V4 :=
  ⟨hk, h.k2.grown hg (by have := h.ne; intro e; injection e; omega), h.k3.grown hg (by have := h.ne; intro e; injection e; omega), h.k4.grown hg (by have := h.ne; intro e; injection e; omega), QB.ow h.o1 h.k1 hg, QB.ow h.o3 h.k1 hg, QB.ow h.o4 h.k1 hg, h.a3, h.a4, h.ne, h.lo⟩
theorem QB.put2 (h : QB w B g1 g2 g3 g4 C1 C2 C3 C4 V1 n1 l1 V3 V4) (hk : Blk w' g2 26 C') (hg : w.grownBy w' (some g2)) : QB w' B g1 g2 g3 g4 C1 C' C3 C4 V1 n1 l1 V3 V4 :=
  ⟨h.k1.grown hg (by have := h.ne; intro e; injection e; omega), hk, h.k3.grown hg (by have := h.ne; intro e; injection e; omega), h.k4.grown hg (by have := h.ne; intro e; injection e; omega), QB.ow h.o1 h.k2 hg, QB.ow h.o3 h.k2 hg, QB.ow h.o4 h.k2 hg, h.a3, h.a4, h.ne, h.lo⟩
theorem QB.put3 (h : QB w B g1 g2 g3 g4 C1 C2 C3 C4 V1 n1 l1 V3 V4) (hk : Blk w' g3 26 C') (hg : w.grownBy w' (some g3)) : QB w' B g1 g2 g3 g4 C1 C2 C' C4 V1 n1 l1 V3 V4 :=
  ⟨h.k1.grown hg (by have := h.ne; intro e; injection e; omega), h.k2.grown hg (by have := h.ne; intro e; injection e; omega), hk, h.k4.grown hg (by have := h.ne; intro e; injection e; omega), QB.ow h.o1 h.k3 hg, QB.ow h.o3 h.k3 hg, QB.ow h.o4 h.k3 hg, h.a3, h.a4, h.ne, h.lo⟩
theorem QB.put4 (h : QB w B g1 g2 g3 g4 C1 C2 C3 C4 V1 n1 l1 V3 V4) (hk : Blk w' g4 26 C') (hg : w.grownBy w' (some g4)) : QB w' B g1 g2 g3 g4 C1 C2 C3 C' V1 n1 l1 V3 V4 :=
  ⟨h.k1.grown hg (by have := h.ne; intro e; injection e; omega), h.k2.grown hg (by have := h.ne; intro e; injection e; omega), h.k3.grown hg (by have := h.ne; intro e; injection e; omega), hk, QB.ow h.o1 h.k4 hg, QB.ow h.o3 h.k4 hg, QB.ow h.o4 h.k4 hg, h.a3, h.a4, h.ne, h.lo⟩
theorem QB.app (h : QB w B g1 g2 g3 g4 C1 C2 C3 C4 V1 n1 l1 V3 V4) {n' : Nat} (ho : w'.ownsRow B 67 4 V1' n' (txsC l1')) (hg : w.grownBy w' V1.ownBlock) (hb : V1'.ownBlock = V1.ownBlock ∨ V1'.ownBlock = some w.heap.size) : QB w' B g1 g2 g3 g4 C1 C2 C3 C4 V1' n' l1' V3 V4 := by
  have hap : ∀ V : Value, (∀ b, V.ownBlock = some b → b < w.heap.size) → (∀ b, V1.ownBlock = some b → V.ownBlock ≠ some b) → ∀ b, V1'.ownBlock = some b → V.ownBlock ≠ some b := fun V hl ha b h1 h2 => by
    rcases hb with e | e
    · rw [e] at h1; exact ha b h1 h2
    · rw [e] at h1; injection h1 with h1; have := hl b h2; omega
  refine ⟨h.k1.grown hg (Ne.symm (own_blk_ne h.o1 h.k1 (by decide))), h.k2.grown hg (Ne.symm (own_blk_ne h.o1 h.k2 (by decide))), h.k3.grown hg (Ne.symm (own_blk_ne h.o1 h.k3 (by decide))), h.k4.grown hg (Ne.symm (own_blk_ne h.o1 h.k4 (by decide))), ho, own_keep h.o3 hg (fun b hb => h.a3 b hb), own_keep h.o4 hg (fun b hb => h.a4 b hb), hap V3 (fun b => own_in h.o3) h.a3, hap V4 (fun b => own_in h.o4) h.a4, h.ne, h.lo⟩
end
end Go.Proofs.Ytihpmaifcebpiaa
