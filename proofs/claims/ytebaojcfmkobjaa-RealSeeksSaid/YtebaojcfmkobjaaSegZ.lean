/-
  Regions that draw their order and store last: what only reads is taken first, for the last operation waits for all. Over any program.
-/
import Derived.Test.YtebaojcfmkobjaaGr30
set_option linter.unusedVariables false
set_option linter.unusedSimpArgs false
namespace Go.Proofs.Ytebaojcfmkobjaa
open Go.RowKit

section
variable {P : Program} {ops : Array Oper} {Q : Exit → Act → World → Prop} {S : World → Prop}
def wpAnyZ (P : Program) (ops : Array Oper) (Q : Exit → Act → World → Prop) (S : World → Prop) (z : Nat) : Nat → Array Bool → Act → World → Prop
  | 0, listed, a, w => Region.ready .any ops listed = [] ∧ Q .normal a w
  | fuel + 1, listed, a, w => (Region.ready .any ops listed = [] → Q .normal a w) ∧
    ∀ i ∈ Region.ready .any ops listed, wpOp P ops Q i (fun a' w' => (i = z ∨ S w') ∧ wpAnyZ P ops Q S z fuel (listed.setIfInBounds i true) a' w') a w
theorem wpAny_of_z {z : Nat} : ∀ (fuel : Nat) (listed : Array Bool) (a : Act) (w : World), wpAnyZ P ops Q S z fuel listed a w → wpAny P .any ops Q fuel listed a w
  | 0, _, _, _, h => h
  | fuel + 1, _, _, _, h => ⟨h.1, fun i hi => wpOp_mono (fun a' w' h' => wpAny_of_z fuel _ a' w' h'.2) (h.2 i hi)⟩
def Closed (ops : Array Oper) (listed : Array Bool) : Prop := ∀ (j : Nat) (o : Oper), ops[j]? = some o → listed.getD j false = true → ∀ e ∈ o.after, Region.binds .any e = true → listed.getD e.on false = true
def closedB (ops : Array Oper) (listed : Array Bool) : Bool := (List.range ops.size).all fun j => !listed.getD j false || ((ops[j]?).map (·.after.all fun e => !Region.binds .any e || listed.getD e.on false)).getD true
theorem closed_of {listed : Array Bool} (h : closedB ops listed = true) : Closed ops listed := by
  intro j o ho hl e he hb
  have hj : j < ops.size := (Array.getElem?_eq_some_iff.1 ho).1
  have h1 := List.all_eq_true.1 h j (List.mem_range.2 hj)
  rw [hl, ho] at h1
  simp only [Bool.not_true, Bool.false_or, Option.map_some, Option.getD_some] at h1
  have h2 := Array.all_eq_true_iff_forall_mem.1 h1 e he
  rw [hb] at h2
  simpa using h2
theorem closed_step {listed : Array Bool} {j : Nat} (h : Closed ops listed) (hj : j ∈ Region.ready .any ops listed) : Closed ops (listed.setIfInBounds j true) := by
  intro k o ho hl e he hb
  by_cases hkj : j = k
  · subst hkj
    obtain ⟨_, o', ho', hall⟩ := mem_ready.1 hj
    rw [ho] at ho'
    injection ho' with ho'
    subst ho'
    exact getD_set_true (hall e he hb)
  · rw [getD_set_ne false hkj] at hl
    exact getD_set_true (h k o ho hl e he hb)
def anc (ops : Array Oper) : Nat → Nat → Nat → Bool
  | 0, j, i => j == i
  | n + 1, j, i => j == i || ((ops[j]?).map (·.after.any fun e => Region.binds .any e && anc ops n e.on i)).getD false
theorem closed_anc {listed : Array Bool} (h : Closed ops listed) : ∀ (n j i : Nat), listed.getD j false = true → anc ops n j i = true → listed.getD i false = true
  | 0, j, i, hl, ha => by
    have : j = i := by simpa [anc] using ha
    subst this; exact hl
  | n + 1, j, i, hl, ha => by
    unfold anc at ha
    rcases Bool.or_eq_true_iff.1 ha with ha | ha
    · have : j = i := by simpa using ha
      subst this; exact hl
    · cases ho : ops[j]? with
      | none => rw [ho] at ha; simp at ha
      | some o =>
        rw [ho] at ha
        simp only [Option.map_some, Option.getD_some] at ha
        obtain ⟨e, he, hb⟩ := Array.any_eq_true'.1 ha
        rw [Bool.and_eq_true] at hb
        exact closed_anc h n e.on i (h j o ho hl e he hb.1) hb.2
theorem ready_anc {listed : Array Bool} (h : Closed ops listed) {n z i : Nat} (hz : z ∈ Region.ready .any ops listed) (hne : i ≠ z) (ha : anc ops n z i = true) : listed.getD i false = true := by
  cases n with
  | zero => exact absurd (by simpa [anc] using ha : z = i).symm hne
  | succ n =>
    unfold anc at ha
    rcases Bool.or_eq_true_iff.1 ha with ha | ha
    · exact absurd (by simpa using ha : z = i).symm hne
    · obtain ⟨_, o, ho, hall⟩ := mem_ready.1 hz
      rw [ho] at ha
      simp only [Option.map_some, Option.getD_some] at ha
      obtain ⟨e, he, hb⟩ := Array.any_eq_true'.1 ha
      rw [Bool.and_eq_true] at hb
      exact closed_anc h n e.on i (hall e he hb.1) hb.2
theorem wpAnyZ_first {i z n : Nat} {oi : Oper} {v : Value} (hiz : i ≠ z) (hza : anc ops n z i = true) (hi : ops[i]? = some oi) (hsel : ∀ (j : Nat) (o : Oper) cs b, ops[j]? = some o → o.op ≠ .select cs b)
    (hQ : ∀ c a w, Q (.panic c) (a.put oi.dst v) w → Q (.panic c) a w) :
    ∀ (fuel : Nat) (listed : Array Bool) (a : Act) (w : World), Closed ops listed →
      (∀ j oj, ops[j]? = some oj → j ≠ i → listed.getD j true = false → (∀ e ∈ oj.after, Region.binds .any e = true → e.on ≠ i) → oi.apart ops oj = true) →
      i ∈ Region.ready .any ops listed → YieldsIf P ops S oi v a → S w →
      wpAnyZ P ops Q S z fuel (listed.setIfInBounds i true) (a.put oi.dst v) w → wpAnyZ P ops Q S z (fuel + 1) listed a w := by
  intro fuel
  induction fuel with
  | zero =>
    intro listed a w _ _ hr hy hS H
    refine ⟨fun h => (by rw [h] at hr; cases hr), fun j hj => ?_⟩
    by_cases hji : j = i
    · subst hji; exact hy.wpOp hi hS ⟨.inr hS, H⟩
    · have := ready_mono hj hji
      rw [H.1] at this
      cases this
  | succ fuel ih =>
    intro listed a w hcl hfree hr hy hS H
    refine ⟨fun h => (by rw [h] at hr; cases hr), fun j hj => ?_⟩
    by_cases hji : j = i
    · subst hji; exact hy.wpOp hi hS ⟨.inr hS, H⟩
    · have hun : ∀ b, listed.getD i false = true → listed.getD i true = b → b = true := fun b h0 h1 => by
        rcases Nat.lt_or_ge i listed.size with h' | h'
        · simp [h'] at h0 h1; rw [← h1, h0]
        · simp [Array.getElem?_eq_none h'] at h0
      have hjz : j ≠ z := fun e => by
        subst e
        have h0 := ready_anc hcl hj hiz hza
        exact absurd (hun false h0 (mem_ready.1 hr).1) (by decide)
      have h1 := H.2 j (ready_mono hj hji)
      obtain ⟨hjun, oj, hoj, hall⟩ := mem_ready.1 hj
      have hnot : ∀ e ∈ oj.after, Region.binds .any e = true → e.on ≠ i := fun e he hb heq => by
        have h1 := hall e he hb
        rw [heq] at h1
        exact absurd (hun false h1 (mem_ready.1 hr).1) (by decide)
      have h2 := wpOp_putIf hoj (hfree j oj hoj hji hjun hnot) (fun cs b => hsel i oi cs b hi) (fun cs b => hsel j oj cs b hoj) hQ hy h1
      have hfree' : ∀ k ok, ops[k]? = some ok → k ≠ i → (listed.setIfInBounds j true).getD k true = false →
          (∀ e ∈ ok.after, Region.binds .any e = true → e.on ≠ i) → oi.apart ops ok = true := fun k ok hk hki hun hno => by
        refine hfree k ok hk hki ?_ hno
        by_cases hjk : j = k
        · subst hjk; exact hjun
        · rw [getD_set_ne true hjk] at hun; exact hun
      refine wpOp_mono (fun a' w' h3 => ?_) h2
      have hS' := h3.2.1.resolve_left hjz
      refine ⟨.inr hS', ih (listed.setIfInBounds j true) a' w' (closed_step hcl hj) hfree' (ready_mono hr (Ne.symm hji)) h3.1 hS' ?_⟩
      rw [Array.setIfInBounds_comm _ _ hji]
      exact h3.2.2
end
section
variable {P : Program} {a : Act} {n : Nat} {M M' : List (Nat × Value)} {ops : Array Oper} {o : Oper} {w w' W : World} {v : Value} {Q : Exit → Act → World → Prop} {K : Act → World → Prop} {S : World → Prop} {fuel z : Nat} {listed : Array Bool}
theorem z_open {id : Nat} {l : List Oper} {B : Code} (N z : Nat) (hN : l.length = N) (hm : P.follows .mixedOrders = true) (S : World → Prop)
    (h : ∀ (K : Act → World → Prop) (w1 : World), Below W.heap.size W w1 → (∀ a' w', B.wp P Q a' w' → K a' w') → wpAnyZ P l.toArray (OnlyN K) S z N (Array.replicate N false) a w1) : ((Code.region id l.toArray true).seq B).wp P Q a W := by
  subst hN
  refine wp_seq (wp_mono (Q := OnlyN fun a w => B.wp P Q a w) (wp_region_any hm (wpAny_of_z (S := S) (z := z) _ _ _ _ ?_)) ?_)
  · simpa using h _ W.drew (Below.refl _ W).drew (fun _ _ h => h)
  · rintro e a' w' ⟨rfl, h⟩
    exact h
theorem z_open_end {id : Nat} {l : List Oper} (N z : Nat) (hN : l.length = N) (hm : P.follows .mixedOrders = true) (S : World → Prop)
    (h : ∀ (K : Act → World → Prop) (w1 : World), Below W.heap.size W w1 → (∀ a' w', Q .normal a' w' → K a' w') → wpAnyZ P l.toArray (OnlyN K) S z N (Array.replicate N false) a w1) : (Code.region id l.toArray true).wp P Q a W := by
  subst hN
  refine wp_mono (Q := OnlyN fun a w => Q .normal a w) (wp_region_any hm (wpAny_of_z (S := S) (z := z) _ _ _ _ ?_)) ?_
  · simpa using h _ W.drew (Below.refl _ W).drew (fun _ _ h => h)
  · rintro e a' w' ⟨rfl, h⟩
    exact h
theorem z_take {oi : Oper} (i : Nat) (hi : ops[i]? = some oi) (hiz : Nat.beq i z = false) (ha : anc ops 24 z i = true) (hcl : closedB ops listed = true) (hs : Region.noSelect ops = true) (hf : Region.free .any ops listed i = true) (hr : (Region.ready .any ops listed).contains i = true)
    (hy : YieldsIf P ops S oi v a) (hS : S w) (h : wpAnyZ P ops (OnlyN K) S z fuel (listed.setIfInBounds i true) (a.put oi.dst v) w) : wpAnyZ P ops (OnlyN K) S z (fuel + 1) listed a w :=
  wpAnyZ_first (by intro e; subst e; simp at hiz) ha hi (Region.noSelect_spec hs) (by rintro c a w ⟨h, _⟩; cases h) fuel listed a w (closed_of hcl) (Region.free_spec hi hf) (by simpa using hr) hy hS h
theorem z_val {d : Nat} (i : Nat) (hi : ops[i]? = some o) (hiz : Nat.beq i z = false) (ha : anc ops 24 z i = true) (hcl : closedB ops listed = true) (hs : Region.noSelect ops = true) (hf : Region.free .any ops listed i = true) (hr : (Region.ready .any ops listed).contains i = true) (hM : Frm a n M) (hw : Want ops M o) (hd : o.dst = some d) (hn : Nat.blt d n = true)
    (hS : S w) (hy : ∀ w', S w' → Ev P M o w' v) (h : ∀ a', Frm a' n ((d, v) :: M) → wpAnyZ P ops (OnlyN K) S z fuel (listed.setIfInBounds i true) a' w) : wpAnyZ P ops (OnlyN K) S z (fuel + 1) listed a w := by
  refine z_take i hi hiz ha hcl hs hf hr (.inl ⟨hw.is hM, fun w' h' => hy w' h' _ _ hM⟩) hS ?_
  rw [hd]; exact h _ (hM.put (Nat.le_of_ble_eq_true hn) v)
theorem z_skip {d j dj : Nat} {b c : Bool} (i : Nat) (hi : ops[i]? = some o) (hiz : Nat.beq i z = false) (ha : anc ops 24 z i = true) (hcl : closedB ops listed = true) (hs : Region.noSelect ops = true) (hf : Region.free .any ops listed i = true) (hr : (Region.ready .any ops listed).contains i = true) (hM : Frm a n M) (hg : o.guard = some (j, b)) (hj : (ops[j]?).bind (·.dst) = some dj) (hl : lk M dj = some (.bool c)) (hc : c = !b)
    (hd : o.dst = some d) (hn : Nat.blt d n = true) (hS : S w) (h : ∀ a', Frm a' n ((d, undef) :: M) → wpAnyZ P ops (OnlyN K) S z fuel (listed.setIfInBounds i true) a' w) : wpAnyZ P ops (OnlyN K) S z (fuel + 1) listed a w := by
  refine z_take (v := undef) i hi hiz ha hcl hs hf hr (.inr ⟨by subst hc; simp [Region.wanted, hg, hM.yield hj hl], rfl⟩) hS ?_
  rw [hd]; exact h _ (hM.put (Nat.le_of_ble_eq_true hn) undef)
theorem z_skipu {d j dj : Nat} {b : Bool} (i : Nat) (hi : ops[i]? = some o) (hiz : Nat.beq i z = false) (ha : anc ops 24 z i = true) (hcl : closedB ops listed = true) (hs : Region.noSelect ops = true) (hf : Region.free .any ops listed i = true) (hr : (Region.ready .any ops listed).contains i = true) (hM : Frm a n M) (hg : o.guard = some (j, b)) (hj : (ops[j]?).bind (·.dst) = some dj) (hl : lk M dj = some undef)
    (hd : o.dst = some d) (hn : Nat.blt d n = true) (hS : S w) (h : ∀ a', Frm a' n ((d, undef) :: M) → wpAnyZ P ops (OnlyN K) S z fuel (listed.setIfInBounds i true) a' w) : wpAnyZ P ops (OnlyN K) S z (fuel + 1) listed a w := by
  refine z_take (v := undef) i hi hiz ha hcl hs hf hr (.inr ⟨by simp [Region.wanted, hg, hM.yieldu hj hl], rfl⟩) hS ?_
  rw [hd]; exact h _ (hM.put (Nat.le_of_ble_eq_true hn) undef)
theorem z_only (i : Nat) (hrs : Region.ready .any ops listed = [i]) (h : wpOp P ops (OnlyN K) i (fun a' w' => (i = z ∨ S w') ∧ wpAnyZ P ops (OnlyN K) S z fuel (listed.setIfInBounds i true) a' w') a w) : wpAnyZ P ops (OnlyN K) S z (fuel + 1) listed a w :=
  ⟨fun h0 => absurd (hrs ▸ h0) (by simp), fun j hj => by
    rw [hrs] at hj
    obtain rfl : j = i := by simpa using hj
    exact h⟩
theorem z_alloc {d : Nat} {C : Array Value} {e : TypeId} {V : Nat → Value} (i : Nat) (hi : ops[i]? = some o) (hrs : Region.ready .any ops listed = [i]) (hM : Frm a n M) (hw : Want ops M o) (hd : o.dst = some d) (hn : Nat.blt d n = true) (hr : (execOp a.eval o).run P w = .ok (.value (V w.heap.size)) (w.alloc (.cells C e)))
    (h : ∀ g a' w', Frm a' n ((d, V g) :: M) → Blk w' g e C → Below w.heap.size w w' → w.heap.size ≤ g → S w' ∧ wpAnyZ P ops (OnlyN K) S z fuel (listed.setIfInBounds i true) a' w') : wpAnyZ P ops (OnlyN K) S z (fuel + 1) listed a w := by
  refine z_only i hrs ?_
  unfold wpOp
  rw [hi]
  show (if Region.wanted o (yielded ops a.tmps) then _ else _)
  rw [if_pos (hw.is hM)]
  refine .inl ?_
  unfold Oper.wp
  rw [hr, Oper.upon_value, hd]
  obtain ⟨h1, h2⟩ := h _ _ _ (hM.put (Nat.le_of_ble_eq_true hn) _) (Blk.new w e C) (below_alloc_ w _) (Nat.le_refl _)
  exact ⟨.inr h1, h2⟩
theorem z_append {d : Nat} {s x : Operand} {t : TypeId} (q : Nat) (hq : ops[q]? = some o) (hrs : Region.ready .any ops listed = [q]) (hM : Frm a n M) (hw : Want ops M o) (hd : o.dst = some d) (hn : Nat.blt d n = true) (ho : o.op = .call { callee := .builtin .append, args := #[s, x], argTypes := #[t, t] })
    (base : Nat) (e : TypeId) (i : TypeInfo) (zz : Value) (size bytes : Nat) (ht : P.underlying t = some (.slice e)) (hi : P.info? e = some i) (hz : i.zero = some zz) (hsize : i.size = size) (hby : i.bytes = bytes) (hzs : zz.cells.size = size) (hsz : 0 < size)
    (m : Nat) (xs : List Value) (hs : opv M s = some v) (hown : w.ownsRow base e size v m xs) (ad : Addr) (k c : Nat) (news : List Value) (hx : opv M x = some (.slice (some ad) k c)) (hl : news.length = k * size)
    (hnews : ∀ j u, news[j]? = some u → w.cell? (ad.add j) = some u) (h1 : ∀ u ∈ news, u.oneCell' = true) (h63 : m + k ≤ maxLen) (hbytes : (m + k) * bytes ≤ 140737488355328) (hbase : base ≤ w.heap.size)
    (h : ∀ v' a' w', Frm a' n ((d, v') :: M) → w'.ownsRow base e size v' (m + k) (xs ++ news) → w.grownBy w' v.ownBlock → (v'.ownBlock = v.ownBlock ∨ v'.ownBlock = some w.heap.size) → S w' ∧ wpAnyZ P ops (OnlyN K) S z fuel (listed.setIfInBounds q true) a' w') : wpAnyZ P ops (OnlyN K) S z (fuel + 1) listed a w := by
  obtain ⟨v', w', hr, h2, h3, _, h5⟩ := run_append_own_at (P := P) w base t o.type e i zz size bytes ht hi hz hsize hby hzs hsz v m xs hown ad k c news hl hnews h1 h63 hbytes hbase
  have hrun : (execOp a.eval o).run P w = .ok (.value v') w' := by
    unfold execOp
    simp only [ho, resolve, invoke, builtin, Sem.run_bind, Sem.run_pure, Result.andThen_ok, List.map_toArray, List.map_cons, List.map_nil, hM.evo hs, hM.evo hx, hr]
  refine z_only q hrs ?_
  unfold wpOp
  rw [hq]
  show (if Region.wanted o (yielded ops a.tmps) then _ else _)
  rw [if_pos (hw.is hM)]
  refine .inl ?_
  unfold Oper.wp
  rw [hrun, Oper.upon_value, hd]
  obtain ⟨k1, k2⟩ := h _ _ _ (hM.put (Nat.le_of_ble_eq_true hn) _) h2 h3 h5
  exact ⟨.inr k1, k2⟩
/-- The last one: one cell of a block written. -/
theorem z_put {T : TypeId} {x y : Operand} {g k : Nat} {t : TypeId} {cs : Array Value} (hz : ops[z]? = some o) (hrs : Region.ready .any ops listed = [z]) (hM : Frm a n M) (hg : o.guard = none) (hd : o.dst = none) (ho : o.op = .store T x y) (hx : opv M x = some (.pointer (some ⟨g, k, none⟩))) (hy : opv M y = some v)
    (hb : Blk w g t cs) (hk : k < cs.size) (hst : ∀ w, (w.cell? ⟨g, k, none⟩).isSome = true → w.frozen? ⟨g, k, none⟩ = false → (Instr.storeAt T (.pointer (some ⟨g, k, none⟩)) v).run P w = .ok () (w.setCell ⟨g, k, none⟩ v)) (hnil : Region.ready .any ops (listed.setIfInBounds z true) = [])
    (h : ∀ w', Blk w' g t (cs.setIfInBounds k v) → w.grownBy w' (some g) → K a w') : wpAnyZ P ops (OnlyN K) S z (fuel + 1) listed a w := by
  refine z_only z hrs ?_
  have hr : (execOp a.eval o).run P w = .ok .skip (w.setCell ⟨g, k, none⟩ v) := by
    simp only [execOp, ho, hM.evo hx, hM.evo hy]
    simp [Sem.run_bind, hst w (by rw [hb.cell]; simp [hk]) (hb.frozen k)]
  unfold wpOp
  rw [hz]
  show (if Region.wanted o (yielded ops a.tmps) then _ else _)
  rw [if_pos (by simp [Region.wanted, hg])]
  refine .inl ?_
  unfold Oper.wp
  rw [hr, Oper.upon_skip, hd]
  refine ⟨.inl rfl, ?_⟩
  have hk := h _ (hb.set_ k v) (grown_set_ w g k v)
  cases fuel with
  | zero => exact ⟨hnil, rfl, hk⟩
  | succ f => exact ⟨fun _ => ⟨rfl, hk⟩, by rw [hnil]; simp⟩
end
end Go.Proofs.Ytebaojcfmkobjaa
