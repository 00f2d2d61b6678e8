/-
  Texts joined: words and contracts that later texts use; lemmas alone, no conditions of a statement.
-/
import Derived.Test.YtflamhndmggiaaaGr01
import Derived.Test.YtflamhndmggiaaaGr05
import Derived.Maps.AppendAt
import Derived.Test.YtflamhndmggiaaaGr03
set_option linter.unusedVariables false
set_option linter.unusedSimpArgs false
/-
  Words for the book: which blocks may have changed ('Chg'), a slice of rows of bytes ('RwF'), a book's memory ('BkI'). Lemmas alone, no conditions of a statement.
-/
namespace Go.Proofs.Ytflamhndmggiaaa
open Go.RowKit

/-- Nothing has changed but in blocks of F; there are new ones. -/
structure Chg (F : Nat → Prop) (w w' : World) : Prop where
  os : w'.os = w.os
  tape : w'.tape = w.tape
  output : w'.output = w.output
  size : w.heap.size ≤ w'.heap.size
  block : ∀ b, b < w.heap.size → ¬ F b → w'.heap[b]? = w.heap[b]?

section
variable {F F' : Nat → Prop} {w w' w'' : World}
theorem Chg.refl (F : Nat → Prop) (w : World) : Chg F w w := ⟨rfl, rfl, rfl, Nat.le_refl _, fun _ _ _ => rfl⟩
theorem Chg.trans (h : Chg F w w') (h' : Chg F' w' w'') (hF : ∀ b, F' b → F b ∨ w.heap.size ≤ b) : Chg F w w'' :=
  ⟨h'.os.trans h.os, h'.tape.trans h.tape, h'.output.trans h.output, Nat.le_trans h.size h'.size, fun b hb hn => by
    rw [h'.block b (Nat.lt_of_lt_of_le hb h.size) (fun hf => by
      rcases hF b hf with h1 | h1
      · exact hn h1
      · omega), h.block b hb hn]⟩
theorem Chg.of_below (h : Below w.heap.size w w') : Chg F w w' := ⟨h.os, h.tape, h.output, h.size, fun b hb _ => h.block b hb⟩
theorem Chg.to_below {B : Nat} (h : Chg F w w') (hF : ∀ b, F b → B ≤ b) (hB : B ≤ w.heap.size) : Below B w w' :=
  ⟨h.os, h.tape, h.output, h.size, fun b hb => h.block b (by omega) (fun hf => by have := hF b hf; omega)⟩
theorem Chg.of_grown {row : Option Nat} (h : w.grownBy w' row) (hF : ∀ g, row = some g → F g ∨ w.heap.size ≤ g) : Chg F w w' :=
  ⟨h.os, h.tape, h.output, h.size, fun b hb hn => h.block b hb (fun e => by
    rcases hF b e.symm with h1 | h1
    · exact hn h1
    · omega)⟩
theorem Chg.mono (h : Chg F w w') (hF : ∀ b, F b → F' b ∨ w.heap.size ≤ b) : Chg F' w w' :=
  ⟨h.os, h.tape, h.output, h.size, fun b hb hn => h.block b hb (fun hf => by
    rcases hF b hf with h1 | h1
    · exact hn h1
    · omega)⟩
theorem Chg.drewN (h : Chg F w w') (n : Nat) : Chg F w (w'.drewN n) := ⟨h.os, h.tape, h.output, h.size, h.block⟩
theorem Chg.then_below (h : Chg F w w') (h' : Below w'.heap.size w' w'') : Chg F w w'' := h.trans (Chg.of_below (F := fun _ => False) h') (fun _ hf => hf.elim)
theorem Chg.alloc (h : Chg F w w') (o : Obj) : Chg F w (w'.alloc o) := h.then_below ((Below.refl _ _).alloc (Nat.le_refl _) o)
theorem Chg.setCell (h : Chg F w w') {p : Addr} (hp : F p.block ∨ w.heap.size ≤ p.block) (u : Value) : Chg F w (w'.setCell p u) :=
  h.trans (F' := fun b => b = p.block) ⟨rfl, rfl, rfl, by simp [World.setCell], fun b _ hn => Below.heap_setCell w' p u b hn⟩ (fun b hb => by subst hb; exact hp)
theorem Chg.then_grown {row : Option Nat} (h : Chg F w w') (h' : w'.grownBy w'' row) (hF : ∀ g, row = some g → F g ∨ w.heap.size ≤ g) : Chg F w w'' :=
  h.trans (F' := fun b => some b = row) (Chg.of_grown h' (fun g e => .inl e.symm)) (fun b hb => hF b hb.symm)
theorem Chg.at_ (h : Chg F w w') {b : Nat} (hb : b < w.heap.size) (hn : ¬ F b) : w'.heap[b]? = w.heap[b]? := h.block b hb hn
end

theorem Blk.at_block {w w' : World} {g : Nat} {t : TypeId} {cs : Array Value} (h : Blk w g t cs) (e : w'.heap[g]? = w.heap[g]?) : Blk w' g t cs := e.trans h
theorem Blk.chg {F : Nat → Prop} {w w' : World} {g : Nat} {t : TypeId} {cs : Array Value} (h : Blk w g t cs) (hc : Chg F w w') (hn : ¬ F g) : Blk w' g t cs := h.at_block (hc.at_ h.lt hn)
theorem Sl.chg {F : Nat → Prop} {w w' : World} {size n : Nat} {A : Option Addr} {cs : List Value} (h : Sl w size A n cs) (hc : Chg F w w') (ha : 0 < n → ∀ b off, A = some ⟨b, off, none⟩ → ¬ F b) : Sl w' size A n cs := by
  refine ⟨h.1, fun hn => ?_⟩
  obtain ⟨b, off, e, hb, hcell⟩ := h.2 hn
  refine ⟨b, off, e, Nat.lt_of_lt_of_le hb hc.size, fun j u hu => ?_⟩
  rw [World.cell?_of_block (a := ⟨b, off + j, none⟩) (hc.at_ hb (ha hn b off e))]
  exact hcell j u hu
theorem own_at {w w' : World} {base size n : Nat} {e : TypeId} {v : Value} {xs : List Value} (h : w.ownsRow base e size v n xs) (hb : ∀ g, v.ownBlock = some g → w'.heap[g]? = w.heap[g]?) : w'.ownsRow base e size v n xs := by
  refine ⟨h.1, ?_⟩
  rcases h.2 with h0 | ⟨g, cap, cur, rfl, hbg, hg, hr⟩
  · exact .inl h0
  · exact .inr ⟨g, cap, cur, rfl, hbg, (hb g rfl).trans hg, hr⟩
theorem own_in {w : World} {base size n : Nat} {e : TypeId} {v : Value} {xs : List Value} (h : w.ownsRow base e size v n xs) {g : Nat} (hg : v.ownBlock = some g) : g < w.heap.size := by
  rcases h.2 with ⟨rfl, _⟩ | ⟨g', cap, cur, rfl, _, hh, _⟩
  · cases hg
  · injection hg with hg
    subst hg
    exact (Array.getElem?_eq_some_iff.1 hh).1

/-- append onto a row of one's own, at a step of a region that draws: where the new row lies. -/
theorem step_append_at {P : Program} (w : World) {ops : Array Oper} {o : Oper} {a : Act} {K : Act → World → Prop} {Q : Exit → Act → World → Prop} {X : Prop} (hgd : o.guard = none) (s x : Operand) (t : TypeId)
    (ho : o.op = .call { callee := .builtin .append, args := #[s, x], argTypes := #[t, t] })
    (base : Nat) (e : TypeId) (i : TypeInfo) (z : Value) (size bytes : Nat) (ht : P.underlying t = some (.slice e)) (hi : P.info? e = some i) (hz : i.zero = some z)
    (hsize : i.size = size) (hby : i.bytes = bytes) (hzs : z.cells.size = size) (hsz : 0 < size)
    (v : Value) (n : Nat) (xs : List Value) (hs : a.eval s = v) (hown : w.ownsRow base e size v n xs)
    (ad : Addr) (m c : Nat) (news : List Value) (hx : a.eval x = .slice (some ad) m c) (hl : news.length = m * size) (hnews : ∀ j u, news[j]? = some u → w.cell? (ad.add j) = some u) (h1 : ∀ u ∈ news, u.oneCell' = true)
    (h63 : n + m ≤ maxLen) (hbytes : (n + m) * bytes ≤ 140737488355328) (hbase : base ≤ w.heap.size)
    (h : ∀ v' w', w'.ownsRow base e size v' (n + m) (xs ++ news) → w.grownBy w' v.ownBlock → (v'.ownBlock = v.ownBlock ∨ v'.ownBlock = some w.heap.size) → K (a.put o.dst v') w') :
    if Region.wanted o (yielded ops a.tmps) = true then Oper.wp P o a w K Q else X := by
  rw [if_pos (by simp [Region.wanted, hgd])]
  obtain ⟨v', w', hr, h2, h3, _, h5⟩ := run_append_own_at (P := P) w base t o.type e i z size bytes ht hi hz hsize hby hzs hsz v n xs hown ad m c news hl hnews h1 h63 hbytes hbase
  unfold Oper.wp execOp
  simp only [ho, resolve, invoke, builtin, Sem.run_bind, Sem.run_pure, Result.andThen_ok, List.map_toArray, List.map_cons, List.map_nil, hs, hx, hr]
  exact h v' w' h2 h3 h5

/-- A call, at a step of a region that draws. -/
theorem step_enter {P : Program} {w : World} {ops : Array Oper} {o : Oper} {a : Act} {K : Act → World → Prop} {Q : Exit → Act → World → Prop} {X : Prop} (hgd : o.guard = none) (f : FuncId) (args : Array Value) {v : Value} {R : World → Prop}
    (hr : (execOp a.eval o).run P w = .ok (.enter f args) w) (hc : Calls P f args w fun e w' => e = .returned v ∧ R w') (h : ∀ w', R w' → K (a.put o.dst v) w') :
    if Region.wanted o (yielded ops a.tmps) = true then Oper.wp P o a w K Q else X := by
  rw [if_pos (by simp [Region.wanted, hgd])]
  unfold Oper.wp
  rw [hr, Oper.upon_enter]
  refine hc.mono ?_
  rintro e w' ⟨rfl, hR⟩
  exact h w' hR
theorem step_enter_ex {P : Program} {w : World} {ops : Array Oper} {o : Oper} {a : Act} {K : Act → World → Prop} {Q : Exit → Act → World → Prop} {X : Prop} (hgd : o.guard = none) (f : FuncId) (args : Array Value) {R : Value → World → Prop}
    (hr : (execOp a.eval o).run P w = .ok (.enter f args) w) (hc : Calls P f args w fun e w' => ∃ v, e = .returned v ∧ R v w') (h : ∀ v w', R v w' → K (a.put o.dst v) w') :
    if Region.wanted o (yielded ops a.tmps) = true then Oper.wp P o a w K Q else X := by
  rw [if_pos (by simp [Region.wanted, hgd])]
  unfold Oper.wp
  rw [hr, Oper.upon_enter]
  refine hc.mono ?_
  rintro e w' ⟨v, rfl, hR⟩
  exact h v w' hR

/-- A row of bytes, among blocks of E: a slice's value. -/
def ElF (E : Nat → Prop) (w : World) (v : Value) (x : List UInt8) : Prop :=
  ∃ A c, v = .slice A x.length c ∧ x.length ≤ c ∧ c ≤ 9223372036854775807 ∧ Sl w 1 A x.length (bytes8 x) ∧ (0 < x.length → ∃ b off, A = some ⟨b, off, none⟩ ∧ E b)
theorem ElF.keep {E E' : Nat → Prop} {w w' : World} {v : Value} {x : List UInt8} (h : ElF E w v x) (hs : w.heap.size ≤ w'.heap.size) (hb : ∀ b, b < w.heap.size → E b → w'.heap[b]? = w.heap[b]?) (hE : ∀ b, E b → E' b) : ElF E' w' v x := by
  obtain ⟨A, c, rfl, hc, hm, hsl, hA⟩ := h
  refine ⟨A, c, rfl, hc, hm, ⟨hsl.1, fun hn => ?_⟩, fun hn => ?_⟩
  · obtain ⟨b, off, e, hlt, hcell⟩ := hsl.2 hn
    obtain ⟨b', off', e', hEb⟩ := hA hn
    rw [e] at e'
    injection e' with e'
    injection e' with e1 e2
    subst e1
    refine ⟨b, off, e, by omega, fun j u hu => ?_⟩
    rw [World.cell?_of_block (a := ⟨b, off + j, none⟩) (hb b hlt hEb)]
    exact hcell j u hu
  · obtain ⟨b, off, e, hEb⟩ := hA hn
    exact ⟨b, off, e, hE b hEb⟩
theorem ElF.sl {E : Nat → Prop} {w : World} {v : Value} {x : List UInt8} (h : ElF E w v x) : ∃ A c, v = .slice A x.length c ∧ x.length ≤ c ∧ c ≤ 9223372036854775807 ∧ Sl w 1 A x.length (bytes8 x) := by
  obtain ⟨A, c, h1, h2, h3, h4, _⟩ := h
  exact ⟨A, c, h1, h2, h3, h4⟩
theorem ElF.of_own {w : World} {base n : Nat} {e : TypeId} {v : Value} {x : List UInt8} (h : w.ownsRow base e 1 v n (bytes8 x)) : ElF (fun b => base ≤ b ∧ b < w.heap.size) w v x := by
  obtain ⟨A, c, rfl, h1, h2⟩ := own_slice_cap h
  have hl : x.length = n := by have := h.1; rw [bytes8_len] at this; omega
  subst hl
  refine ⟨A, c, rfl, h1, by unfold maxLen at h2; exact h2, Sl.of_own h, fun hn => ?_⟩
  obtain ⟨g, cap, hv, hg, hlt⟩ := h.form hn
  injection hv with hA
  subst hA
  exact ⟨g, 0, rfl, hg, hlt⟩

/-- A slice of rows of bytes: its row among the blocks F, the bytes among the blocks E. -/
def RwF (F E : Nat → Prop) (w : World) (t : TypeId) (v : Value) (L : List (List UInt8)) : Prop :=
  ∃ A c els, v = .slice A L.length c ∧ w.ownsRow 0 t 1 v L.length els ∧ (∀ b, v.ownBlock = some b → F b) ∧ ∀ (i : Nat) (x : List UInt8), L[i]? = some x → ∃ u, els[i]? = some u ∧ ElF E w u x
section
variable {F F' E E' : Nat → Prop} {w w' : World} {t : TypeId} {v : Value} {L : List (List UInt8)}
theorem RwF.keep (h : RwF F E w t v L) (hs : w.heap.size ≤ w'.heap.size) (hr : ∀ b, b < w.heap.size → v.ownBlock = some b → w'.heap[b]? = w.heap[b]?) (hb : ∀ b, b < w.heap.size → E b → w'.heap[b]? = w.heap[b]?) (hF : ∀ b, F b → F' b) (hE : ∀ b, E b → E' b) : RwF F' E' w' t v L := by
  obtain ⟨A, c, els, hv, ho, hf, hi⟩ := h
  exact ⟨A, c, els, hv, own_at ho (fun g hg => hr g (own_in ho hg) hg), fun b hbk => hF b (hf b hbk), fun i x hx => by
    obtain ⟨u, hu, he⟩ := hi i x hx
    exact ⟨u, hu, he.keep hs hb hE⟩⟩
theorem RwF.inF (h : RwF F E w t v L) {b : Nat} (hb : v.ownBlock = some b) : F b := by
  obtain ⟨_, _, _, _, _, hf, _⟩ := h
  exact hf b hb
theorem RwF.cells (h : RwF F E w t v L) {b : Nat} (hb : v.ownBlock = some b) : ∃ cur, w.heap[b]? = some (.cells cur t (0, 0)) := by
  obtain ⟨_, _, _, _, ho, _, _⟩ := h
  rcases ho.2 with ⟨rfl, _⟩ | ⟨g', cap, cur, rfl, _, hh, _⟩
  · cases hb
  · injection hb with hb
    subst hb
    exact ⟨cur, hh⟩
theorem RwF.not_map {K : Type} {enc : K → Value} {f : K → Option Value} {m : Nat} (h : RwF F E w t v L) (hm : Mp w m enc f) : v.ownBlock ≠ some m := by
  intro e
  obtain ⟨cur, h1⟩ := h.cells e
  obtain ⟨es, cl, h2, _⟩ := hm
  rw [h1] at h2
  cases h2
theorem RwF.not_blk {g : Nat} {t' : TypeId} {cs : Array Value} (h : RwF F E w t v L) (hg : Blk w g t' cs) (hne : t ≠ t') : v.ownBlock ≠ some g := by
  intro e
  obtain ⟨cur, h1⟩ := h.cells e
  unfold Blk at hg
  rw [h1] at hg
  injection hg with hg
  injection hg with _ ht
  exact hne ht
theorem Mp.not_blk {K : Type} {enc : K → Value} {f : K → Option Value} {m g : Nat} {t' : TypeId} {cs : Array Value} (h : Mp w m enc f) (hg : Blk w g t' cs) : g ≠ m := by
  rintro rfl
  obtain ⟨es, cl, h2, _⟩ := h
  unfold Blk at hg
  rw [hg] at h2
  cases h2
theorem RwF.nil_ : RwF F E w t (.slice none 0 0) [] := ⟨none, 0, [], rfl, World.ownsRow_nil _ _ _ _, (fun b hb => by cases hb), by simp⟩
theorem RwF.val (h : RwF F E w t v L) : ∃ A c, v = .slice A L.length c ∧ L.length ≤ 9223372036854775807 := by
  obtain ⟨A, c, els, hv, ho, _⟩ := h
  subst hv
  obtain ⟨_, _, e, h1, h2⟩ := own_slice_cap ho
  unfold maxLen at h2
  exact ⟨A, c, rfl, by omega⟩
/-- The i-th row. -/
theorem RwF.at_ (h : RwF F E w t v L) {i : Nat} {x : List UInt8} (hx : L[i]? = some x) : ∃ b c A1 c1, v = .slice (some ⟨b, 0, none⟩) L.length c ∧ F b ∧ w.cell? ⟨b, i, none⟩ = some (.slice A1 x.length c1) ∧ x.length ≤ c1 ∧ c1 ≤ 9223372036854775807 ∧ Sl w 1 A1 x.length (bytes8 x) := by
  obtain ⟨A, c, els, rfl, ho, hf, hi⟩ := h
  have hlt := lt_of_at hx
  obtain ⟨u, hu, he⟩ := hi i x hx
  obtain ⟨A1, c1, rfl, h1, h2, h3⟩ := he.sl
  obtain ⟨g, cap, hv, hg, hlg⟩ := ho.form (by omega)
  injection hv with hA hn hc
  subst hA
  refine ⟨g, c, A1, c1, rfl, hf g rfl, ?_, h1, h2, h3⟩
  have := ho.cells (g := g) rfl i _ hu
  rwa [add_lit, Nat.zero_add] at this
end

/-- Where bytes stand in a list. -/
def fnd : List (List UInt8) → List UInt8 → Option Nat
  | [], _ => none
  | y :: r, x => if y = x then some 0 else (fnd r x).map (· + 1)
theorem fnd_some {L : List (List UInt8)} {x : List UInt8} {i : Nat} (h : fnd L x = some i) : L[i]? = some x ∧ ∀ j, j < i → L[j]? ≠ some x := by
  induction L generalizing i with
  | nil => cases h
  | cons y r ih =>
    unfold fnd at h
    by_cases e : y = x
    · rw [if_pos e] at h
      injection h with h
      subst h
      exact ⟨by simp [e], fun j hj => by omega⟩
    · rw [if_neg e] at h
      cases hf : fnd r x with
      | none => rw [hf] at h; cases h
      | some k =>
        rw [hf] at h
        simp at h
        subst h
        obtain ⟨h1, h2⟩ := ih hf
        refine ⟨by simpa using h1, fun j hj => ?_⟩
        cases j with
        | zero => simpa using e
        | succ j => simpa using h2 j (by omega)
theorem fnd_none {L : List (List UInt8)} {x : List UInt8} (h : fnd L x = none) : x ∉ L := by
  induction L with
  | nil => simp
  | cons y r ih =>
    unfold fnd at h
    by_cases e : y = x
    · rw [if_pos e] at h; cases h
    · rw [if_neg e] at h
      have := ih (by cases hf : fnd r x with | none => rfl | some k => rw [hf] at h; cases h)
      simp only [List.mem_cons, not_or]
      exact ⟨fun h => e h.symm, this⟩
theorem fnd_of_at {L : List (List UInt8)} {x : List UInt8} {i : Nat} (h : L[i]? = some x) (hn : ∀ j, j < i → L[j]? ≠ some x) : fnd L x = some i := by
  cases hf : fnd L x with
  | none => exact absurd (mem_of_at h) (fnd_none hf)
  | some k =>
    obtain ⟨h1, h2⟩ := fnd_some hf
    rcases Nat.lt_trichotomy i k with hik | hik | hik
    · exact absurd h (h2 i hik)
    · rw [hik]
    · exact absurd h1 (hn k hik)
theorem fnd_snoc {L : List (List UInt8)} {x : List UInt8} (h : fnd L x = none) (y : List UInt8) : fnd (L ++ [x]) y = if y = x then some L.length else fnd L y := by
  induction L with
  | nil => simp [fnd, eq_comm]
  | cons z r ih =>
    unfold fnd at h
    by_cases e : z = x
    · rw [if_pos e] at h; cases h
    · rw [if_neg e] at h
      have := ih (by cases hf : fnd r x with | none => rfl | some k => rw [hf] at h; cases h)
      simp only [List.cons_append, fnd, this]
      by_cases hy : y = x
      · subst hy
        simp [e]
      · simp [hy]
theorem fnd_lt {L : List (List UInt8)} {x : List UInt8} {i : Nat} (h : fnd L x = some i) : i < L.length := lt_of_at (fnd_some h).1
/-- The number (0: none), the error. -/
def fndN (o : Option Nat) : Int := match o with | some i => (i : Int) + 1 | none => 0
def fndE (o : Option Nat) : Int := match o with | some _ => 0 | none => 3

def addL (L : List (List UInt8)) (x : List UInt8) : List (List UInt8) := if (fnd L x).isSome then L else L ++ [x]
def digN (L : List (List UInt8)) (x : List UInt8) : Int := match fnd L x with | some i => (i : Int) + 1 | none => (L.length : Int) + 1
def numF (L : List (List UInt8)) (s : ByteArray) : Option Value := (fnd L s.data.toList).map fun i => .int .i64 ((i : Int) + 1)
theorem numF_snoc {L : List (List UInt8)} {x : List UInt8} (h : fnd L x = none) (s : ByteArray) : (if s = tx x then some (.int .i64 ((L.length : Int) + 1)) else numF L s) = numF (L ++ [x]) s := by
  have e : s = tx x ↔ s.data.toList = x := by
    constructor
    · rintro rfl; exact tx_data x
    · intro h; subst h; obtain ⟨⟨l⟩⟩ := s; rfl
  unfold numF
  rw [fnd_snoc h]
  by_cases hs : s = tx x
  · rw [if_pos hs, if_pos (e.1 hs)]; rfl
  · rw [if_neg hs, if_neg (fun h => hs (e.2 h))]
/-- Who signed what. -/
def sgF (sg : Int × Int → Bool) (p : Int × Int) : Option Value := if sg p then some (.bool true) else none
def sgAdd (sg : Int × Int → Bool) (p : Int × Int) : Int × Int → Bool := fun q => decide (q = p) || sg q
/-- Who signed what, behind an asking that answered r. -/
def sgUp (r : Int) (sg : Int × Int → Bool) (p : Int × Int) : Int × Int → Bool := if r = 0 then sgAdd sg p else sg
theorem sgUp_0 (sg : Int × Int → Bool) (p : Int × Int) : sgUp 0 sg p = sgAdd sg p := rfl
theorem sgUp_1 (sg : Int × Int → Bool) (p : Int × Int) : sgUp 1 sg p = sg := rfl
theorem sgUp_3 (sg : Int × Int → Bool) (p : Int × Int) : sgUp 3 sg p = sg := rfl
/-- What signing answers. -/
def sgR (n : Nat) (who d : Int) : Int := if 1 ≤ who ∧ who ≤ 16 then if 1 ≤ d ∧ d ≤ (n : Int) then 0 else 3 else 1
theorem sgF_add (sg : Int × Int → Bool) (p q : Int × Int) : (if q = p then some (.bool true) else sgF sg q) = sgF (sgAdd sg p) q := by
  unfold sgF sgAdd
  by_cases h : q = p <;> simp [h]

/-- A book's memory: blocks G in all; the things L, who signed what. -/
structure BkI (G : Nat → Prop) (w : World) (g : Nat) (L : List (List UInt8)) (sg : Int × Int → Bool) : Prop where
  mk ::
  lt : ∀ b, G b → b < w.heap.size
  in_ : G g
  sm : ∀ x ∈ L, x.length ≤ 1048576
  rest : ∃ (F E : Nat → Prop) (m1 m2 : Nat) (v : Value), (∀ b, F b → G b) ∧ (∀ b, E b → G b) ∧ (∀ b, F b → ¬ E b) ∧ F g ∧ F m1 ∧ F m2 ∧ m1 ≠ m2 ∧ Blk w g 103 #[.map (some m1), v, .map (some m2)] ∧
    Mp w m1 Value.string (numF L) ∧ Mp w m2 pairV (sgF sg) ∧ RwF F E w 28 v L
/-- A book behind a call: of what it may have changed. -/
def BkN (G : Nat → Prop) (g : Nat) (L : List (List UInt8)) (sg : Int × Int → Bool) (w w' : World) : Prop := ∃ G', BkI G' w' g L sg ∧ (∀ b, G' b → G b ∨ w.heap.size ≤ b) ∧ Chg G w w'
theorem BkN.chg {G : Nat → Prop} {g : Nat} {L : List (List UInt8)} {sg : Int × Int → Bool} {w w' : World} (h : BkN G g L sg w w') : Chg G w w' := by
  obtain ⟨_, _, _, h⟩ := h
  exact h
theorem BkI.keep {G H : Nat → Prop} {w w' : World} {g : Nat} {L : List (List UInt8)} {sg : Int × Int → Bool} (h : BkI G w g L sg) (hc : Chg H w w') (ha : ∀ b, G b → ¬ H b) : BkI G w' g L sg := by
  obtain ⟨hlt, hin, hsm, F, E, m1, m2, v, h1, h2, h3, h4, h5, h6, h7, h8, h9, h10, h11⟩ := h
  have hk : ∀ b, G b → w'.heap[b]? = w.heap[b]? := fun b hb => hc.at_ (hlt b hb) (ha b hb)
  exact ⟨fun b hb => Nat.lt_of_lt_of_le (hlt b hb) hc.size, hin, hsm, F, E, m1, m2, v, h1, h2, h3, h4, h5, h6, h7, h8.at_block (hk _ (h1 _ h4)), h9.at_ (hk _ (h1 _ h5)), h10.at_ (hk _ (h1 _ h6)),
    h11.keep hc.size (fun b _ hb => hk b (h1 b (h11.inF hb))) (fun b _ hb => hk b (h2 b hb)) (fun _ => id) (fun _ => id)⟩
theorem BkI.below {G : Nat → Prop} {w w' : World} {g : Nat} {L : List (List UInt8)} {sg : Int × Int → Bool} (h : BkI G w g L sg) (hb : Below w.heap.size w w') : BkI G w' g L sg := h.keep (Chg.of_below (F := fun _ => False) hb) (fun _ _ => id)
theorem BkI.drewN {G : Nat → Prop} {w : World} {g : Nat} {L : List (List UInt8)} {sg : Int × Int → Bool} (h : BkI G w g L sg) (n : Nat) : BkI G (w.drewN n) g L sg := h.keep ((Chg.refl (fun _ => False) w).drewN n) (fun _ _ => id)
end Go.Proofs.Ytflamhndmggiaaa
/-
  Conversions between bytes and texts, once more: with their bounds; over any program.
-/
namespace Go.Proofs.Ytflamhndmggiaaa
open Go.RowKit

theorem conv_is {P : Program} {w : World} {src dst e : TypeId} (hs : P.underlying src = some (.slice e)) (he : P.underlying e = some (.int .u8)) (hd : P.underlying dst = some .string) {A : Option Addr} {n c : Nat} {bs : List UInt8}
    (hsl : Sl w 1 A n (bytes8 bs)) {s : ByteArray} (h : Hid (tx bs = s)) : (convert src dst (.slice A n c)).run P w = .ok (.string s) w := by
  rw [← h.out]; exact run_str_of_bytes w src dst e hs he hd hsl
/-- A text as new bytes: how much room there is. -/
theorem conv_bytes2 {P : Program} (w : World) (src dst e : TypeId) (s : ByteArray) (hs : P.underlying src = some .string) (hd : P.underlying dst = some (.slice e)) (he : P.underlying e = some (.int .u8)) (hz : s.size ≤ 9223372036854775807) :
    ∃ (cap : Nat) (w4 : World), (convert src dst (.string s)).run P w = .ok (.slice (some ⟨w.heap.size, 0, none⟩) s.size cap) w4 ∧ Sl w4 1 (some ⟨w.heap.size, 0, none⟩) s.size (bytes8 s.data.toList) ∧ Below w.heap.size w w4 ∧ s.size ≤ cap ∧ cap ≤ 9223372036854775807 := by
  obtain ⟨cap, w4, h1, h2, h3⟩ := conv_bytes (P := P) w src dst e s hs hd he
  have h4 := run_bytes_of_string (P := P) w src dst e s hs hd he
  rw [h1] at h4
  injection h4 with h4 h5
  injection h4 with _ _ h6
  have g1 := grownCap_ge w s.size 0 e
  have g2 := grownCap_le_maxLen w s.size 0 e (by unfold maxLen; omega)
  unfold maxLen at g2
  exact ⟨cap, w4, h1, h2, h3, by omega, by omega⟩
theorem cell_grown2 {w w' : World} {p : Addr} {v : Value} {g : Nat} (h : w.grownBy w' (some g)) (c : w.cell? p = some v) (hne : p.block ≠ g) : w'.cell? p = some v := by
  rw [World.cell?_of_block (a := p) (h.block p.block (lt_of_cell c) (by intro e; injection e with e; exact hne e))]
  exact c
end Go.Proofs.Ytflamhndmggiaaa
/-
  Contracts of package book: New, has, Count, Signed, Sign, Find.
-/
namespace Go.Proofs.Ytflamhndmggiaaa
open Go.RowKit

theorem isPair_sign : IsPair Try.prog 107 3 3 ((Try.prog.fieldsOf 107).getD 0 default) ((Try.prog.fieldsOf 107).getD 1 default) where
  k := by kernel_rfl
  e0 := by kernel_rfl
  e1 := by kernel_rfl
  o0 := by kernel_rfl
  o1 := by kernel_rfl
  u0 := by kernel_rfl
  u1 := by kernel_rfl
  n0 := by decide +kernel
  n1 := by decide +kernel
  h := by kernel_rfl
theorem keys_sign : KeyFam Try.prog 107 pairV := keys_pair isPair_sign
theorem keys_str : KeyFam Try.prog 9 Value.string := keys_string (by kernel_rfl)
theorem under_numbers : Try.prog.underlying 100 = some (.map 9 3) := by kernel_rfl
theorem under_signs : Try.prog.underlying 101 = some (.map 107 4) := by kernel_rfl
theorem zero_int (w : World) : (zeroValue 3).run Try.prog w = .ok (.int .i64 0) w := by kernel_rfl
theorem zero_bool (w : World) : (zeroValue 4).run Try.prog w = .ok (.bool false) w := by kernel_rfl

/-- A slice of rows' length and a book's cells, as the walk needs them. -/
theorem BkI.open_ {G : Nat → Prop} {w : World} {g : Nat} {L : List (List UInt8)} {sg : Int × Int → Bool} (h : BkI G w g L sg) :
    ∃ m1 m2 A c, w.cell? ⟨g, 0, none⟩ = some (.map (some m1)) ∧ w.cell? ⟨g, 1, none⟩ = some (.slice A L.length c) ∧ w.cell? ⟨g, 2, none⟩ = some (.map (some m2)) ∧ L.length ≤ 9223372036854775807 ∧ Mp w m1 Value.string (numF L) ∧ Mp w m2 pairV (sgF sg) := by
  obtain ⟨_, _, _, F, E, m1, m2, v, _, _, _, _, _, _, _, hb, hm1, hm2, hr⟩ := h
  obtain ⟨A, c, rfl, hl⟩ := hr.val
  exact ⟨m1, m2, A, c, hb.at_ rfl, hb.at_ rfl, hb.at_ rfl, hl, hm1, hm2⟩

set_option maxHeartbeats 400000 in
theorem book_New (w : World) : Calls Try.prog 15 #[] w fun e w' => ∃ g G, e = .returned (.pointer (some ⟨g, 0, none⟩)) ∧ BkI G w' g [] (fun _ => false) ∧ (∀ b, G b → w.heap.size ≤ b) ∧ Below w.heap.size w w' := by
  have hmm := @run_makeMap Try.prog
  go_enter Try.func15, Try.ntmps15
  go_wp2_with fail
  go_ret
  refine ⟨_, fun b => w.heap.size ≤ b ∧ b < w.heap.size + 3, rfl, ⟨fun b hb => by simp; omega, ⟨by omega, by omega⟩, by simp, fun b => w.heap.size ≤ b ∧ b < w.heap.size + 3, fun _ => False, w.heap.size, w.heap.size + 1, .slice none 0 0, fun _ => id, fun _ hf => hf.elim, fun _ _ => id, ⟨by omega, by omega⟩, ⟨by omega, by omega⟩, ⟨by omega, by omega⟩, by omega, ?_, ?_, ?_, RwF.nil_⟩, fun b hb => hb.1, ?_⟩
  · have := Blk.new2 (w.alloc (.map #[] 0)) (.map #[] 0) 103 #[.map (some w.heap.size), .slice none 0 0, .map (some (w.heap.size + 1))]
    simpa using this
  · exact (((Mp.made w Value.string).alloc _).alloc _).congr (fun k => rfl)
  · have := (Mp.made (w.alloc (.map #[] 0)) pairV).alloc (.cells #[.map (some w.heap.size), .slice none 0 0, .map (some (w.heap.size + 1))] 103)
    simp only [show (w.alloc (.map #[] 0)).heap.size = w.heap.size + 1 by simp] at this
    exact this.congr (fun k => rfl)
  · exact (((Below.refl _ _).alloc (Nat.le_refl _) _).alloc (by simp) _).alloc (by simp; omega) _

set_option maxHeartbeats 400000 in
theorem book_Count {G : Nat → Prop} {g : Nat} {L : List (List UInt8)} {sg : Int × Int → Bool} (w : World) (h : BkI G w g L sg) :
    Calls Try.prog 23 #[.pointer (some ⟨g, 0, none⟩)] w fun e w' => e = .returned (.int .i64 (L.length : Int)) ∧ w = w' := by
  obtain ⟨m1, m2, A, c, _, c1, _, hl, _⟩ := h.open_
  clear h
  go_enter Try.func23, Try.ntmps23
  go_wp2_with fail
  go_ret
  exact ⟨rfl, rfl⟩

set_option maxHeartbeats 400000 in
theorem book_has {G : Nat → Prop} {g : Nat} {L : List (List UInt8)} {sg : Int × Int → Bool} (d : Int) (w : World) (h : BkI G w g L sg) {r : Bool} (hr : Hid (decide (1 ≤ d ∧ d ≤ (L.length : Int)) = r)) :
    Calls Try.prog 70 #[.pointer (some ⟨g, 0, none⟩), .int .i64 d] w fun e w' => e = .returned (.bool r) ∧ w = w' := by
  obtain ⟨m1, m2, A, c, _, c1, _, hl, _⟩ := h.open_
  clear h
  generalize L.length = n at c1 hl hr ⊢
  by_cases h1 : 1 ≤ d
  · have hd1 : decide (1 ≤ d) = true := by simpa using h1
    have hd1' : decide (d < 1) = false := by simp; omega
    by_cases h2 : d ≤ (n : Int)
    · have HR : Hid (true = r) := by rw [Hid, ← hr.out]; simp [h1, h2]
      have hd2 : decide (d ≤ (n : Int)) = true := by simpa using h2
      clear hr
      go_enter Try.func70, Try.ntmps70
      go_wp2_with fail
      go_ret
      exact ⟨ret_bool HR.out, rfl⟩
    · have HR : Hid (false = r) := by rw [Hid, ← hr.out]; simp; omega
      have hd2 : decide (d ≤ (n : Int)) = false := by simp; omega
      clear hr
      go_enter Try.func70, Try.ntmps70
      go_wp2_with fail
      go_ret
      exact ⟨ret_bool HR.out, rfl⟩
  · have hd1 : decide (1 ≤ d) = false := by simpa using h1
    have HR : Hid (false = r) := by rw [Hid, ← hr.out]; simp; omega
    clear hr
    go_enter Try.func70, Try.ntmps70
    go_wp2_with fail
    go_ret
    exact ⟨ret_bool HR.out, rfl⟩
set_option maxHeartbeats 400000 in
theorem book_Signed {G : Nat → Prop} {g : Nat} {L : List (List UInt8)} {sg : Int × Int → Bool} (who d : Int) (w : World) (h : BkI G w g L sg) :
    Calls Try.prog 19 #[.pointer (some ⟨g, 0, none⟩), .int .i64 who, .int .i64 d] w fun e w' => e = .returned (.bool (sg (who, d))) ∧ w = w' := by
  obtain ⟨m1, m2, A, c, _, _, c2, hl, _, hm⟩ := h.open_
  clear h
  have hr := hm.look keys_sign under_signs (zero_bool w) (who, d) false
  have e : (sgF sg (who, d)).getD (.bool false) = .bool (sg (who, d)) := by
    unfold sgF
    cases sg (who, d) <;> rfl
  rw [e] at hr
  simp only [pairV, Bool.false_eq_true, if_false] at hr
  clear e hm
  go_enter Try.func19, Try.ntmps19
  go_wp2_with fail
  go_ret
  exact ⟨rfl, rfl⟩

set_option maxHeartbeats 1000000 in
theorem book_Sign {G : Nat → Prop} {g : Nat} {L : List (List UInt8)} {sg : Int × Int → Bool} (who d : Int) (w : World) (h : BkI G w g L sg) {r : Int} (hr : Hid (sgR L.length who d = r)) :
    Calls Try.prog 20 #[.pointer (some ⟨g, 0, none⟩), .int .i64 who, .int .i64 d] w fun e w' => e = .returned (.int .i64 r) ∧ BkI G w' g L (sgUp r sg (who, d)) ∧ Chg G w w' := by
  by_cases h0 : 1 ≤ who ∧ who ≤ 16
  · have hw1 : decide (who < 1) = false := by simp; omega
    have hw2 : decide (16 < who) = false := by simp; omega
    obtain ⟨p, HP⟩ : ∃ p, Hid (decide (1 ≤ d ∧ d ≤ (L.length : Int)) = p) := ⟨_, rfl⟩
    have CH := hide (book_has d w h HP)
    cases p with
    | false =>
      have HR : Hid (3 = r) := by have := HP.out; rw [decide_eq_false_iff_not] at this; rw [Hid, ← hr.out, sgR, if_pos h0, if_neg this]
      obtain rfl := HR.out
      have HB : Hid (BkI G w g L (sgUp 3 sg (who, d)) ∧ Chg G w w) := ⟨h, Chg.refl _ _⟩
      clear h h0 hr HR
      go_enter Try.func20, Try.ntmps20
      go_wp2_with fail
      refine CH.out.mono ?_
      rintro e w' ⟨rfl, rfl⟩
      go_wp2_with fail
      go_ret
      exact ⟨rfl, HB.out⟩
    | true =>
      have HR : Hid (0 = r) := by have := HP.out; rw [decide_eq_true_eq] at this; rw [Hid, ← hr.out, sgR, if_pos h0, if_pos this]
      obtain ⟨hlt, hin, hsm, F, E, m1, m2, v, h1, h2, h3, h4, h5, h6, h7, h8, h9, h10, h11⟩ := h
      have c2 : w.cell? ⟨g, 2, none⟩ = some (.map (some m2)) := h8.at_ rfl
      obtain ⟨w1, hrun, hm, hg, hz⟩ := h10.update keys_sign under_signs (who, d) (.bool true)
      obtain rfl := HR.out
      have HB : Hid (BkI G w1 g L (sgUp 0 sg (who, d)) ∧ Chg G w w1) := by
        have hc : Chg (fun b => b = m2) w w1 := Chg.of_grown hg (fun g e => by injection e with e; exact .inl e.symm)
        have n8 : g ≠ m2 := h10.not_blk h8
        refine ⟨⟨fun b hb => by rw [hz]; exact hlt b hb, hin, hsm, F, E, m1, m2, v, h1, h2, h3, h4, h5, h6, h7, h8.at_block (hc.at_ h8.lt n8), h9.at_ (hc.at_ h9.lt h7), hm.congr (sgF_add sg (who, d)), h11.keep hc.size (fun b hb hF => hc.at_ hb ?_) (fun b hb hE => hc.at_ hb (fun e => by subst e; exact h3 _ h6 hE)) (fun _ => id) (fun _ => id)⟩, hc.mono (fun b hb => by subst hb; exact .inl (h1 _ h6))⟩
        rintro rfl
        exact h11.not_map h10 hF
      simp only [pairV] at hrun
      clear hr HR h0 hlt hin hsm h1 h2 h3 h4 h5 h6 h7 h8 h9 h10 h11 hm hg hz
      go_enter Try.func20, Try.ntmps20
      go_wp2_with fail
      refine CH.out.mono ?_
      rintro e w' ⟨rfl, rfl⟩
      go_wp2_with fail
      go_ret
      exact ⟨rfl, HB.out⟩
  · have HR : Hid (1 = r) := by rw [Hid, ← hr.out, sgR, if_neg h0]
    obtain rfl := HR.out
    have HB : Hid (BkI G w g L (sgUp 1 sg (who, d)) ∧ Chg G w w) := ⟨h, Chg.refl _ _⟩
    have HN := hide h0
    clear h h0 hr HR
    go_enter Try.func20, Try.ntmps20
    go_wp2_with fail
    all_goals
      first
        | (go_ret; exact ⟨rfl, HB.out⟩)
        | (exfalso; exact HN.out ⟨by omega, by omega⟩)
end Go.Proofs.Ytflamhndmggiaaa
/-
  Contracts of package book: Find, the clone of bytes, Bytes.
-/
namespace Go.Proofs.Ytflamhndmggiaaa
open Go.RowKit

theorem eql_nil_bytes (w : World) (A : Option Addr) (n c : Nat) : (binOp .eql 28 (.slice A n c) (.slice none 0 0)).run Try.prog w = .ok (.bool A.isNone) w := Lib.run_eql_slice_nil w _ _ A n c 0 0 Try.underlying28
theorem numF_look (L : List (List UInt8)) (x : List UInt8) : (numF L (tx x)).getD (.int .i64 0) = .int .i64 (fndN (fnd L x)) ∧ (numF L (tx x)).isSome = (fnd L x).isSome := by
  unfold numF
  rw [tx_data]
  cases fnd L x <;> exact ⟨rfl, rfl⟩
theorem fndN_some {o : Option Nat} (h : o.isSome = true) : fndE o = 0 := by cases o <;> simp_all [fndE]
theorem fndN_none {o : Option Nat} (h : o.isSome = false) : fndE o = 3 ∧ fndN o = 0 := by cases o <;> simp_all [fndE, fndN]
set_option maxHeartbeats 1000000 in
theorem book_Find {G : Nat → Prop} {g : Nat} {L : List (List UInt8)} {sg : Int × Int → Bool} {A : Option Addr} {n c : Nat} {x : List UInt8} (w : World) (h : BkI G w g L sg) (hs : Sl w 1 A n (bytes8 x)) (hn : n ≤ 9223372036854775807) :
    Calls Try.prog 24 #[.pointer (some ⟨g, 0, none⟩), .slice A n c] w fun e w' => e = .returned (.tuple #[.int .i64 (fndN (fnd L x)), .int .i64 (fndE (fnd L x))]) ∧ ∃ q, w' = w.drewN q := by
  obtain ⟨m1, m2, A1, c1, k0, _, _, hl, hm, _⟩ := h.open_
  clear h
  have hc : ∀ q, (convert 28 9 (.slice A n c)).run Try.prog (w.drewN q) = .ok (.string (tx x)) (w.drewN q) := fun q => run_str_of_bytes _ _ _ _ Try.underlying28 (by kernel_rfl) (by kernel_rfl) (hs.drewN q)
  have hr : ∀ q, (Instr.lookup 100 (.map (some m1)) (.string (tx x)) true).run Try.prog (w.drewN q) = .ok (.tuple #[.int .i64 (fndN (fnd L x)), .bool (fnd L x).isSome]) (w.drewN q) := fun q => by
    have := (hm.drewN q).look keys_str under_numbers (zero_int _) (tx x) true
    obtain ⟨e1, e2⟩ := numF_look L x
    rw [e1, e2] at this
    exact this
  clear hm hs
  generalize fnd L x = o at hr ⊢
  generalize tx x = s at hc hr
  obtain ⟨p, HP⟩ : ∃ p, Hid (o.isSome = p) := ⟨_, rfl⟩
  rw [HP.out] at hr
  cases p with
  | true =>
    have HE := hide (fndN_some HP.out)
    rw [HE.out]
    clear HP
    go_enter Try.func24, Try.ntmps24
    go_wp2_with fail
    go_quiet (fail)
    go_wp2_with fail
    go_ret2
    exact ⟨rfl, _, rfl⟩
  | false =>
    have HE := hide (fndN_none HP.out)
    rw [HE.out.1, HE.out.2]
    rw [HE.out.2] at hr
    clear HP
    go_enter Try.func24, Try.ntmps24
    go_wp2_with fail
    go_quiet (fail)
    go_wp2_with fail
    go_ret2
    exact ⟨rfl, _, rfl⟩

set_option maxHeartbeats 1000000 in
set_option maxRecDepth 100000 in
/-- slices.Clone of bytes: new bytes, or nil. -/
theorem clone_bytes {A : Option Addr} {n c : Nat} {x : List UInt8} (w : World) (hs : Sl w 1 A n (bytes8 x)) (hn : n ≤ 140737488355328) :
    Calls Try.prog 69 #[.slice A n c] w fun e w' => ∃ v, e = .returned v ∧ w'.ownsRow w.heap.size 5 1 v n (bytes8 x) ∧ Below w.heap.size w w' := by
  have HN := hide hn
  clear hn
  cases hA : A with
  | none =>
    subst hA
    have h0 : n = 0 := by
      rcases Nat.eq_zero_or_pos n with h | h
      · exact h
      · obtain ⟨b, off, e, _⟩ := hs.2 h
        cases e
    subst h0
    have hx : x = [] := List.eq_nil_of_length_eq_zero hs.blen
    subst hx
    clear hs
    have he := fun w => eql_nil_bytes w none 0 c
    simp only [Option.isNone_none] at he
    go_enter Try.func69, Try.ntmps69
    go_wp2_with fail
    go_ret
    exact ⟨_, rfl, World.ownsRow_nil _ _ _ _, Below.refl _ _⟩
  | some a =>
    subst hA
    obtain ⟨i0, hi, hz0, hz1, hz2⟩ := info_parts Try.infoByte
    have HS := hide hs
    clear hs
    have he := fun w => eql_nil_bytes w (some a) n c
    simp only [Option.isNone_some] at he
    have he := fun w => eql_nil_bytes w none 0 c
    simp only [Option.isNone_none] at he
    go_enter Try.func69, Try.ntmps69
    go_wp2_with (at_builtin; refine wpList_append_any _ rfl _ _ 28 rfl w.heap.size 5 i0 (.int .u8 0) 1 1 Try.underlying28 hi hz0 hz1 hz2 rfl (by decide) _ 0 [] rfl (own_of_blk (size := 1) (n := 0) (cs := #[]) (Blk.new _ _ _) (Nat.le_refl _) rfl (by omega)) (some a) n c (bytes8 x) rfl (HS.out.alloc _) (bytes8_one _) (by have := HN.out; unfold maxLen; omega) (by have := HN.out; omega) (by simp) ?_)
    intro v w1 hown hg
    go_wp2_with fail
    go_ret
    refine ⟨v, rfl, by simpa using hown, ((Below.refl _ _).alloc (Nat.le_refl _) _).grown hg (by simp) (fun g e => ?_)⟩
    simp [Value.ownBlock] at e
    omega

theorem BkI.row {G : Nat → Prop} {w : World} {g : Nat} {L : List (List UInt8)} {sg : Int × Int → Bool} (h : BkI G w g L sg) {i : Nat} {x : List UInt8} (hx : L[i]? = some x) :
    ∃ b c A1 c1, w.cell? ⟨g, 1, none⟩ = some (.slice (some ⟨b, 0, none⟩) L.length c) ∧ w.cell? ⟨b, i, none⟩ = some (.slice A1 x.length c1) ∧ Sl w 1 A1 x.length (bytes8 x) ∧ x.length ≤ 1048576 := by
  have hs := h.sm x (mem_of_at hx)
  obtain ⟨_, _, _, F, E, m1, m2, v, _, _, _, _, _, _, _, hb, hm1, hm2, hr⟩ := h
  obtain ⟨b, c, A1, c1, rfl, _, h1, h2, h3, h4⟩ := hr.at_ hx
  exact ⟨b, c, A1, c1, hb.at_ rfl, h1, h4, hs⟩
set_option maxRecDepth 100000 in
set_option maxHeartbeats 1000000 in
theorem book_Bytes_some {G : Nat → Prop} {g : Nat} {L : List (List UInt8)} {sg : Int × Int → Bool} {x : List UInt8} (i : Nat) (w : World) (h : BkI G w g L sg) (hx : Hid (L[i]? = some x)) :
    Calls Try.prog 25 #[.pointer (some ⟨g, 0, none⟩), .int .i64 ((i : Int) + 1)] w fun e w' => ∃ v, e = .returned (.tuple #[v, .int .i64 0]) ∧ w'.ownsRow w.heap.size 5 1 v x.length (bytes8 x) ∧ Below w.heap.size w w' := by
  obtain ⟨b, c, A1, c1, k1, k2, hs, hsm⟩ := h.row hx.out
  have hlt := lt_of_at hx.out
  have hl : L.length ≤ 9223372036854775807 := by
    obtain ⟨_, _, _, _, _, _, _, hl, _⟩ := h.open_
    exact hl
  have CH := hide (book_has ((i : Int) + 1) w h (r := true) (by rw [Hid, decide_eq_true_eq]; omega))
  have CC := hide (clone_bytes w hs (c := c1) (by omega))
  have hi0 : (0 : Int) ≤ (i : Int) := by omega
  clear h hx hs hsm
  generalize L.length = n at k1 hlt hl
  generalize x.length = m at k2 CC ⊢
  go_enter Try.func25, Try.ntmps25
  go_wp2_with fail
  refine CH.out.mono ?_
  rintro e w' ⟨rfl, rfl⟩
  go_wp2_with fail
  refine CC.out.mono ?_
  rintro e w1 ⟨v, rfl, hown, hb⟩
  go_wp2_with fail
  go_ret2
  exact ⟨v, rfl, hown, hb⟩
set_option maxHeartbeats 1000000 in
theorem book_Bytes_none {G : Nat → Prop} {g : Nat} {L : List (List UInt8)} {sg : Int × Int → Bool} (d : Int) (w : World) (h : BkI G w g L sg) (hd : Hid (¬ (1 ≤ d ∧ d ≤ (L.length : Int)))) :
    Calls Try.prog 25 #[.pointer (some ⟨g, 0, none⟩), .int .i64 d] w fun e w' => e = .returned (.tuple #[.slice none 0 0, .int .i64 3]) ∧ w = w' := by
  have CH := hide (book_has d w h (r := false) (by rw [Hid, decide_eq_false_iff_not]; exact hd.out))
  clear h hd
  go_enter Try.func25, Try.ntmps25
  go_wp2_with fail
  refine CH.out.mono ?_
  rintro e w' ⟨rfl, rfl⟩
  go_wp2_with fail
  go_ret2
  exact ⟨rfl, rfl⟩
end Go.Proofs.Ytflamhndmggiaaa
