/-
  Texts joined: words and contracts that later texts use; lemmas alone, no conditions of a statement.
-/
import Derived.Test.YtflamhndmggiaaaGr00
import Derived.Laws.StructEq
import Derived.Maps.Own
import Derived.Maps.OwnOps
import Derived.Maps.OwnSet
import Derived.Test.YtflamhndmggiaaaProg
set_option linter.unusedVariables false
set_option linter.unusedSimpArgs false
/-
  Maps, over any program: a map's block that reads as a function from keys to values ('Mp'), at keys that are texts or pairs of ints; look-up, store, delete. Lemmas alone, no conditions of a statement.
-/
namespace Go.Proofs.Ytflamhndmggiaaa
open Go.RowKit
open Go.ChangeMaps Go.MapKept

/-- What the laws need of a family of keys. -/
structure KeyFam (P : Program) (kt : TypeId) {K : Type} (enc : K → Value) : Prop where
  inj : ∀ {a b : K}, enc a = enc b → a = b
  check : ∀ (w : World) (em : Bool) (k : K), (Instr.checkKey em 10000 kt (enc k)).run P w = .ok () w
  find : ∀ (w : World) (k : K) (es : List MapEntry), (∀ e ∈ es, ∃ q, e.key = enc q) →
    ((Instr.findKey kt (enc k) es).run P w = .ok none w ∧ ∀ e ∈ es, e.key ≠ enc k) ∨ ∃ j e, (Instr.findKey kt (enc k) es).run P w = .ok (some (j, e.val)) w ∧ es[j]? = some e ∧ e.key = enc k
  stays : ∀ (w : World) (k : K), (Instr.keyThatStays (enc k) (enc k)).run P w = .ok (enc k) w

theorem bytes_beq (a b : ByteArray) : (a == b) = decide (a = b) := by
  rw [beq_toListBytes, ByteArray.toList_eq, ByteArray.toList_eq]
  obtain ⟨⟨x⟩⟩ := a
  obtain ⟨⟨y⟩⟩ := b
  rw [Bool.eq_iff_iff]
  simp
section
variable {P : Program} {kt : TypeId}
theorem findNow_string (k : ByteArray) : ∀ (es : List MapEntry) (i : Nat), (∀ e ∈ es, ∃ q, e.key = Value.string q) →
    (Instr.findNow .string (.string k) es i = some none ∧ ∀ e ∈ es, e.key ≠ .string k) ∨ ∃ j e, Instr.findNow .string (.string k) es i = some (some (i + j, e.val)) ∧ es[j]? = some e ∧ e.key = .string k
  | [], i, _ => .inl ⟨rfl, by simp⟩
  | e :: es, i, h => by
    obtain ⟨q, hq⟩ := h e (by simp)
    unfold Instr.findNow
    rw [hq]
    simp only [Instr.sameNow, bytes_beq]
    by_cases hk : k = q
    · subst hk
      exact .inr ⟨0, e, by simp, by simp, hq⟩
    · have hb : decide (k = q) = false := by simpa using hk
      rw [hb]
      simp only
      rcases findNow_string k es (i + 1) (fun e he => h e (by simp [he])) with ⟨h1, h2⟩ | ⟨j, e', h1, h2, h3⟩
      · refine .inl ⟨h1, fun e'' he'' => ?_⟩
        rcases List.mem_cons.1 he'' with rfl | he''
        · rw [hq]; intro hh; injection hh with hh; exact hk hh.symm
        · exact h2 e'' he''
      · exact .inr ⟨j + 1, e', by rw [h1]; congr 3; omega, by simpa using h2, h3⟩
theorem keys_string (hk : P.underlying kt = some .string) : KeyFam P kt Value.string where
  inj := fun h => by injection h
  check := fun w em k => by
    unfold Instr.checkKey
    simp [run_underlying hk]
  find := fun w k es h => by
    unfold Instr.findKey
    rcases findNow_string k es 0 h with ⟨h1, h2⟩ | ⟨j, e, h1, h2, h3⟩
    · exact .inl ⟨by simp [run_underlying hk, h1], h2⟩
    · exact .inr ⟨j, e, by simp [run_underlying hk, h1], h2, h3⟩
  stays := fun w k => by simp [Instr.keyThatStays, Instr.sameBits, bytes_beq]

/-- A pair of ints. -/
def pairV (p : Int × Int) : Value := .agg #[.int .i64 p.1, .int .i64 p.2]
theorem pairV_inj {a b : Int × Int} (h : pairV a = pairV b) : a = b := by
  obtain ⟨a1, a2⟩ := a
  obtain ⟨b1, b2⟩ := b
  simp [pairV] at h
  simp [h]
/-- What a struct of two ints is. -/
structure IsPair (P : Program) (kt t0 t1 : TypeId) (f0 f1 : Field) : Prop where
  k : P.underlying kt = some (.struct #[f0, f1])
  e0 : f0.type = t0
  e1 : f1.type = t1
  o0 : f0.offset = 0
  o1 : f1.offset = 1
  u0 : P.underlying t0 = some (.int .i64)
  u1 : P.underlying t1 = some (.int .i64)
  n0 : f0.name ≠ "_"
  n1 : f1.name ≠ "_"
  h : P.stoodInHeld kt = false

variable {t0 t1 : TypeId} {f0 f1 : Field}
theorem run_part_int {t : TypeId} (ht : P.underlying t = some (.int .i64)) (w : World) (cs : Array Value) (i : Nat) (v : Value) (hv : cs[i]? = some v) : (part t cs i).run P w = .ok v w := by
  unfold part
  simp [isAgg, Sem.run_bind, run_underlying ht, hv]
theorem part0 (hp : IsPair P kt t0 t1 f0 f1) (w : World) (a b : Value) : (part t0 #[a, b] 0).run P w = .ok a w := run_part_int hp.u0 w #[a, b] 0 a rfl
theorem part1 (hp : IsPair P kt t0 t1 f0 f1) (w : World) (a b : Value) : (part t1 #[a, b] 1).run P w = .ok b w := run_part_int hp.u1 w #[a, b] 1 b rfl
theorem pair_equal (hp : IsPair P kt t0 t1 f0 f1) (w : World) (a b : Int × Int) : (Op.equal kt (pairV a) (pairV b)).run P w = .ok (decide (a = b)) w := by
  have hf : P.fieldsOf kt = #[f0, f1] := by simp [Program.fieldsOf, hp.k]
  unfold Op.equal Op.maxDepth pairV
  rw [run_equalIn_struct w 9999 kt _ _ (by rw [hf]; exact hp.k) hp.h, hf]
  simp only [Op.eqFields]
  have hn0 := hp.n0
  have hn1 := hp.n1
  rw [if_pos hn0, if_pos hn1, hp.e0, hp.e1, hp.o0, hp.o1]
  obtain ⟨a1, a2⟩ := a
  obtain ⟨b1, b2⟩ := b
  simp only [Sem.run_bind, part0 hp, part1 hp, Result.andThen_ok, run_equalIn_int w 9998 t0 .i64 .i64 _ _ hp.u0, run_equalIn_int w 9998 t1 .i64 .i64 _ _ hp.u1]
  have q0 : ∀ x, (Op.eqFields 9999 #[.int .i64 a1, .int .i64 a2] #[.int .i64 b1, .int .i64 b2] []).run P x = .ok true x := fun x => by simp [Op.eqFields]
  by_cases h1 : a1 = b1
  · subst h1
    by_cases h2 : a2 = b2
    · subst h2; simp [Sem.run_bind, part1 hp, run_equalIn_int w 9998 t1 .i64 .i64 _ _ hp.u1]
    · simp [h2, Sem.run_bind, part1 hp, run_equalIn_int w 9998 t1 .i64 .i64 _ _ hp.u1]
  · simp [h1]
theorem findAsking_pair (hp : IsPair P kt t0 t1 f0 f1) (w : World) (k : Int × Int) : ∀ (es : List MapEntry) (i : Nat), (∀ e ∈ es, ∃ q, e.key = pairV q) →
    ((Instr.findAsking kt (pairV k) es i).run P w = .ok none w ∧ ∀ e ∈ es, e.key ≠ pairV k) ∨ ∃ j e, (Instr.findAsking kt (pairV k) es i).run P w = .ok (some (i + j, e.val)) w ∧ es[j]? = some e ∧ e.key = pairV k
  | [], i, _ => .inl ⟨by simp [Instr.findAsking], by simp⟩
  | e :: es, i, h => by
    obtain ⟨q, hq⟩ := h e (by simp)
    unfold Instr.findAsking
    simp only [Sem.run_bind, hq, pair_equal hp w k q, Result.andThen_ok]
    by_cases hk : k = q
    · subst hk
      exact .inr ⟨0, e, by simp, by simp, hq⟩
    · simp only [hk, decide_false, Bool.false_eq_true, if_false]
      rcases findAsking_pair hp w k es (i + 1) (fun e he => h e (by simp [he])) with ⟨h1, h2⟩ | ⟨j, e', h1, h2, h3⟩
      · refine .inl ⟨h1, fun e'' he'' => ?_⟩
        rcases List.mem_cons.1 he'' with rfl | he''
        · rw [hq]; intro hh; exact hk (pairV_inj hh).symm
        · exact h2 e'' he''
      · exact .inr ⟨j + 1, e', by rw [h1]; congr 3; omega, by simpa using h2, h3⟩
theorem check_pair (hp : IsPair P kt t0 t1 f0 f1) (w : World) (em : Bool) (k : Int × Int) : (Instr.checkKey em 10000 kt (pairV k)).run P w = .ok () w := by
  have c0 : ∀ {t : TypeId} (n : Nat) (x : Int), P.underlying t = some (.int .i64) → (Instr.checkKey em (n + 1) t (.int .i64 x)).run P w = .ok () w := by
    intro t n x ht
    unfold Instr.checkKey
    simp [run_underlying ht]
  unfold pairV
  unfold Instr.checkKey
  simp only [Sem.run_bind, run_underlying hp.k, Result.andThen_ok]
  have hn0 := hp.n0
  have hn1 := hp.n1
  simp [hn0, hn1, hp.e0, hp.e1, hp.o0, hp.o1, Sem.run_bind, part0 hp, part1 hp, c0 9998 k.1 hp.u0, c0 9998 k.2 hp.u1]
theorem keys_pair (hp : IsPair P kt t0 t1 f0 f1) : KeyFam P kt pairV where
  inj := pairV_inj
  check := check_pair hp
  find := fun w k es h => by
    unfold Instr.findKey
    simp only [Sem.run_bind, run_underlying hp.k, Result.andThen_ok]
    cases es with
    | nil => exact .inl ⟨by simp [Instr.findNow], by simp⟩
    | cons e es =>
      obtain ⟨q, hq⟩ := h e (by simp)
      have hn : Instr.findNow (.struct #[f0, f1]) (pairV k) (e :: es) 0 = none := by
        unfold Instr.findNow
        rfl
      rw [hn]
      simp only
      rcases findAsking_pair hp w k (e :: es) 0 h with ⟨h1, h2⟩ | ⟨j, e', h1, h2, h3⟩
      · exact .inl ⟨h1, h2⟩
      · exact .inr ⟨j, e', by rw [h1, Nat.zero_add], h2, h3⟩
  stays := fun w k => by simp [Instr.keyThatStays, Instr.sameBits, pairV]
end

theorem set_some {α : Type} {l : List α} {j i : Nat} {a x : α} (h : (l.set j a)[i]? = some x) : (i = j ∧ x = a) ∨ (i ≠ j ∧ l[i]? = some x) := by
  by_cases hij : i = j
  · subst hij
    obtain ⟨hlt, he⟩ := List.getElem?_eq_some_iff.1 h
    rw [List.getElem_set_self] at he
    exact .inl ⟨rfl, he.symm⟩
  · rw [List.getElem?_set_ne (fun e => hij e.symm)] at h
    exact .inr ⟨hij, h⟩

/-- The map's block b reads as f. -/
def Mp {K : Type} (w : World) (b : Nat) (enc : K → Value) (f : K → Option Value) : Prop :=
  ∃ es clock, w.heap[b]? = some (.map es clock) ∧ (∀ e ∈ es.toList, ∃ q, e.key = enc q) ∧ (∀ (i j : Nat) (x y : MapEntry), es.toList[i]? = some x → es.toList[j]? = some y → x.key = y.key → i = j) ∧
    ∀ k v, f k = some v ↔ ∃ e ∈ es.toList, e.key = enc k ∧ e.val = v

section
variable {P : Program} {kt : TypeId} {K : Type} {enc : K → Value} {f : K → Option Value} {w w' : World} {b : Nat}
theorem Mp.lt (h : Mp w b enc f) : b < w.heap.size := by
  obtain ⟨es, clock, hb, _⟩ := h
  exact (Array.getElem?_eq_some_iff.1 hb).1
theorem Mp.at_ (h : Mp w b enc f) (e : w'.heap[b]? = w.heap[b]?) : Mp w' b enc f := by
  obtain ⟨es, clock, hb, hr⟩ := h
  exact ⟨es, clock, e.trans hb, hr⟩
theorem Mp.below {B : Nat} (h : Mp w b enc f) (hb : Below B w w') (hg : b < B) : Mp w' b enc f := h.at_ (hb.block b hg)
theorem Mp.later (h : Mp w b enc f) (hb : Below w.heap.size w w') : Mp w' b enc f := h.below hb h.lt
theorem Mp.grown {row : Option Nat} (h : Mp w b enc f) (hb : w.grownBy w' row) (hg : some b ≠ row) : Mp w' b enc f := h.at_ (hb.block b h.lt hg)
theorem Mp.drew (h : Mp w b enc f) : Mp w.drew b enc f := h
theorem Mp.drewN (h : Mp w b enc f) (n : Nat) : Mp (w.drewN n) b enc f := h
theorem Mp.alloc (h : Mp w b enc f) (o : Obj) : Mp (w.alloc o) b enc f := h.later ((Below.refl _ _).alloc (Nat.le_refl _) o)
theorem Mp.setCell (h : Mp w b enc f) {p : Addr} (hp : b ≠ p.block) (u : Value) : Mp (w.setCell p u) b enc f := h.at_ (Below.heap_setCell w p u b hp)
theorem Mp.made (w : World) (enc : K → Value) : Mp (w.alloc (.map #[] 0)) w.heap.size enc (fun _ => none) :=
  ⟨#[], 0, (MapKept.heap_alloc w _).1, by simp, by simp, by simp⟩
theorem Mp.congr {f' : K → Option Value} (h : Mp w b enc f) (e : ∀ k, f k = f' k) : Mp w b enc f' := by
  obtain rfl : f = f' := funext e
  exact h

/-- 'm[k]', 'v, ok := m[k]'. -/
theorem Mp.look (h : Mp w b enc f) (F : KeyFam P kt enc) {t e : TypeId} (ht : P.underlying t = some (.map kt e)) {z : Value} (hz : (zeroValue e).run P w = .ok z w) (k : K) (c : Bool) :
    (Instr.lookup t (.map (some b)) (enc k) c).run P w = .ok (if c then .tuple #[(f k).getD z, .bool (f k).isSome] else (f k).getD z) w := by
  obtain ⟨es, clock, hb, hk, _, hf⟩ := h
  rcases F.find w k es.toList hk with ⟨h1, h2⟩ | ⟨j, e0, h1, h2, h3⟩
  · have hn : f k = none := by
      cases hv : f k with
      | none => rfl
      | some v =>
        obtain ⟨e, he, hke, _⟩ := (hf k v).1 hv
        exact absurd hke (h2 e he)
    simp [Instr.lookup, run_underlying ht, MapKept.run_getObj_map hb, F.check, h1, hz, Result.andThen, hn]
  · have hs : f k = some e0.val := (hf k e0.val).2 ⟨e0, List.mem_of_getElem? h2, h3, rfl⟩
    simp [Instr.lookup, run_underlying ht, MapKept.run_getObj_map hb, F.check, h1, Result.andThen, hs]

/-- 'm[k] = v'. -/
theorem Mp.update [DecidableEq K] (h : Mp w b enc f) (F : KeyFam P kt enc) {t e : TypeId} (ht : P.underlying t = some (.map kt e)) (k : K) (v : Value) :
    ∃ w', (Instr.mapUpdate t (.map (some b)) (enc k) v).run P w = .ok () w' ∧ Mp w' b enc (fun q => if q = k then some v else f q) ∧ w.grownBy w' (some b) ∧ w'.heap.size = w.heap.size := by
  obtain ⟨es, clock, hb, hk, hd, hf⟩ := h
  have hg : ∀ o : Obj, w.grownBy (setBlock w b o) (some b) := fun o => ⟨rfl, rfl, rfl, by simp [setBlock], fun i _ hi => heap_setBlock_other hb _ (fun e => hi (by rw [e]))⟩
  rcases F.find w k es.toList hk with ⟨h1, h2⟩ | ⟨j, e0, h1, h2, h3⟩
  · refine ⟨setBlock w b (.map (es.push ⟨enc k, v, clock⟩) (clock + 1)), ?_, ⟨_, _, heap_setBlock_same hb _, ?_, ?_, ?_⟩, hg _, by simp [setBlock]⟩
    · simp [Instr.mapUpdate, run_underlying ht, MapKept.run_getObj_map hb, F.check, h1, MapKept.run_setObj_map _ hb, Result.andThen, setBlock]
    · intro x hx
      simp only [Array.toList_push, List.mem_append, List.mem_singleton] at hx
      rcases hx with hx | rfl
      · exact hk x hx
      · exact ⟨k, rfl⟩
    · intro i j x y hx hy hxy
      simp only [Array.toList_push] at hx hy
      rw [List.getElem?_append] at hx hy
      split at hx <;> split at hy
      · exact hd i j x y hx hy hxy
      · rename_i hi hj
        have : y = ⟨enc k, v, clock⟩ := by
          rcases Nat.eq_zero_or_pos (j - es.toList.length) with h0 | h0
          · rw [h0] at hy; simpa using hy.symm
          · rw [List.getElem?_eq_none (by rw [List.length_singleton]; exact h0)] at hy; cases hy
        subst this
        exact absurd hxy (h2 x (List.mem_of_getElem? hx))
      · rename_i hi hj
        have : x = ⟨enc k, v, clock⟩ := by
          rcases Nat.eq_zero_or_pos (i - es.toList.length) with h0 | h0
          · rw [h0] at hx; simpa using hx.symm
          · rw [List.getElem?_eq_none (by rw [List.length_singleton]; exact h0)] at hx; cases hx
        subst this
        exact absurd hxy.symm (h2 y (List.mem_of_getElem? hy))
      · rename_i hi hj
        have a1 := (List.getElem?_eq_some_iff.1 hx).1
        have a2 := (List.getElem?_eq_some_iff.1 hy).1
        simp only [List.length_singleton] at a1 a2
        omega
    · intro q u
      simp only [Array.toList_push, List.mem_append, List.mem_singleton]
      by_cases hq : q = k
      · subst hq
        show (if q = q then _ else _) = some u ↔ _
        rw [if_pos rfl]
        constructor
        · intro hu; injection hu with hu; subst hu; exact ⟨_, .inr rfl, rfl, rfl⟩
        · rintro ⟨x, hx | rfl, hkx, hv⟩
          · exact absurd hkx (h2 x hx)
          · rw [← hv]
      · show (if q = k then _ else _) = some u ↔ _
        rw [if_neg hq, hf]
        constructor
        · rintro ⟨x, hx, hkx, hv⟩; exact ⟨x, .inl hx, hkx, hv⟩
        · rintro ⟨x, hx | rfl, hkx, hv⟩
          · exact ⟨x, hx, hkx, hv⟩
          · exact absurd (F.inj hkx).symm hq
  · have hj : es[j]? = some e0 := by simpa using h2
    have hjl : j < es.toList.length := (List.getElem?_eq_some_iff.1 h2).1
    have hlist : (es.modify j (fun e' => { e' with key := enc k, val := v })).toList = es.toList.set j { e0 with key := enc k, val := v } := by rw [Array.toList_modify, modify_eq_set _ _ _ _ h2]
    refine ⟨setBlock w b (.map (es.modify j (fun e' => { e' with key := enc k, val := v })) clock), ?_, ⟨_, _, heap_setBlock_same hb _, ?_, ?_, ?_⟩, hg _, by simp [setBlock]⟩
    · simp [Instr.mapUpdate, run_underlying ht, MapKept.run_getObj_map hb, F.check, h1, hj, h3, F.stays, MapKept.run_setObj_map _ hb, Result.andThen, setBlock]
    · rw [hlist]
      intro x hx
      obtain ⟨i, hi⟩ := List.mem_iff_getElem?.1 hx
      rcases set_some hi with ⟨_, rfl⟩ | ⟨_, hi⟩
      · exact ⟨k, rfl⟩
      · exact hk x (List.mem_of_getElem? hi)
    · rw [hlist]
      have hsame : ∀ (i : Nat) (x : MapEntry), (es.toList.set j { e0 with key := enc k, val := v })[i]? = some x → ∃ x' : MapEntry, es.toList[i]? = some x' ∧ x'.key = x.key := by
        intro i x hx
        rcases set_some hx with ⟨rfl, rfl⟩ | ⟨_, hi⟩
        · exact ⟨e0, h2, h3⟩
        · exact ⟨x, hi, rfl⟩
      intro i i' x y hx hy hxy
      obtain ⟨x', hx', kx⟩ := hsame i x hx
      obtain ⟨y', hy', ky⟩ := hsame i' y hy
      exact hd i i' x' y' hx' hy' (by rw [kx, ky, hxy])
    · rw [hlist]
      intro q u
      by_cases hq : q = k
      · subst hq
        show (if q = q then _ else _) = some u ↔ _
        rw [if_pos rfl]
        constructor
        · intro hu; injection hu with hu; subst hu
          exact ⟨{ e0 with key := enc q, val := v }, List.mem_of_getElem? (i := j) (by rw [List.getElem?_set_self hjl]), rfl, rfl⟩
        · rintro ⟨x, hx, hkx, hv⟩
          obtain ⟨i, hi⟩ := List.mem_iff_getElem?.1 hx
          rcases set_some hi with ⟨_, rfl⟩ | ⟨hne, hi⟩
          · rw [← hv]
          · exact absurd (hd i j x e0 hi h2 (by rw [h3, hkx])) hne
      · show (if q = k then _ else _) = some u ↔ _
        rw [if_neg hq, hf]
        constructor
        · rintro ⟨x, hx, hkx, hv⟩
          obtain ⟨i, hi⟩ := List.mem_iff_getElem?.1 hx
          have hne : j ≠ i := by
            rintro rfl
            rw [h2] at hi
            injection hi with hi
            subst hi
            exact hq (F.inj (hkx.symm.trans h3))
          exact ⟨x, List.mem_of_getElem? (i := i) (by rw [List.getElem?_set_ne hne]; exact hi), hkx, hv⟩
        · rintro ⟨x, hx, hkx, hv⟩
          obtain ⟨i, hi⟩ := List.mem_iff_getElem?.1 hx
          rcases set_some hi with ⟨_, rfl⟩ | ⟨_, hi⟩
          · exact absurd (F.inj hkx).symm hq
          · exact ⟨x, List.mem_of_getElem? hi, hkx, hv⟩

/-- 'delete(m, k)'. -/
theorem Mp.drop [DecidableEq K] (h : Mp w b enc f) (F : KeyFam P kt enc) {t e : TypeId} (ht : P.underlying t = some (.map kt e)) (k : K) (t2 ty : TypeId) :
    ∃ w', (Builtin.delete_ #[t, t2] ty #[.map (some b), enc k]).run P w = .ok (.tuple #[]) w' ∧ Mp w' b enc (fun q => if q = k then none else f q) ∧ w.grownBy w' (some b) ∧ w'.heap.size = w.heap.size := by
  obtain ⟨es, clock, hb, hk, hd, hf⟩ := h
  have hg : ∀ o : Obj, w.grownBy (setBlock w b o) (some b) := fun o => ⟨rfl, rfl, rfl, by simp [setBlock], fun i _ hi => heap_setBlock_other hb _ (fun e => hi (by rw [e]))⟩
  rcases F.find w k es.toList hk with ⟨h1, h2⟩ | ⟨j, e0, h1, h2, h3⟩
  · refine ⟨setBlock w b (.map es clock), ?_, ⟨_, _, heap_setBlock_same hb _, hk, hd, ?_⟩, hg _, by simp [setBlock]⟩
    · simp [Builtin.delete_, run_underlying ht, MapKept.run_getObj_map hb, F.check, h1, MapKept.run_setObj_map _ hb, Result.andThen, setBlock]
    · intro q u
      by_cases hq : q = k
      · subst hq
        show (if q = q then _ else _) = some u ↔ _
        rw [if_pos rfl]
        constructor
        · intro hu; cases hu
        · rintro ⟨x, hx, hkx, _⟩; exact absurd hkx (h2 x hx)
      · show (if q = k then _ else _) = some u ↔ _
        rw [if_neg hq]; exact hf q u
  · have hjl : j < es.toList.length := (List.getElem?_eq_some_iff.1 h2).1
    have hjs : j < es.size := by simpa using hjl
    have hsub : (es.eraseIdxIfInBounds j).toList = es.toList.eraseIdx j := by
      unfold Array.eraseIdxIfInBounds
      rw [dif_pos hjs]
      simp
    refine ⟨setBlock w b (.map (es.eraseIdxIfInBounds j) clock), ?_, ⟨_, _, heap_setBlock_same hb _, ?_, ?_, ?_⟩, hg _, by simp [setBlock]⟩
    · simp [Builtin.delete_, run_underlying ht, MapKept.run_getObj_map hb, F.check, h1, MapKept.run_setObj_map _ hb, Result.andThen, setBlock]
    · rw [hsub]
      intro x hx
      exact hk x ((List.eraseIdx_sublist _ _).subset hx)
    · rw [hsub]
      intro i i' x y hx hy hxy
      rw [List.getElem?_eraseIdx] at hx hy
      split at hx <;> split at hy
      · exact hd i i' x y hx hy hxy
      · have := hd i (i' + 1) x y hx hy hxy; omega
      · have := hd (i + 1) i' x y hx hy hxy; omega
      · have := hd (i + 1) (i' + 1) x y hx hy hxy; omega
    · rw [hsub]
      intro q u
      by_cases hq : q = k
      · subst hq
        show (if q = q then _ else _) = some u ↔ _
        rw [if_pos rfl]
        constructor
        · intro hu; cases hu
        · rintro ⟨x, hx, hkx, _⟩
          obtain ⟨i, hne, hi⟩ := List.mem_eraseIdx_iff_getElem?.1 hx
          exact absurd (hd i j x e0 hi h2 (by rw [hkx, h3])) hne
      · show (if q = k then _ else _) = some u ↔ _
        rw [if_neg hq, hf]
        constructor
        · rintro ⟨x, hx, hkx, hv⟩
          obtain ⟨i, hi⟩ := List.mem_iff_getElem?.1 hx
          have hne : i ≠ j := by
            rintro rfl
            rw [h2] at hi
            injection hi with hi
            subst hi
            exact hq (F.inj (hkx.symm.trans h3))
          exact ⟨x, List.mem_eraseIdx_iff_getElem?.2 ⟨i, hne, hi⟩, hkx, hv⟩
        · rintro ⟨x, hx, hkx, hv⟩
          exact ⟨x, (List.eraseIdx_sublist _ _).subset hx, hkx, hv⟩
end
end Go.Proofs.Ytflamhndmggiaaa
/-
  Numbers as bytes, seven bits each, the last byte below 128 and not 0 behind another: plain facts, over no program.
-/
namespace Go.Proofs.Ytflamhndmggiaaa

/-- A number's bytes. -/
def enc (n : Nat) : List UInt8 := if n < 128 then [UInt8.ofNat n] else UInt8.ofNat (n % 128 + 128) :: enc (n / 128)
termination_by n
decreasing_by omega

theorem enc_lt {n : Nat} (h : n < 128) : enc n = [UInt8.ofNat n] := by rw [enc, if_pos h]
theorem enc_ge {n : Nat} (h : 128 ≤ n) : enc n = UInt8.ofNat (n % 128 + 128) :: enc (n / 128) := by rw [enc, if_neg (by omega)]

/-- The number with whose bytes a list begins, and how many they are; of at most f bytes. -/
def dec : Nat → List UInt8 → Option (Nat × Nat)
  | 0, _ => none
  | _ + 1, [] => none
  | f + 1, c :: r => if c.toNat < 128 then some (c.toNat, 1) else
    match dec f r with
    | some (n, k) => if n = 0 then none else some (c.toNat % 128 + 128 * n, k + 1)
    | none => none

theorem enc_pos (n : Nat) : 0 < (enc n).length := by
  by_cases h : n < 128
  · rw [enc_lt h]; simp
  · rw [enc_ge (by omega)]; simp

theorem enc_len_le (k : Nat) : ∀ n, n < 128 ^ (k + 1) → (enc n).length ≤ k + 1 := by
  induction k with
  | zero => intro n h; rw [enc_lt (by simpa using h)]; simp
  | succ k ih =>
    intro n h
    by_cases h1 : n < 128
    · rw [enc_lt h1]; simp
    · rw [enc_ge (by omega), List.length_cons]
      have := ih (n / 128) (by rw [Nat.pow_succ] at h; omega)
      omega
theorem enc_len_gt (k : Nat) : ∀ n, 128 ^ k ≤ n → 0 < k → k < (enc n).length := by
  induction k with
  | zero => intro n _ h; omega
  | succ k ih =>
    intro n h _
    have h0 : 1 ≤ 128 ^ k := Nat.one_le_pow _ _ (by omega)
    have h1 : 128 ≤ n := by rw [Nat.pow_succ] at h; omega
    rw [enc_ge h1, List.length_cons]
    rcases Nat.eq_zero_or_pos k with rfl | hk
    · have := enc_pos (n / 128); omega
    · have := ih (n / 128) (by rw [Nat.pow_succ] at h; omega) hk
      omega
theorem enc_len_63 {n : Nat} (h : n < 9223372036854775808) : (enc n).length ≤ 9 := enc_len_le 8 n (Nat.lt_of_lt_of_eq h (by decide))

theorem toNat_low {n : Nat} (h : n < 128) : (UInt8.ofNat n).toNat = n := by rw [UInt8.toNat_ofNat']; omega
theorem toNat_high (n : Nat) : (UInt8.ofNat (n % 128 + 128)).toNat = n % 128 + 128 := by rw [UInt8.toNat_ofNat']; omega

theorem dec_enc (f : Nat) : ∀ (n : Nat) (r : List UInt8), n < 128 ^ f → 0 < f → dec f (enc n ++ r) = some (n, (enc n).length) := by
  induction f with
  | zero => intro n r _ h; omega
  | succ f ih =>
    intro n r h _
    by_cases h1 : n < 128
    · rw [enc_lt h1]
      simp only [List.cons_append, List.nil_append, dec, toNat_low h1, if_pos h1]
      rfl
    · rw [enc_ge (by omega)]
      have hf : 0 < f := by
        rcases Nat.eq_zero_or_pos f with rfl | hf
        · simp at h; omega
        · exact hf
      have := ih (n / 128) r (by rw [Nat.pow_succ] at h; omega) hf
      simp only [List.cons_append, dec, toNat_high, this, if_neg (show ¬ n % 128 + 128 < 128 by omega), if_neg (show ¬ n / 128 = 0 by omega), List.length_cons]
      congr 2
      omega

theorem ofNat_eq {c : UInt8} {n : Nat} (h : c.toNat = n) : UInt8.ofNat n = c := by subst h; simp

theorem dec_some (f : Nat) : ∀ (bs : List UInt8) (n k : Nat), dec f bs = some (n, k) → n < 128 ^ f ∧ k = (enc n).length ∧ ∃ r, bs = enc n ++ r := by
  induction f with
  | zero => intro bs n k h; cases h
  | succ f ih =>
    intro bs n k h
    cases bs with
    | nil => cases h
    | cons c r =>
      have hc : c.toNat < 256 := c.toNat_lt
      unfold dec at h
      by_cases h1 : c.toNat < 128
      · rw [if_pos h1] at h
        injection h with h
        injection h with e1 e2
        subst e1; subst e2
        have hp : 1 ≤ 128 ^ f := Nat.one_le_pow _ _ (by omega)
        refine ⟨by rw [Nat.pow_succ]; omega, by rw [enc_lt h1]; rfl, r, ?_⟩
        rw [enc_lt h1, ofNat_eq rfl]; rfl
      · rw [if_neg h1] at h
        cases hd : dec f r with
        | none => rw [hd] at h; cases h
        | some p =>
          obtain ⟨m, j⟩ := p
          rw [hd] at h
          simp only at h
          by_cases hm : m = 0
          · rw [if_pos hm] at h; cases h
          · rw [if_neg hm] at h
            injection h with h
            injection h with e1 e2
            subst e1; subst e2
            obtain ⟨g1, g2, r', rfl⟩ := ih r m j hd
            have e : enc (c.toNat % 128 + 128 * m) = c :: enc m := by
              rw [enc_ge (by omega)]
              have a1 : (c.toNat % 128 + 128 * m) / 128 = m := by omega
              have a2 : (c.toNat % 128 + 128 * m) % 128 + 128 = c.toNat := by omega
              rw [a1, a2, ofNat_eq rfl]
            refine ⟨by rw [Nat.pow_succ]; omega, by rw [e, g2]; rfl, r', by rw [e]; rfl⟩

/-- Reading from the i-th byte on, with what has been read till there. -/
def cont (i acc : Nat) : Option (Nat × Nat) → Option (Nat × Nat)
  | some (m, k) => if 0 < i ∧ m = 0 then none else some (acc + 128 ^ i * m, i + k)
  | none => none
theorem cont_zero (o : Option (Nat × Nat)) : cont 0 0 o = o := by
  cases o with
  | none => rfl
  | some p => obtain ⟨m, k⟩ := p; simp [cont]
theorem dec_cons (f : Nat) (c : UInt8) (r : List UInt8) : dec (f + 1) (c :: r) = if c.toNat < 128 then some (c.toNat, 1) else
    match dec f r with
    | some (n, k) => if n = 0 then none else some (c.toNat % 128 + 128 * n, k + 1)
    | none => none := rfl
theorem cont_next {i acc f : Nat} {c : UInt8} {r : List UInt8} (h : 128 ≤ c.toNat) : cont i acc (dec (f + 1) (c :: r)) = cont (i + 1) (acc + 128 ^ i * (c.toNat % 128)) (dec f r) := by
  rw [dec_cons, if_neg (by omega)]
  cases dec f r with
  | none => rfl
  | some p =>
    obtain ⟨m, k⟩ := p
    simp only
    by_cases hm : m = 0
    · simp [hm, cont]
    · rw [if_neg hm]
      simp only [cont]
      rw [if_neg (by omega), if_neg (by omega)]
      congr 2
      · rw [Nat.mul_add, Nat.pow_succ, ← Nat.mul_assoc, Nat.add_assoc]
      · omega
theorem cont_last {i acc f : Nat} {c : UInt8} {r : List UInt8} (h : c.toNat < 128) : cont i acc (dec (f + 1) (c :: r)) = if 0 < i ∧ c.toNat = 0 then none else some (acc + 128 ^ i * c.toNat, i + 1) := by
  rw [dec_cons, if_pos h]
  rfl
theorem dec_end (f : Nat) : dec f [] = none := by cases f <;> rfl
end Go.Proofs.Ytflamhndmggiaaa
/-
  Contracts of the wire's numbers and of the reference's: which bytes a number has, which number bytes begin with: for every input.
-/
namespace Go.Proofs.Ytflamhndmggiaaa
open Go.RowKit

theorem Try.infoByte : (Try.prog.info? 5).map (fun i => (i.zero, i.size, i.bytes)) = some (some (.int .u8 0), 1, 1) := by kernel_rfl
theorem byte_cell (c : UInt8) : Value.int .u8 (c.toNat : Int) = Value.int .u8 c.toNat := rfl
theorem bytes8_snoc (xs : List UInt8) (c : UInt8) : bytes8 xs ++ [.int .u8 (c.toNat : Int)] = bytes8 (xs ++ [c]) := by simp [bytes8]
theorem bytes8_append (xs ys : List UInt8) : bytes8 (xs ++ ys) = bytes8 xs ++ bytes8 ys := by simp [bytes8]

theorem or_all : ∀ a : Fin 256, bits BinOp.or IntKind.u8 ((a.val : Nat) : Int) 128 = ((a.val % 128 + 128 : Nat) : Int) := by decide +kernel
/-- The byte that says that more come. -/
theorem high_byte (m : Nat) : ∃ c : UInt8, Hid (UInt8.ofNat (m % 128 + 128) = c) ∧ bits BinOp.or IntKind.u8 ((m : Int) % 256) 128 = (c.toNat : Int) := by
  refine ⟨_, rfl, ?_⟩
  have h := or_all ⟨m % 256, Nat.mod_lt _ (by omega)⟩
  simp only at h
  have e : ((m : Int) % 256) = ((m % 256 : Nat) : Int) := by omega
  rw [e, h, toNat_high]
  omega
theorem high_byte' (m : Nat) : ∃ c : UInt8, Hid (UInt8.ofNat (m % 128 + 128) = c) ∧ bits BinOp.or IntKind.u8 ((m : Int) % 128) 128 = (c.toNat : Int) := by
  refine ⟨_, rfl, ?_⟩
  have h := or_all ⟨m % 128, by omega⟩
  simp only at h
  have e : ((m : Int) % 128) = ((m % 128 : Nat) : Int) := by omega
  rw [e, h, toNat_high]
  omega

set_option maxRecDepth 100000 in
set_option maxHeartbeats 400000 in
theorem wire_num (base : Nat) (v : Value) (m : Nat) (xs : List UInt8) (w : World) (hown : w.ownsRow base 5 1 v xs.length (bytes8 xs)) (hb : base ≤ w.heap.size) (hm : m ≤ 9223372036854775807) (hl : xs.length ≤ 1099511627776) :
    Calls Try.prog 72 #[v, .int .i64 m] w fun e w' => ∃ v', e = .returned v' ∧ w'.ownsRow base 5 1 v' (xs ++ enc m).length (bytes8 (xs ++ enc m)) ∧ Below base w w' := by
  have HX := hide (enc_len_63 (n := m) (by omega))
  obtain ⟨i0, hi, hz0, hz1, hz2⟩ := info_parts Try.infoByte
  go_enter Try.func72, Try.ntmps72
  go_wp2_with fail
  go_loopw [0, 1] (fun b n wr => ∃ (m' : Nat) (ys : List UInt8), n = .int .i64 m' ∧ Hid (xs ++ enc m = ys ++ enc m') ∧ m' ≤ m ∧ wr.ownsRow base 5 1 b ys.length (bytes8 ys) ∧ Below base w wr) (fun _ n _ => (intOf n).toNat)
  case atStart => exact ⟨m, xs, rfl, rfl, Nat.le_refl _, hown, Below.refl _ _⟩
  case round =>
    obtain ⟨m', ys, rfl, HE, hle, hown', hbw⟩ := hrel
    have hsz := hbw.size
    have hyl : ys.length ≤ 1099511627785 := by
      have h1 := congrArg List.length HE.out
      rw [List.length_append, List.length_append] at h1
      have h2 := HX.out
      omega
    by_cases hge : 128 ≤ m'
    · obtain ⟨c, HC, hor⟩ := high_byte m'
      have HQ : Hid (xs ++ enc m = (ys ++ [c]) ++ enc (m' / 128)) := by rw [Hid, HE.out, enc_ge hge, HC.out]; simp
      clear hown
      go_wp2_with (first
        | (at_builtin; refine wpList_append_own _ rfl _ _ 28 rfl base 5 i0 (.int .u8 0) 1 1 Try.underlying28 hi hz0 hz1 hz2 rfl (by decide) _ _ _ rfl (hown'.alloc _) ⟨wr.heap.size, 0, none⟩ 1 1 [.int .u8 (c.toNat : Int)] rfl rfl ?c1 ?c2 ?c3 ?c4 ?c5 ?_))
      case c1 => exact news_one _ _ _
      case c2 => exact one_int _ _
      case c3 => unfold maxLen; omega
      case c4 => omega
      case c5 => simp; omega
      intro v' w1 hown2 hg _
      have hown3 : w1.ownsRow base 5 1 v' (ys ++ [c]).length (bytes8 (ys ++ [c])) := by rw [← bytes8_snoc, List.length_append]; exact hown2
      have hb2 : Below base w w1 := (hbw.alloc (by omega) _).grown hg (by simp; omega) (fun g hg' => (hown'.lt g hg').1)
      clear hown2 hg hown' hbw hor
      go_wp2_with fail
      go_roundw
      case rel => exact ⟨m' / 128, ys ++ [c], by go_num, HQ, by omega, hown3, hb2⟩
      case measure => simp [intOf]; omega
    · have HQ : Hid (xs ++ enc m = ys ++ [UInt8.ofNat m']) := by rw [Hid, HE.out, enc_lt (by omega)]
      have hm' : m' < 128 := by omega
      clear hown
      go_wp2_with (first
        | (at_builtin; refine wpList_append_own _ rfl _ _ 28 rfl base 5 i0 (.int .u8 0) 1 1 Try.underlying28 hi hz0 hz1 hz2 rfl (by decide) _ _ _ rfl (hown'.alloc _) ⟨wr.heap.size, 0, none⟩ 1 1 [.int .u8 (m' : Int)] rfl rfl ?d1 ?d2 ?d3 ?d4 ?d5 ?_))
      case d1 => exact news_one _ _ _
      case d2 => exact one_int _ _
      case d3 => unfold maxLen; omega
      case d4 => omega
      case d5 => simp; omega
      intro v' w1 hown2 hg _
      have hown3 : w1.ownsRow base 5 1 v' (xs ++ enc m).length (bytes8 (xs ++ enc m)) := by
        rw [HQ.out, ← bytes8_snoc, List.length_append, toNat_low hm']; exact hown2
      have hb2 : Below base w w1 := (hbw.alloc (by omega) _).grown hg (by simp; omega) (fun g hg' => (hown'.lt g hg').1)
      clear hown2 hg hown' hbw
      go_wp2_with fail
      go_ret
      exact ⟨_, rfl, hown3, hb2⟩

set_option maxHeartbeats 400000 in
theorem wire_Num_yes (m : Nat) (w : World) (hm : m ≤ 9223372036854775807) :
    Calls Try.prog 28 #[.int .i64 m] w fun e w' => ∃ v', e = .returned (.tuple #[v', .int .i64 0]) ∧ w'.ownsRow w.heap.size 5 1 v' (enc m).length (bytes8 (enc m)) ∧ Below w.heap.size w w' := by
  go_enter Try.func28, Try.ntmps28
  go_wp2_with (go_at_call 72; refine (wire_num w.heap.size _ m [] _ (World.ownsRow_nil _ _ _ _) (Nat.le_refl _) hm (by simp)).mono ?_; rintro e w' ⟨v', rfl, hown, hb⟩)
  go_ret2
  exact ⟨v', rfl, hown, hb⟩

set_option maxHeartbeats 400000 in
theorem wire_Num_no (m : Int) (w : World) (hm : m < 0) :
    Calls Try.prog 28 #[.int .i64 m] w fun e w' => e = .returned (.tuple #[.slice none 0 0, .int .i64 1]) ∧ w = w' := by
  go_enter Try.func28, Try.ntmps28
  go_wp2_with fail
  go_ret2
  exact ⟨rfl, rfl⟩

set_option maxRecDepth 100000 in
set_option maxHeartbeats 400000 in
theorem ref2_Num (m : Nat) (w : World) (hm : m ≤ 9223372036854775807) :
    Calls Try.prog 32 #[.int .i64 m] w fun e w' => ∃ v', e = .returned v' ∧ w'.ownsRow w.heap.size 5 1 v' (enc m).length (bytes8 (enc m)) ∧ Below w.heap.size w w' := by
  have HX := hide (enc_len_63 (n := m) (by omega))
  obtain ⟨i0, hi, hz0, hz1, hz2⟩ := info_parts Try.infoByte
  go_enter Try.func32, Try.ntmps32
  go_wp2_with fail
  go_loopw [0, 3] (fun n b wr => ∃ (m' : Nat) (ys : List UInt8), n = .int .i64 m' ∧ Hid (enc m = ys ++ enc m') ∧ m' ≤ m ∧ wr.ownsRow w.heap.size 5 1 b ys.length (bytes8 ys) ∧ Below w.heap.size w wr) (fun n _ _ => (intOf n).toNat)
  case atStart => exact ⟨m, [], rfl, rfl, Nat.le_refl _, World.ownsRow_nil _ _ _ _, Below.refl _ _⟩
  case round =>
    obtain ⟨m', ys, rfl, HE, hle, hown', hbw⟩ := hrel
    have hsz := hbw.size
    have hyl : ys.length ≤ 9 := by
      have h1 := congrArg List.length HE.out
      rw [List.length_append] at h1
      have h2 := HX.out
      omega
    by_cases hge : 128 ≤ m'
    · obtain ⟨c, HC, hor⟩ := high_byte' m'
      have HQ : Hid (enc m = (ys ++ [c]) ++ enc (m' / 128)) := by rw [Hid, HE.out, enc_ge hge, HC.out]; simp
      go_wp2_with (first
        | (at_builtin; refine wpList_append_own _ rfl _ _ 28 rfl w.heap.size 5 i0 (.int .u8 0) 1 1 Try.underlying28 hi hz0 hz1 hz2 rfl (by decide) _ _ _ rfl (hown'.alloc _) ⟨wr.heap.size, 0, none⟩ 1 1 [.int .u8 (c.toNat : Int)] rfl rfl ?c1 ?c2 ?c3 ?c4 ?c5 ?_))
      case c1 => exact news_one _ _ _
      case c2 => exact one_int _ _
      case c3 => unfold maxLen; omega
      case c4 => omega
      case c5 => simp; omega
      intro v' w1 hown2 hg _
      have hown3 : w1.ownsRow w.heap.size 5 1 v' (ys ++ [c]).length (bytes8 (ys ++ [c])) := by rw [← bytes8_snoc, List.length_append]; exact hown2
      have hb2 : Below w.heap.size w w1 := (hbw.alloc (by omega) _).grown hg (by simp; omega) (fun g hg' => (hown'.lt g hg').1)
      clear hown2 hg hown' hbw hor
      go_wp2_with fail
      go_roundw
      case rel => exact ⟨m' / 128, ys ++ [c], by go_num, HQ, by omega, hown3, hb2⟩
      case measure => simp [intOf]; omega
    · have HQ : Hid (enc m = ys ++ [UInt8.ofNat m']) := by rw [Hid, HE.out, enc_lt (by omega)]
      have hm' : m' < 128 := by omega
      go_wp2_with (first
        | (at_builtin; refine wpList_append_own _ rfl _ _ 28 rfl w.heap.size 5 i0 (.int .u8 0) 1 1 Try.underlying28 hi hz0 hz1 hz2 rfl (by decide) _ _ _ rfl (hown'.alloc _) ⟨wr.heap.size, 0, none⟩ 1 1 [.int .u8 (m' : Int)] rfl rfl ?d1 ?d2 ?d3 ?d4 ?d5 ?_))
      case d1 => exact news_one _ _ _
      case d2 => exact one_int _ _
      case d3 => unfold maxLen; omega
      case d4 => omega
      case d5 => simp; omega
      intro v' w1 hown2 hg _
      have hown3 : w1.ownsRow w.heap.size 5 1 v' (enc m).length (bytes8 (enc m)) := by
        rw [HQ.out, ← bytes8_snoc, List.length_append, toNat_low hm']; exact hown2
      have hb2 : Below w.heap.size w w1 := (hbw.alloc (by omega) _).grown hg (by simp; omega) (fun g hg' => (hown'.lt g hg').1)
      clear hown2 hg hown' hbw
      go_wp2_with fail
      go_ret
      exact ⟨_, rfl, hown3, hb2⟩
end Go.Proofs.Ytflamhndmggiaaa
