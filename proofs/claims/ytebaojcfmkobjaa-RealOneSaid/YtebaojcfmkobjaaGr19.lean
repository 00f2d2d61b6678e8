/-
  Texts joined: words and contracts that later texts use; lemmas alone, no conditions of a statement.
-/
import Derived.Test.YtebaojcfmkobjaaGr00
import Derived.Laws.StructEq
import Derived.Maps.Own
import Derived.Maps.OwnOps
import Derived.Maps.OwnSet
import Derived.Test.YtebaojcfmkobjaaGr03
import Derived.Maps.AppendAt
set_option linter.unusedVariables false
set_option linter.unusedSimpArgs false
/-
  Maps, over any program: a map's block that reads as a function from keys to values ('Mp'), at keys that are texts or pairs of ints; look-up, store, delete. Lemmas alone, no conditions of a statement.
-/
namespace Go.Proofs.Ytebaojcfmkobjaa
open Go.RowKit
open Go.ChangeMaps Go.MapKept

/-- What the laws need of a family of keys. -/
structure KeyFam (P : Program) (kt : TypeId) {K : Type} (enc : K → Value) : Prop where
  inj : ∀ {a b : K}, enc a = enc b → a = b
  check : ∀ (w : World) (em : Bool) (k : K), (Instr.checkKey em 10000 kt (enc k)).run P w = .ok () w
  find : ∀ (w : World) (k : K) (es : List MapEntry), (∀ e ∈ es, ∃ q, e.key = enc q) →
    ((Instr.findKey kt (enc k) es).run P w = .ok none w ∧ ∀ e ∈ es, e.key ≠ enc k) ∨ ∃ j e, (Instr.findKey kt (enc k) es).run P w = .ok (some (j, e.val)) w ∧ es[j]? = some e ∧ e.key = enc k
  stays : ∀ (w : World) (k : K), (Instr.keyThatStays (enc k) (enc k)).run P w = .ok (enc k) w

theorem bytes_beq (a b : ByteArray) : (a == b) = decide (a = b) := by
  rw [beq_toListBytes, ByteArray.toList_eq, ByteArray.toList_eq]
  obtain ⟨⟨x⟩⟩ := a
  obtain ⟨⟨y⟩⟩ := b
  rw [Bool.eq_iff_iff]
  simp
section
variable {P : Program} {kt : TypeId}
theorem findNow_string (k : ByteArray) : ∀ (es : List MapEntry) (i : Nat), (∀ e ∈ es, ∃ q, e.key = Value.string q) →
    (Instr.findNow .string (.string k) es i = some none ∧ ∀ e ∈ es, e.key ≠ .string k) ∨ ∃ j e, Instr.findNow .string (.string k) es i = some (some (i + j, e.val)) ∧ es[j]? = some e ∧ e.key = .string k
  | [], i, _ => .inl ⟨rfl, by simp⟩
  | e :: es, i, h => by
    obtain ⟨q, hq⟩ := h e (by simp)
    unfold Instr.findNow
    rw [hq]
    simp only [Instr.sameNow, bytes_beq]
    by_cases hk : k = q
    · subst hk
      exact .inr ⟨0, e, by simp, by simp, hq⟩
    · have hb : decide (k = q) = false := by simpa using hk
      rw [hb]
      simp only
      rcases findNow_string k es (i + 1) (fun e he => h e (by simp [he])) with ⟨h1, h2⟩ | ⟨j, e', h1, h2, h3⟩
      · refine .inl ⟨h1, fun e'' he'' => ?_⟩
        rcases List.mem_cons.1 he'' with rfl | he''
        · rw [hq]; intro hh; injection hh with hh; exact hk hh.symm
        · exact h2 e'' he''
      · exact .inr ⟨j + 1, e', by rw [h1]; congr 3; omega, by simpa using h2, h3⟩
theorem keys_string (hk : P.underlying kt = some .string) : KeyFam P kt Value.string where
  inj := fun h => by injection h
  check := fun w em k => by
    unfold Instr.checkKey
    simp [run_underlying hk]
  find := fun w k es h => by
    unfold Instr.findKey
    rcases findNow_string k es 0 h with ⟨h1, h2⟩ | ⟨j, e, h1, h2, h3⟩
    · exact .inl ⟨by simp [run_underlying hk, h1], h2⟩
    · exact .inr ⟨j, e, by simp [run_underlying hk, h1], h2, h3⟩
  stays := fun w k => by simp [Instr.keyThatStays, Instr.sameBits, bytes_beq]

/-- A pair of ints. -/
def pairV (p : Int × Int) : Value := .agg #[.int .i64 p.1, .int .i64 p.2]
theorem pairV_inj {a b : Int × Int} (h : pairV a = pairV b) : a = b := by
  obtain ⟨a1, a2⟩ := a
  obtain ⟨b1, b2⟩ := b
  simp [pairV] at h
  simp [h]
/-- What a struct of two ints is. -/
structure IsPair (P : Program) (kt t0 t1 : TypeId) (f0 f1 : Field) : Prop where
  k : P.underlying kt = some (.struct #[f0, f1])
  e0 : f0.type = t0
  e1 : f1.type = t1
  o0 : f0.offset = 0
  o1 : f1.offset = 1
  u0 : P.underlying t0 = some (.int .i64)
  u1 : P.underlying t1 = some (.int .i64)
  n0 : f0.name ≠ "_"
  n1 : f1.name ≠ "_"
  h : P.stoodInHeld kt = false

variable {t0 t1 : TypeId} {f0 f1 : Field}
theorem run_part_int {t : TypeId} (ht : P.underlying t = some (.int .i64)) (w : World) (cs : Array Value) (i : Nat) (v : Value) (hv : cs[i]? = some v) : (part t cs i).run P w = .ok v w := by
  unfold part
  simp [isAgg, Sem.run_bind, run_underlying ht, hv]
theorem part0 (hp : IsPair P kt t0 t1 f0 f1) (w : World) (a b : Value) : (part t0 #[a, b] 0).run P w = .ok a w := run_part_int hp.u0 w #[a, b] 0 a rfl
theorem part1 (hp : IsPair P kt t0 t1 f0 f1) (w : World) (a b : Value) : (part t1 #[a, b] 1).run P w = .ok b w := run_part_int hp.u1 w #[a, b] 1 b rfl
theorem pair_equal (hp : IsPair P kt t0 t1 f0 f1) (w : World) (a b : Int × Int) : (Op.equal kt (pairV a) (pairV b)).run P w = .ok (decide (a = b)) w := by
  have hf : P.fieldsOf kt = #[f0, f1] := by simp [Program.fieldsOf, hp.k]
  unfold Op.equal Op.maxDepth pairV
  rw [run_equalIn_struct w 9999 kt _ _ (by rw [hf]; exact hp.k) hp.h, hf]
  simp only [Op.eqFields]
  have hn0 := hp.n0
  have hn1 := hp.n1
  rw [if_pos hn0, if_pos hn1, hp.e0, hp.e1, hp.o0, hp.o1]
  obtain ⟨a1, a2⟩ := a
  obtain ⟨b1, b2⟩ := b
  simp only [Sem.run_bind, part0 hp, part1 hp, Result.andThen_ok, run_equalIn_int w 9998 t0 .i64 .i64 _ _ hp.u0, run_equalIn_int w 9998 t1 .i64 .i64 _ _ hp.u1]
  have q0 : ∀ x, (Op.eqFields 9999 #[.int .i64 a1, .int .i64 a2] #[.int .i64 b1, .int .i64 b2] []).run P x = .ok true x := fun x => by simp [Op.eqFields]
  by_cases h1 : a1 = b1
  · subst h1
    by_cases h2 : a2 = b2
    · subst h2; simp [Sem.run_bind, part1 hp, run_equalIn_int w 9998 t1 .i64 .i64 _ _ hp.u1]
    · simp [h2, Sem.run_bind, part1 hp, run_equalIn_int w 9998 t1 .i64 .i64 _ _ hp.u1]
  · simp [h1]
theorem findAsking_pair (hp : IsPair P kt t0 t1 f0 f1) (w : World) (k : Int × Int) : ∀ (es : List MapEntry) (i : Nat), (∀ e ∈ es, ∃ q, e.key = pairV q) →
    ((Instr.findAsking kt (pairV k) es i).run P w = .ok none w ∧ ∀ e ∈ es, e.key ≠ pairV k) ∨ ∃ j e, (Instr.findAsking kt (pairV k) es i).run P w = .ok (some (i + j, e.val)) w ∧ es[j]? = some e ∧ e.key = pairV k
  | [], i, _ => .inl ⟨by simp [Instr.findAsking], by simp⟩
  | e :: es, i, h => by
    obtain ⟨q, hq⟩ := h e (by simp)
    unfold Instr.findAsking
    simp only [Sem.run_bind, hq, pair_equal hp w k q, Result.andThen_ok]
    by_cases hk : k = q
    · subst hk
      exact .inr ⟨0, e, by simp, by simp, hq⟩
    · simp only [hk, decide_false, Bool.false_eq_true, if_false]
      rcases findAsking_pair hp w k es (i + 1) (fun e he => h e (by simp [he])) with ⟨h1, h2⟩ | ⟨j, e', h1, h2, h3⟩
      · refine .inl ⟨h1, fun e'' he'' => ?_⟩
        rcases List.mem_cons.1 he'' with rfl | he''
        · rw [hq]; intro hh; exact hk (pairV_inj hh).symm
        · exact h2 e'' he''
      · exact .inr ⟨j + 1, e', by rw [h1]; congr 3; omega, by simpa using h2, h3⟩
theorem check_pair (hp : IsPair P kt t0 t1 f0 f1) (w : World) (em : Bool) (k : Int × Int) : (Instr.checkKey em 10000 kt (pairV k)).run P w = .ok () w := by
  have c0 : ∀ {t : TypeId} (n : Nat) (x : Int), P.underlying t = some (.int .i64) → (Instr.checkKey em (n + 1) t (.int .i64 x)).run P w = .ok () w := by
    intro t n x ht
    unfold Instr.checkKey
    simp [run_underlying ht]
  unfold pairV
  unfold Instr.checkKey
  simp only [Sem.run_bind, run_underlying hp.k, Result.andThen_ok]
  have hn0 := hp.n0
  have hn1 := hp.n1
  simp [hn0, hn1, hp.e0, hp.e1, hp.o0, hp.o1, Sem.run_bind, part0 hp, part1 hp, c0 9998 k.1 hp.u0, c0 9998 k.2 hp.u1]
theorem keys_pair (hp : IsPair P kt t0 t1 f0 f1) : KeyFam P kt pairV where
  inj := pairV_inj
  check := check_pair hp
  find := fun w k es h => by
    unfold Instr.findKey
    simp only [Sem.run_bind, run_underlying hp.k, Result.andThen_ok]
    cases es with
    | nil => exact .inl ⟨by simp [Instr.findNow], by simp⟩
    | cons e es =>
      obtain ⟨q, hq⟩ := h e (by simp)
      have hn : Instr.findNow (.struct #[f0, f1]) (pairV k) (e :: es) 0 = none := by
        unfold Instr.findNow
        rfl
      rw [hn]
      simp only
      rcases findAsking_pair hp w k (e :: es) 0 h with ⟨h1, h2⟩ | ⟨j, e', h1, h2, h3⟩
      · exact .inl ⟨h1, h2⟩
      · exact .inr ⟨j, e', by rw [h1, Nat.zero_add], h2, h3⟩
  stays := fun w k => by simp [Instr.keyThatStays, Instr.sameBits, pairV]
end

theorem set_some {α : Type} {l : List α} {j i : Nat} {a x : α} (h : (l.set j a)[i]? = some x) : (i = j ∧ x = a) ∨ (i ≠ j ∧ l[i]? = some x) := by
  by_cases hij : i = j
  · subst hij
    obtain ⟨hlt, he⟩ := List.getElem?_eq_some_iff.1 h
    rw [List.getElem_set_self] at he
    exact .inl ⟨rfl, he.symm⟩
  · rw [List.getElem?_set_ne (fun e => hij e.symm)] at h
    exact .inr ⟨hij, h⟩

/-- The map's block b reads as f. -/
def Mp {K : Type} (w : World) (b : Nat) (enc : K → Value) (f : K → Option Value) : Prop :=
  ∃ es clock, w.heap[b]? = some (.map es clock) ∧ (∀ e ∈ es.toList, ∃ q, e.key = enc q) ∧ (∀ (i j : Nat) (x y : MapEntry), es.toList[i]? = some x → es.toList[j]? = some y → x.key = y.key → i = j) ∧
    ∀ k v, f k = some v ↔ ∃ e ∈ es.toList, e.key = enc k ∧ e.val = v

section
variable {P : Program} {kt : TypeId} {K : Type} {enc : K → Value} {f : K → Option Value} {w w' : World} {b : Nat}
theorem Mp.lt (h : Mp w b enc f) : b < w.heap.size := by
  obtain ⟨es, clock, hb, _⟩ := h
  exact (Array.getElem?_eq_some_iff.1 hb).1
theorem Mp.at_ (h : Mp w b enc f) (e : w'.heap[b]? = w.heap[b]?) : Mp w' b enc f := by
  obtain ⟨es, clock, hb, hr⟩ := h
  exact ⟨es, clock, e.trans hb, hr⟩
theorem Mp.below {B : Nat} (h : Mp w b enc f) (hb : Below B w w') (hg : b < B) : Mp w' b enc f := h.at_ (hb.block b hg)
theorem Mp.later (h : Mp w b enc f) (hb : Below w.heap.size w w') : Mp w' b enc f := h.below hb h.lt
theorem Mp.grown {row : Option Nat} (h : Mp w b enc f) (hb : w.grownBy w' row) (hg : some b ≠ row) : Mp w' b enc f := h.at_ (hb.block b h.lt hg)
theorem Mp.drew (h : Mp w b enc f) : Mp w.drew b enc f := h
theorem Mp.drewN (h : Mp w b enc f) (n : Nat) : Mp (w.drewN n) b enc f := h
theorem Mp.alloc (h : Mp w b enc f) (o : Obj) : Mp (w.alloc o) b enc f := h.later ((Below.refl _ _).alloc (Nat.le_refl _) o)
theorem Mp.setCell (h : Mp w b enc f) {p : Addr} (hp : b ≠ p.block) (u : Value) : Mp (w.setCell p u) b enc f := h.at_ (Below.heap_setCell w p u b hp)
theorem Mp.made (w : World) (enc : K → Value) : Mp (w.alloc (.map #[] 0)) w.heap.size enc (fun _ => none) :=
  ⟨#[], 0, (MapKept.heap_alloc w _).1, by simp, by simp, by simp⟩
theorem Mp.congr {f' : K → Option Value} (h : Mp w b enc f) (e : ∀ k, f k = f' k) : Mp w b enc f' := by
  obtain rfl : f = f' := funext e
  exact h

/-- 'm[k]', 'v, ok := m[k]'. -/
theorem Mp.look (h : Mp w b enc f) (F : KeyFam P kt enc) {t e : TypeId} (ht : P.underlying t = some (.map kt e)) {z : Value} (hz : (zeroValue e).run P w = .ok z w) (k : K) (c : Bool) :
    (Instr.lookup t (.map (some b)) (enc k) c).run P w = .ok (if c then .tuple #[(f k).getD z, .bool (f k).isSome] else (f k).getD z) w := by
  obtain ⟨es, clock, hb, hk, _, hf⟩ := h
  rcases F.find w k es.toList hk with ⟨h1, h2⟩ | ⟨j, e0, h1, h2, h3⟩
  · have hn : f k = none := by
      cases hv : f k with
      | none => rfl
      | some v =>
        obtain ⟨e, he, hke, _⟩ := (hf k v).1 hv
        exact absurd hke (h2 e he)
    simp [Instr.lookup, run_underlying ht, MapKept.run_getObj_map hb, F.check, h1, hz, Result.andThen, hn]
  · have hs : f k = some e0.val := (hf k e0.val).2 ⟨e0, List.mem_of_getElem? h2, h3, rfl⟩
    simp [Instr.lookup, run_underlying ht, MapKept.run_getObj_map hb, F.check, h1, Result.andThen, hs]

/-- 'm[k] = v'. -/
theorem Mp.update [DecidableEq K] (h : Mp w b enc f) (F : KeyFam P kt enc) {t e : TypeId} (ht : P.underlying t = some (.map kt e)) (k : K) (v : Value) :
    ∃ w', (Instr.mapUpdate t (.map (some b)) (enc k) v).run P w = .ok () w' ∧ Mp w' b enc (fun q => if q = k then some v else f q) ∧ w.grownBy w' (some b) ∧ w'.heap.size = w.heap.size := by
  obtain ⟨es, clock, hb, hk, hd, hf⟩ := h
  have hg : ∀ o : Obj, w.grownBy (setBlock w b o) (some b) := fun o => ⟨rfl, rfl, rfl, by simp [setBlock], fun i _ hi => heap_setBlock_other hb _ (fun e => hi (by rw [e]))⟩
  rcases F.find w k es.toList hk with ⟨h1, h2⟩ | ⟨j, e0, h1, h2, h3⟩
  · refine ⟨setBlock w b (.map (es.push ⟨enc k, v, clock⟩) (clock + 1)), ?_, ⟨_, _, heap_setBlock_same hb _, ?_, ?_, ?_⟩, hg _, by simp [setBlock]⟩
    · simp [Instr.mapUpdate, run_underlying ht, MapKept.run_getObj_map hb, F.check, h1, MapKept.run_setObj_map _ hb, Result.andThen, setBlock]
    · intro x hx
      simp only [Array.toList_push, List.mem_append, List.mem_singleton] at hx
      rcases hx with hx | rfl
      · exact hk x hx
      · exact ⟨k, rfl⟩
    · intro i j x y hx hy hxy
      simp only [Array.toList_push] at hx hy
      rw [List.getElem?_append] at hx hy
      split at hx <;> split at hy
      · exact hd i j x y hx hy hxy
      · rename_i hi hj
        have : y = ⟨enc k, v, clock⟩ := by
          rcases Nat.eq_zero_or_pos (j - es.toList.length) with h0 | h0
          · rw [h0] at hy; simpa using hy.symm
          · rw [List.getElem?_eq_none (by rw [List.length_singleton]; exact h0)] at hy; cases hy
        subst this
        exact absurd hxy (h2 x (List.mem_of_getElem? hx))
      · rename_i hi hj
        have : x = ⟨enc k, v, clock⟩ := by
          rcases Nat.eq_zero_or_pos (i - es.toList.length) with h0 | h0
          · rw [h0] at hx; simpa using hx.symm
          · rw [List.getElem?_eq_none (by rw [List.length_singleton]; exact h0)] at hx; cases hx
        subst this
        exact absurd hxy.symm (h2 y (List.mem_of_getElem? hy))
      · rename_i hi hj
        have a1 := (List.getElem?_eq_some_iff.1 hx).1
        have a2 := (List.getElem?_eq_some_iff.1 hy).1
        simp only [List.length_singleton] at a1 a2
        omega
    · intro q u
      simp only [Array.toList_push, List.mem_append, List.mem_singleton]
      by_cases hq : q = k
      · subst hq
        show (if q = q then _ else _) = some u ↔ _
        rw [if_pos rfl]
        constructor
        · intro hu; injection hu with hu; subst hu; exact ⟨_, .inr rfl, rfl, rfl⟩
        · rintro ⟨x, hx | rfl, hkx, hv⟩
          · exact absurd hkx (h2 x hx)
          · rw [← hv]
      · show (if q = k then _ else _) = some u ↔ _
        rw [if_neg hq, hf]
        constructor
        · rintro ⟨x, hx, hkx, hv⟩; exact ⟨x, .inl hx, hkx, hv⟩
        · rintro ⟨x, hx | rfl, hkx, hv⟩
          · exact ⟨x, hx, hkx, hv⟩
          · exact absurd (F.inj hkx).symm hq
  · have hj : es[j]? = some e0 := by simpa using h2
    have hjl : j < es.toList.length := (List.getElem?_eq_some_iff.1 h2).1
    have hlist : (es.modify j (fun e' => { e' with key := enc k, val := v })).toList = es.toList.set j { e0 with key := enc k, val := v } := by rw [Array.toList_modify, modify_eq_set _ _ _ _ h2]
    refine ⟨setBlock w b (.map (es.modify j (fun e' => { e' with key := enc k, val := v })) clock), ?_, ⟨_, _, heap_setBlock_same hb _, ?_, ?_, ?_⟩, hg _, by simp [setBlock]⟩
    · simp [Instr.mapUpdate, run_underlying ht, MapKept.run_getObj_map hb, F.check, h1, hj, h3, F.stays, MapKept.run_setObj_map _ hb, Result.andThen, setBlock]
    · rw [hlist]
      intro x hx
      obtain ⟨i, hi⟩ := List.mem_iff_getElem?.1 hx
      rcases set_some hi with ⟨_, rfl⟩ | ⟨_, hi⟩
      · exact ⟨k, rfl⟩
      · exact hk x (List.mem_of_getElem? hi)
    · rw [hlist]
      have hsame : ∀ (i : Nat) (x : MapEntry), (es.toList.set j { e0 with key := enc k, val := v })[i]? = some x → ∃ x' : MapEntry, es.toList[i]? = some x' ∧ x'.key = x.key := by
        intro i x hx
        rcases set_some hx with ⟨rfl, rfl⟩ | ⟨_, hi⟩
        · exact ⟨e0, h2, h3⟩
        · exact ⟨x, hi, rfl⟩
      intro i i' x y hx hy hxy
      obtain ⟨x', hx', kx⟩ := hsame i x hx
      obtain ⟨y', hy', ky⟩ := hsame i' y hy
      exact hd i i' x' y' hx' hy' (by rw [kx, ky, hxy])
    · rw [hlist]
      intro q u
      by_cases hq : q = k
      · subst hq
        show (if q = q then _ else _) = some u ↔ _
        rw [if_pos rfl]
        constructor
        · intro hu; injection hu with hu; subst hu
          exact ⟨{ e0 with key := enc q, val := v }, List.mem_of_getElem? (i := j) (by rw [List.getElem?_set_self hjl]), rfl, rfl⟩
        · rintro ⟨x, hx, hkx, hv⟩
          obtain ⟨i, hi⟩ := List.mem_iff_getElem?.1 hx
          rcases set_some hi with ⟨_, rfl⟩ | ⟨hne, hi⟩
          · rw [← hv]
          · exact absurd (hd i j x e0 hi h2 (by rw [h3, hkx])) hne
      · show (if q = k then _ else _) = some u ↔ _
        rw [if_neg hq, hf]
        constructor
        · rintro ⟨x, hx, hkx, hv⟩
          obtain ⟨i, hi⟩ := List.mem_iff_getElem?.1 hx
          have hne : j ≠ i := by
            rintro rfl
            rw [h2] at hi
            injection hi with hi
            subst hi
            exact hq (F.inj (hkx.symm.trans h3))
          exact ⟨x, List.mem_of_getElem? (i := i) (by rw [List.getElem?_set_ne hne]; exact hi), hkx, hv⟩
        · rintro ⟨x, hx, hkx, hv⟩
          obtain ⟨i, hi⟩ := List.mem_iff_getElem?.1 hx
          rcases set_some hi with ⟨_, rfl⟩ | ⟨_, hi⟩
          · exact absurd (F.inj hkx).symm hq
          · exact ⟨x, List.mem_of_getElem? hi, hkx, hv⟩

/-- 'delete(m, k)'. -/
theorem Mp.drop [DecidableEq K] (h : Mp w b enc f) (F : KeyFam P kt enc) {t e : TypeId} (ht : P.underlying t = some (.map kt e)) (k : K) (t2 ty : TypeId) :
    ∃ w', (Builtin.delete_ #[t, t2] ty #[.map (some b), enc k]).run P w = .ok (.tuple #[]) w' ∧ Mp w' b enc (fun q => if q = k then none else f q) ∧ w.grownBy w' (some b) ∧ w'.heap.size = w.heap.size := by
  obtain ⟨es, clock, hb, hk, hd, hf⟩ := h
  have hg : ∀ o : Obj, w.grownBy (setBlock w b o) (some b) := fun o => ⟨rfl, rfl, rfl, by simp [setBlock], fun i _ hi => heap_setBlock_other hb _ (fun e => hi (by rw [e]))⟩
  rcases F.find w k es.toList hk with ⟨h1, h2⟩ | ⟨j, e0, h1, h2, h3⟩
  · refine ⟨setBlock w b (.map es clock), ?_, ⟨_, _, heap_setBlock_same hb _, hk, hd, ?_⟩, hg _, by simp [setBlock]⟩
    · simp [Builtin.delete_, run_underlying ht, MapKept.run_getObj_map hb, F.check, h1, MapKept.run_setObj_map _ hb, Result.andThen, setBlock]
    · intro q u
      by_cases hq : q = k
      · subst hq
        show (if q = q then _ else _) = some u ↔ _
        rw [if_pos rfl]
        constructor
        · intro hu; cases hu
        · rintro ⟨x, hx, hkx, _⟩; exact absurd hkx (h2 x hx)
      · show (if q = k then _ else _) = some u ↔ _
        rw [if_neg hq]; exact hf q u
  · have hjl : j < es.toList.length := (List.getElem?_eq_some_iff.1 h2).1
    have hjs : j < es.size := by simpa using hjl
    have hsub : (es.eraseIdxIfInBounds j).toList = es.toList.eraseIdx j := by
      unfold Array.eraseIdxIfInBounds
      rw [dif_pos hjs]
      simp
    refine ⟨setBlock w b (.map (es.eraseIdxIfInBounds j) clock), ?_, ⟨_, _, heap_setBlock_same hb _, ?_, ?_, ?_⟩, hg _, by simp [setBlock]⟩
    · simp [Builtin.delete_, run_underlying ht, MapKept.run_getObj_map hb, F.check, h1, MapKept.run_setObj_map _ hb, Result.andThen, setBlock]
    · rw [hsub]
      intro x hx
      exact hk x ((List.eraseIdx_sublist _ _).subset hx)
    · rw [hsub]
      intro i i' x y hx hy hxy
      rw [List.getElem?_eraseIdx] at hx hy
      split at hx <;> split at hy
      · exact hd i i' x y hx hy hxy
      · have := hd i (i' + 1) x y hx hy hxy; omega
      · have := hd (i + 1) i' x y hx hy hxy; omega
      · have := hd (i + 1) (i' + 1) x y hx hy hxy; omega
    · rw [hsub]
      intro q u
      by_cases hq : q = k
      · subst hq
        show (if q = q then _ else _) = some u ↔ _
        rw [if_pos rfl]
        constructor
        · intro hu; cases hu
        · rintro ⟨x, hx, hkx, _⟩
          obtain ⟨i, hne, hi⟩ := List.mem_eraseIdx_iff_getElem?.1 hx
          exact absurd (hd i j x e0 hi h2 (by rw [hkx, h3])) hne
      · show (if q = k then _ else _) = some u ↔ _
        rw [if_neg hq, hf]
        constructor
        · rintro ⟨x, hx, hkx, hv⟩
          obtain ⟨i, hi⟩ := List.mem_iff_getElem?.1 hx
          have hne : i ≠ j := by
            rintro rfl
            rw [h2] at hi
            injection hi with hi
            subst hi
            exact hq (F.inj (hkx.symm.trans h3))
          exact ⟨x, List.mem_eraseIdx_iff_getElem?.2 ⟨i, hne, hi⟩, hkx, hv⟩
        · rintro ⟨x, hx, hkx, hv⟩
          exact ⟨x, (List.eraseIdx_sublist _ _).subset hx, hkx, hv⟩
end
end Go.Proofs.Ytebaojcfmkobjaa
/-
  Words for the book: which blocks may have changed ('Chg'), a slice of rows of bytes ('RwF'), a book's memory ('BkI'). Lemmas alone, no conditions of a statement.
-/
namespace Go.Proofs.Ytebaojcfmkobjaa
open Go.RowKit

/-- Nothing has changed but in blocks of F; there are new ones. -/
structure Chg (F : Nat → Prop) (w w' : World) : Prop where
  os : w'.os = w.os
  tape : w'.tape = w.tape
  output : w'.output = w.output
  size : w.heap.size ≤ w'.heap.size
  block : ∀ b, b < w.heap.size → ¬ F b → w'.heap[b]? = w.heap[b]?

section
variable {F F' : Nat → Prop} {w w' w'' : World}
theorem Chg.refl (F : Nat → Prop) (w : World) : Chg F w w := ⟨rfl, rfl, rfl, Nat.le_refl _, fun _ _ _ => rfl⟩
theorem Chg.trans (h : Chg F w w') (h' : Chg F' w' w'') (hF : ∀ b, F' b → F b ∨ w.heap.size ≤ b) : Chg F w w'' :=
  ⟨h'.os.trans h.os, h'.tape.trans h.tape, h'.output.trans h.output, Nat.le_trans h.size h'.size, fun b hb hn => by
    rw [h'.block b (Nat.lt_of_lt_of_le hb h.size) (fun hf => by
      rcases hF b hf with h1 | h1
      · exact hn h1
      · omega), h.block b hb hn]⟩
theorem Chg.of_below (h : Below w.heap.size w w') : Chg F w w' := ⟨h.os, h.tape, h.output, h.size, fun b hb _ => h.block b hb⟩
theorem Chg.to_below {B : Nat} (h : Chg F w w') (hF : ∀ b, F b → B ≤ b) (hB : B ≤ w.heap.size) : Below B w w' :=
  ⟨h.os, h.tape, h.output, h.size, fun b hb => h.block b (by omega) (fun hf => by have := hF b hf; omega)⟩
theorem Chg.of_grown {row : Option Nat} (h : w.grownBy w' row) (hF : ∀ g, row = some g → F g ∨ w.heap.size ≤ g) : Chg F w w' :=
  ⟨h.os, h.tape, h.output, h.size, fun b hb hn => h.block b hb (fun e => by
    rcases hF b e.symm with h1 | h1
    · exact hn h1
    · omega)⟩
theorem Chg.mono (h : Chg F w w') (hF : ∀ b, F b → F' b ∨ w.heap.size ≤ b) : Chg F' w w' :=
  ⟨h.os, h.tape, h.output, h.size, fun b hb hn => h.block b hb (fun hf => by
    rcases hF b hf with h1 | h1
    · exact hn h1
    · omega)⟩
theorem Chg.drewN (h : Chg F w w') (n : Nat) : Chg F w (w'.drewN n) := ⟨h.os, h.tape, h.output, h.size, h.block⟩
theorem Chg.then_below (h : Chg F w w') (h' : Below w'.heap.size w' w'') : Chg F w w'' := h.trans (Chg.of_below (F := fun _ => False) h') (fun _ hf => hf.elim)
theorem Chg.alloc (h : Chg F w w') (o : Obj) : Chg F w (w'.alloc o) := h.then_below ((Below.refl _ _).alloc (Nat.le_refl _) o)
theorem Chg.setCell (h : Chg F w w') {p : Addr} (hp : F p.block ∨ w.heap.size ≤ p.block) (u : Value) : Chg F w (w'.setCell p u) :=
  h.trans (F' := fun b => b = p.block) ⟨rfl, rfl, rfl, by simp [World.setCell], fun b _ hn => Below.heap_setCell w' p u b hn⟩ (fun b hb => by subst hb; exact hp)
theorem Chg.then_grown {row : Option Nat} (h : Chg F w w') (h' : w'.grownBy w'' row) (hF : ∀ g, row = some g → F g ∨ w.heap.size ≤ g) : Chg F w w'' :=
  h.trans (F' := fun b => some b = row) (Chg.of_grown h' (fun g e => .inl e.symm)) (fun b hb => hF b hb.symm)
theorem Chg.at_ (h : Chg F w w') {b : Nat} (hb : b < w.heap.size) (hn : ¬ F b) : w'.heap[b]? = w.heap[b]? := h.block b hb hn
end

theorem Blk.at_block {w w' : World} {g : Nat} {t : TypeId} {cs : Array Value} (h : Blk w g t cs) (e : w'.heap[g]? = w.heap[g]?) : Blk w' g t cs := e.trans h
theorem Blk.chg {F : Nat → Prop} {w w' : World} {g : Nat} {t : TypeId} {cs : Array Value} (h : Blk w g t cs) (hc : Chg F w w') (hn : ¬ F g) : Blk w' g t cs := h.at_block (hc.at_ h.lt hn)
theorem Sl.chg {F : Nat → Prop} {w w' : World} {size n : Nat} {A : Option Addr} {cs : List Value} (h : Sl w size A n cs) (hc : Chg F w w') (ha : 0 < n → ∀ b off, A = some ⟨b, off, none⟩ → ¬ F b) : Sl w' size A n cs := by
  refine ⟨h.1, fun hn => ?_⟩
  obtain ⟨b, off, e, hb, hcell⟩ := h.2 hn
  refine ⟨b, off, e, Nat.lt_of_lt_of_le hb hc.size, fun j u hu => ?_⟩
  rw [World.cell?_of_block (a := ⟨b, off + j, none⟩) (hc.at_ hb (ha hn b off e))]
  exact hcell j u hu
theorem own_at {w w' : World} {base size n : Nat} {e : TypeId} {v : Value} {xs : List Value} (h : w.ownsRow base e size v n xs) (hb : ∀ g, v.ownBlock = some g → w'.heap[g]? = w.heap[g]?) : w'.ownsRow base e size v n xs := by
  refine ⟨h.1, ?_⟩
  rcases h.2 with h0 | ⟨g, cap, cur, rfl, hbg, hg, hr⟩
  · exact .inl h0
  · exact .inr ⟨g, cap, cur, rfl, hbg, (hb g rfl).trans hg, hr⟩
theorem own_in {w : World} {base size n : Nat} {e : TypeId} {v : Value} {xs : List Value} (h : w.ownsRow base e size v n xs) {g : Nat} (hg : v.ownBlock = some g) : g < w.heap.size := by
  rcases h.2 with ⟨rfl, _⟩ | ⟨g', cap, cur, rfl, _, hh, _⟩
  · cases hg
  · injection hg with hg
    subst hg
    exact (Array.getElem?_eq_some_iff.1 hh).1

/-- append onto a row of one's own, at a step of a region that draws: where the new row lies. -/
theorem step_append_at {P : Program} (w : World) {ops : Array Oper} {o : Oper} {a : Act} {K : Act → World → Prop} {Q : Exit → Act → World → Prop} {X : Prop} (hgd : o.guard = none) (s x : Operand) (t : TypeId)
    (ho : o.op = .call { callee := .builtin .append, args := #[s, x], argTypes := #[t, t] })
    (base : Nat) (e : TypeId) (i : TypeInfo) (z : Value) (size bytes : Nat) (ht : P.underlying t = some (.slice e)) (hi : P.info? e = some i) (hz : i.zero = some z)
    (hsize : i.size = size) (hby : i.bytes = bytes) (hzs : z.cells.size = size) (hsz : 0 < size)
    (v : Value) (n : Nat) (xs : List Value) (hs : a.eval s = v) (hown : w.ownsRow base e size v n xs)
    (ad : Addr) (m c : Nat) (news : List Value) (hx : a.eval x = .slice (some ad) m c) (hl : news.length = m * size) (hnews : ∀ j u, news[j]? = some u → w.cell? (ad.add j) = some u) (h1 : ∀ u ∈ news, u.oneCell' = true)
    (h63 : n + m ≤ maxLen) (hbytes : (n + m) * bytes ≤ 140737488355328) (hbase : base ≤ w.heap.size)
    (h : ∀ v' w', w'.ownsRow base e size v' (n + m) (xs ++ news) → w.grownBy w' v.ownBlock → (v'.ownBlock = v.ownBlock ∨ v'.ownBlock = some w.heap.size) → K (a.put o.dst v') w') :
    if Region.wanted o (yielded ops a.tmps) = true then Oper.wp P o a w K Q else X := by
  rw [if_pos (by simp [Region.wanted, hgd])]
  obtain ⟨v', w', hr, h2, h3, _, h5⟩ := run_append_own_at (P := P) w base t o.type e i z size bytes ht hi hz hsize hby hzs hsz v n xs hown ad m c news hl hnews h1 h63 hbytes hbase
  unfold Oper.wp execOp
  simp only [ho, resolve, invoke, builtin, Sem.run_bind, Sem.run_pure, Result.andThen_ok, List.map_toArray, List.map_cons, List.map_nil, hs, hx, hr]
  exact h v' w' h2 h3 h5

theorem step_enter_ex {P : Program} {w : World} {ops : Array Oper} {o : Oper} {a : Act} {K : Act → World → Prop} {Q : Exit → Act → World → Prop} {X : Prop} (hgd : o.guard = none) (f : FuncId) (args : Array Value) {R : Value → World → Prop}
    (hr : (execOp a.eval o).run P w = .ok (.enter f args) w) (hc : Calls P f args w fun e w' => ∃ v, e = .returned v ∧ R v w') (h : ∀ v w', R v w' → K (a.put o.dst v) w') :
    if Region.wanted o (yielded ops a.tmps) = true then Oper.wp P o a w K Q else X := by
  rw [if_pos (by simp [Region.wanted, hgd])]
  unfold Oper.wp
  rw [hr, Oper.upon_enter]
  refine hc.mono ?_
  rintro e w' ⟨v, rfl, hR⟩
  exact h v w' hR

/-- A row of bytes, among blocks of E: a slice's value. -/
def ElF (E : Nat → Prop) (w : World) (v : Value) (x : List UInt8) : Prop :=
  ∃ A c, v = .slice A x.length c ∧ x.length ≤ c ∧ c ≤ 9223372036854775807 ∧ Sl w 1 A x.length (bytes8 x) ∧ (0 < x.length → ∃ b off, A = some ⟨b, off, none⟩ ∧ E b)
theorem ElF.keep {E E' : Nat → Prop} {w w' : World} {v : Value} {x : List UInt8} (h : ElF E w v x) (hs : w.heap.size ≤ w'.heap.size) (hb : ∀ b, b < w.heap.size → E b → w'.heap[b]? = w.heap[b]?) (hE : ∀ b, E b → E' b) : ElF E' w' v x := by
  obtain ⟨A, c, rfl, hc, hm, hsl, hA⟩ := h
  refine ⟨A, c, rfl, hc, hm, ⟨hsl.1, fun hn => ?_⟩, fun hn => ?_⟩
  · obtain ⟨b, off, e, hlt, hcell⟩ := hsl.2 hn
    obtain ⟨b', off', e', hEb⟩ := hA hn
    rw [e] at e'
    injection e' with e'
    injection e' with e1 e2
    subst e1
    refine ⟨b, off, e, by omega, fun j u hu => ?_⟩
    rw [World.cell?_of_block (a := ⟨b, off + j, none⟩) (hb b hlt hEb)]
    exact hcell j u hu
  · obtain ⟨b, off, e, hEb⟩ := hA hn
    exact ⟨b, off, e, hE b hEb⟩
theorem ElF.sl {E : Nat → Prop} {w : World} {v : Value} {x : List UInt8} (h : ElF E w v x) : ∃ A c, v = .slice A x.length c ∧ x.length ≤ c ∧ c ≤ 9223372036854775807 ∧ Sl w 1 A x.length (bytes8 x) := by
  obtain ⟨A, c, h1, h2, h3, h4, _⟩ := h
  exact ⟨A, c, h1, h2, h3, h4⟩
theorem ElF.of_own {w : World} {base n : Nat} {e : TypeId} {v : Value} {x : List UInt8} (h : w.ownsRow base e 1 v n (bytes8 x)) : ElF (fun b => base ≤ b ∧ b < w.heap.size) w v x := by
  obtain ⟨A, c, rfl, h1, h2⟩ := own_slice_cap h
  have hl : x.length = n := by have := h.1; rw [bytes8_len] at this; omega
  subst hl
  refine ⟨A, c, rfl, h1, by unfold maxLen at h2; exact h2, Sl.of_own h, fun hn => ?_⟩
  obtain ⟨g, cap, hv, hg, hlt⟩ := h.form hn
  injection hv with hA
  subst hA
  exact ⟨g, 0, rfl, hg, hlt⟩

/-- A slice of rows of bytes: its row among the blocks F, the bytes among the blocks E. -/
def RwF (F E : Nat → Prop) (w : World) (t : TypeId) (v : Value) (L : List (List UInt8)) : Prop :=
  ∃ A c els, v = .slice A L.length c ∧ w.ownsRow 0 t 1 v L.length els ∧ (∀ b, v.ownBlock = some b → F b) ∧ ∀ (i : Nat) (x : List UInt8), L[i]? = some x → ∃ u, els[i]? = some u ∧ ElF E w u x
section
variable {F F' E E' : Nat → Prop} {w w' : World} {t : TypeId} {v : Value} {L : List (List UInt8)}
theorem RwF.keep (h : RwF F E w t v L) (hs : w.heap.size ≤ w'.heap.size) (hr : ∀ b, b < w.heap.size → v.ownBlock = some b → w'.heap[b]? = w.heap[b]?) (hb : ∀ b, b < w.heap.size → E b → w'.heap[b]? = w.heap[b]?) (hF : ∀ b, F b → F' b) (hE : ∀ b, E b → E' b) : RwF F' E' w' t v L := by
  obtain ⟨A, c, els, hv, ho, hf, hi⟩ := h
  exact ⟨A, c, els, hv, own_at ho (fun g hg => hr g (own_in ho hg) hg), fun b hbk => hF b (hf b hbk), fun i x hx => by
    obtain ⟨u, hu, he⟩ := hi i x hx
    exact ⟨u, hu, he.keep hs hb hE⟩⟩
theorem RwF.inF (h : RwF F E w t v L) {b : Nat} (hb : v.ownBlock = some b) : F b := by
  obtain ⟨_, _, _, _, _, hf, _⟩ := h
  exact hf b hb
theorem RwF.cells (h : RwF F E w t v L) {b : Nat} (hb : v.ownBlock = some b) : ∃ cur, w.heap[b]? = some (.cells cur t (0, 0)) := by
  obtain ⟨_, _, _, _, ho, _, _⟩ := h
  rcases ho.2 with ⟨rfl, _⟩ | ⟨g', cap, cur, rfl, _, hh, _⟩
  · cases hb
  · injection hb with hb
    subst hb
    exact ⟨cur, hh⟩
theorem RwF.not_map {K : Type} {enc : K → Value} {f : K → Option Value} {m : Nat} (h : RwF F E w t v L) (hm : Mp w m enc f) : v.ownBlock ≠ some m := by
  intro e
  obtain ⟨cur, h1⟩ := h.cells e
  obtain ⟨es, cl, h2, _⟩ := hm
  rw [h1] at h2
  cases h2
theorem RwF.not_blk {g : Nat} {t' : TypeId} {cs : Array Value} (h : RwF F E w t v L) (hg : Blk w g t' cs) (hne : t ≠ t') : v.ownBlock ≠ some g := by
  intro e
  obtain ⟨cur, h1⟩ := h.cells e
  unfold Blk at hg
  rw [h1] at hg
  injection hg with hg
  injection hg with _ ht
  exact hne ht
theorem Mp.not_blk {K : Type} {enc : K → Value} {f : K → Option Value} {m g : Nat} {t' : TypeId} {cs : Array Value} (h : Mp w m enc f) (hg : Blk w g t' cs) : g ≠ m := by
  rintro rfl
  obtain ⟨es, cl, h2, _⟩ := h
  unfold Blk at hg
  rw [hg] at h2
  cases h2
theorem RwF.nil_ : RwF F E w t (.slice none 0 0) [] := ⟨none, 0, [], rfl, World.ownsRow_nil _ _ _ _, (fun b hb => by cases hb), by simp⟩
theorem RwF.val (h : RwF F E w t v L) : ∃ A c, v = .slice A L.length c ∧ L.length ≤ 9223372036854775807 := by
  obtain ⟨A, c, els, hv, ho, _⟩ := h
  subst hv
  obtain ⟨_, _, e, h1, h2⟩ := own_slice_cap ho
  unfold maxLen at h2
  exact ⟨A, c, rfl, by omega⟩
/-- The i-th row. -/
theorem RwF.at_ (h : RwF F E w t v L) {i : Nat} {x : List UInt8} (hx : L[i]? = some x) : ∃ b c A1 c1, v = .slice (some ⟨b, 0, none⟩) L.length c ∧ F b ∧ w.cell? ⟨b, i, none⟩ = some (.slice A1 x.length c1) ∧ x.length ≤ c1 ∧ c1 ≤ 9223372036854775807 ∧ Sl w 1 A1 x.length (bytes8 x) := by
  obtain ⟨A, c, els, rfl, ho, hf, hi⟩ := h
  have hlt := lt_of_at hx
  obtain ⟨u, hu, he⟩ := hi i x hx
  obtain ⟨A1, c1, rfl, h1, h2, h3⟩ := he.sl
  obtain ⟨g, cap, hv, hg, hlg⟩ := ho.form (by omega)
  injection hv with hA hn hc
  subst hA
  refine ⟨g, c, A1, c1, rfl, hf g rfl, ?_, h1, h2, h3⟩
  have := ho.cells (g := g) rfl i _ hu
  rwa [add_lit, Nat.zero_add] at this
end

/-- Where bytes stand in a list. -/
def fnd : List (List UInt8) → List UInt8 → Option Nat
  | [], _ => none
  | y :: r, x => if y = x then some 0 else (fnd r x).map (· + 1)
theorem fnd_snoc {L : List (List UInt8)} {x : List UInt8} (h : fnd L x = none) (y : List UInt8) : fnd (L ++ [x]) y = if y = x then some L.length else fnd L y := by
  induction L with
  | nil => simp [fnd, eq_comm]
  | cons z r ih =>
    unfold fnd at h
    by_cases e : z = x
    · rw [if_pos e] at h; cases h
    · rw [if_neg e] at h
      have := ih (by cases hf : fnd r x with | none => rfl | some k => rw [hf] at h; cases h)
      simp only [List.cons_append, fnd, this]
      by_cases hy : y = x
      · subst hy
        simp [e]
      · simp [hy]
/-- The number (0: none), the error. -/
def fndN (o : Option Nat) : Int := match o with | some i => (i : Int) + 1 | none => 0
def fndE (o : Option Nat) : Int := match o with | some _ => 0 | none => 3

def addL (L : List (List UInt8)) (x : List UInt8) : List (List UInt8) := if (fnd L x).isSome then L else L ++ [x]
def digN (L : List (List UInt8)) (x : List UInt8) : Int := match fnd L x with | some i => (i : Int) + 1 | none => (L.length : Int) + 1
def numF (L : List (List UInt8)) (s : ByteArray) : Option Value := (fnd L s.data.toList).map fun i => .int .i64 ((i : Int) + 1)
theorem numF_snoc {L : List (List UInt8)} {x : List UInt8} (h : fnd L x = none) (s : ByteArray) : (if s = tx x then some (.int .i64 ((L.length : Int) + 1)) else numF L s) = numF (L ++ [x]) s := by
  have e : s = tx x ↔ s.data.toList = x := by
    constructor
    · rintro rfl; exact tx_data x
    · intro h; subst h; obtain ⟨⟨l⟩⟩ := s; rfl
  unfold numF
  rw [fnd_snoc h]
  by_cases hs : s = tx x
  · rw [if_pos hs, if_pos (e.1 hs)]; rfl
  · rw [if_neg hs, if_neg (fun h => hs (e.2 h))]
/-- Who signed what. -/
def sgF (sg : Int × Int → Bool) (p : Int × Int) : Option Value := if sg p then some (.bool true) else none
def sgAdd (sg : Int × Int → Bool) (p : Int × Int) : Int × Int → Bool := fun q => decide (q = p) || sg q
/-- Who signed what, behind an asking that answered r. -/
def sgUp (r : Int) (sg : Int × Int → Bool) (p : Int × Int) : Int × Int → Bool := if r = 0 then sgAdd sg p else sg
theorem sgUp_0 (sg : Int × Int → Bool) (p : Int × Int) : sgUp 0 sg p = sgAdd sg p := rfl
/-- What signing answers. -/
def sgR (n : Nat) (who d : Int) : Int := if 1 ≤ who ∧ who ≤ 16 then if 1 ≤ d ∧ d ≤ (n : Int) then 0 else 3 else 1
theorem sgF_add (sg : Int × Int → Bool) (p q : Int × Int) : (if q = p then some (.bool true) else sgF sg q) = sgF (sgAdd sg p) q := by
  unfold sgF sgAdd
  by_cases h : q = p <;> simp [h]

/-- A book's memory: blocks G in all; the things L, who signed what. -/
structure BkI (G : Nat → Prop) (w : World) (g : Nat) (L : List (List UInt8)) (sg : Int × Int → Bool) : Prop where
  mk ::
  lt : ∀ b, G b → b < w.heap.size
  in_ : G g
  sm : ∀ x ∈ L, x.length ≤ 1048576
  rest : ∃ (F E : Nat → Prop) (m1 m2 : Nat) (v : Value), (∀ b, F b → G b) ∧ (∀ b, E b → G b) ∧ (∀ b, F b → ¬ E b) ∧ F g ∧ F m1 ∧ F m2 ∧ m1 ≠ m2 ∧ Blk w g 68 #[.map (some m1), v, .map (some m2)] ∧
    Mp w m1 Value.string (numF L) ∧ Mp w m2 pairV (sgF sg) ∧ RwF F E w 60 v L
/-- A book behind a call: of what it may have changed. -/
def BkN (G : Nat → Prop) (g : Nat) (L : List (List UInt8)) (sg : Int × Int → Bool) (w w' : World) : Prop := ∃ G', BkI G' w' g L sg ∧ (∀ b, G' b → G b ∨ w.heap.size ≤ b) ∧ Chg G w w'
theorem BkN.chg {G : Nat → Prop} {g : Nat} {L : List (List UInt8)} {sg : Int × Int → Bool} {w w' : World} (h : BkN G g L sg w w') : Chg G w w' := by
  obtain ⟨_, _, _, h⟩ := h
  exact h
theorem BkI.keep {G H : Nat → Prop} {w w' : World} {g : Nat} {L : List (List UInt8)} {sg : Int × Int → Bool} (h : BkI G w g L sg) (hc : Chg H w w') (ha : ∀ b, G b → ¬ H b) : BkI G w' g L sg := by
  obtain ⟨hlt, hin, hsm, F, E, m1, m2, v, h1, h2, h3, h4, h5, h6, h7, h8, h9, h10, h11⟩ := h
  have hk : ∀ b, G b → w'.heap[b]? = w.heap[b]? := fun b hb => hc.at_ (hlt b hb) (ha b hb)
  exact ⟨fun b hb => Nat.lt_of_lt_of_le (hlt b hb) hc.size, hin, hsm, F, E, m1, m2, v, h1, h2, h3, h4, h5, h6, h7, h8.at_block (hk _ (h1 _ h4)), h9.at_ (hk _ (h1 _ h5)), h10.at_ (hk _ (h1 _ h6)),
    h11.keep hc.size (fun b _ hb => hk b (h1 b (h11.inF hb))) (fun b _ hb => hk b (h2 b hb)) (fun _ => id) (fun _ => id)⟩
theorem BkI.below {G : Nat → Prop} {w w' : World} {g : Nat} {L : List (List UInt8)} {sg : Int × Int → Bool} (h : BkI G w g L sg) (hb : Below w.heap.size w w') : BkI G w' g L sg := h.keep (Chg.of_below (F := fun _ => False) hb) (fun _ _ => id)
theorem BkI.drewN {G : Nat → Prop} {w : World} {g : Nat} {L : List (List UInt8)} {sg : Int × Int → Bool} (h : BkI G w g L sg) (n : Nat) : BkI G (w.drewN n) g L sg := h.keep ((Chg.refl (fun _ => False) w).drewN n) (fun _ _ => id)
end Go.Proofs.Ytebaojcfmkobjaa
