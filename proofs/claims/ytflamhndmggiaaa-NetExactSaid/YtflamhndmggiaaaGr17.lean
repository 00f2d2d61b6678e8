/-
  Texts joined: words and contracts that later texts use; lemmas alone, no conditions of a statement.
-/
import Derived.Test.YtflamhndmggiaaaGr07
import Derived.Test.YtflamhndmggiaaaSeg
import Derived.Test.YtflamhndmggiaaaGr16
set_option linter.unusedVariables false
set_option linter.unusedSimpArgs false
/-
  The reference net's memory: a row of records (two numbers, a row of rows of bytes); what a step does to it. Lemmas alone, no conditions of a statement.
-/
namespace Go.Proofs.Ytflamhndmggiaaa
open Go.RowKit

structure RW where
  a : Int
  b : Int
  V : Value
  es : List (Value × List UInt8)
def rwC (x : RW) : List Value := [.int .i64 x.a, .int .i64 x.b, x.V]
def rwA (x : RW) : Array Value := #[.int .i64 x.a, .int .i64 x.b, x.V]
def rwsC (l : List RW) : List Value := l.flatMap rwC
theorem rwsC_len (l : List RW) : (rwsC l).length = l.length * 3 := by
  induction l with
  | nil => rfl
  | cons x l ih =>
    rw [rwsC, List.flatMap_cons, List.length_append, List.length_cons]
    rw [rwsC] at ih
    rw [ih]; simp [rwC]; omega
theorem rwsC_append (a b : List RW) : rwsC (a ++ b) = rwsC a ++ rwsC b := by simp [rwsC]
theorem rwsC_at : ∀ (l : List RW) (k : Nat) (t : RW), l[k]? = some t → ∀ j v, j < 3 → (rwC t)[j]? = some v → (rwsC l)[k * 3 + j]? = some v
  | [], k, t, h, _, _, _, _ => by simp at h
  | a :: l, 0, t, h, j, v, hj, hv => by
    simp at h; subst h
    rw [rwsC, List.flatMap_cons, Nat.zero_mul, Nat.zero_add, List.getElem?_append_left (by simpa [rwC] using hj)]
    exact hv
  | a :: l, k + 1, t, h, j, v, hj, hv => by
    have := rwsC_at l k t (by simpa using h) j v hj hv
    rw [rwsC, List.flatMap_cons, List.getElem?_append_right (by simp [rwC]; omega)]
    rw [show (k + 1) * 3 + j - (rwC a).length = k * 3 + j by simp [rwC]; omega]
    exact this
theorem rwsC_set : ∀ (l : List RW) (k : Nat) (t : RW) (V : Value) (es : List (Value × List UInt8)), l[k]? = some t → (rwsC l).set (k * 3 + 2) V = rwsC (l.set k ⟨t.a, t.b, V, es⟩)
  | [], k, t, _, _, h => by simp at h
  | x :: l, 0, t, V, es, h => by
    simp at h; subst h
    simp [rwsC, rwC]
  | x :: l, k + 1, t, V, es, h => by
    have := rwsC_set l k t V es (by simpa using h)
    rw [List.set_cons_succ]
    have e : ∀ l : List RW, rwsC (x :: l) = rwC x ++ rwsC l := fun l => by rw [rwsC, List.flatMap_cons]; rfl
    rw [e, e, List.set_append_right _ _ (by simp [rwC]; omega), show (k + 1) * 3 + 2 - (rwC x).length = k * 3 + 2 by simp [rwC]; omega, this]
theorem own_open_n {w : World} {B n size : Nat} {e : TypeId} {v : Value} {xs : List Value} (h : w.ownsRow B e size v n xs) (h0 : 0 < n * size) : ∃ g c cur, v = .slice (some ⟨g, 0, none⟩) n c ∧ B ≤ g ∧ Blk w g e cur ∧ n * size ≤ cur.size ∧ n ≤ c ∧ c ≤ 9223372036854775807 ∧ (∀ (j : Nat) (u : Value), xs[j]? = some u → cur[j]? = some u) ∧
    ∀ (w' : World) (k : Nat) (u : Value), k < n * size → Blk w' g e (cur.setIfInBounds k u) → w'.ownsRow B e size (.slice (some ⟨g, 0, none⟩) n c) n (xs.set k u) := by
  have hlen := h.1
  rcases h.2 with ⟨rfl, rfl⟩ | ⟨g, cap, cur, rfl, hb, hh, h1, h2, h3, h4⟩
  · omega
  · have h2' := h2
    unfold maxLen at h2'
    have hle : n * size ≤ cur.size := by rw [h3]; exact Nat.mul_le_mul_right _ h1
    refine ⟨g, cap, cur, rfl, hb, hh, hle, h1, by omega, fun j u hu => ?_, fun w' k u hk hB => ⟨by rw [List.length_set]; exact hlen, .inr ⟨g, cap, cur.setIfInBounds k u, rfl, hb, hB, h1, h2, by simpa using h3, ?_⟩⟩⟩
    · rw [← h4, List.getElem?_take] at hu
      split at hu
      · simpa using hu
      · cases hu
    · rw [← h4, Array.toList_setIfInBounds, List.take_set]
/-- The reference net's memory: its block r, a row of records Vl, a row a record, the messages. All its blocks are in F; no two rows share a block. -/
structure RfJ (F : Nat → Prop) (w : World) (r : Nat) (Vl : Value) (ws : List RW) : Prop where
  k : Blk w r 78 #[Vl]
  own : w.ownsRow 0 120 3 Vl ws.length (rwsC ws)
  row : ∀ x, x ∈ ws → w.ownsRow 0 28 1 x.V x.es.length (x.es.map (·.1))
  el : ∀ x, x ∈ ws → ∀ p, p ∈ x.es → w.ownsRow 0 5 1 p.1 p.2.length (bytes8 p.2)
  drow : ∀ (i i' : Nat) (x x' : RW) (b : Nat), ws[i]? = some x → ws[i']? = some x' → x.V.ownBlock = some b → x'.V.ownBlock = some b → i = i'
  fr : F r
  fl : ∀ b, Vl.ownBlock = some b → F b
  frow : ∀ x b, x ∈ ws → x.V.ownBlock = some b → F b
  fel : ∀ x p b, x ∈ ws → p ∈ x.es → p.1.ownBlock = some b → F b
  lt : ∀ b, F b → b < w.heap.size
  cnt : ∀ x, x ∈ ws → x.es.length ≤ 1024
  sm : ∀ x p, x ∈ ws → p ∈ x.es → p.2.length ≤ 1048576
section
variable {F H : Nat → Prop} {w w' w1 w3 w4 : World} {r : Nat} {Vl : Value} {ws : List RW}
theorem RfJ.keep (h : RfJ F w r Vl ws) (hc : Chg H w w') (ha : ∀ b, F b → ¬ H b) : RfJ F w' r Vl ws := by
  have hk : ∀ b, F b → w'.heap[b]? = w.heap[b]? := fun b hb => hc.at_ (h.lt b hb) (ha b hb)
  exact ⟨h.k.at_block (hk r h.fr), own_at h.own (fun b hb => hk b (h.fl b hb)), fun x hx => own_at (h.row x hx) (fun b hb => hk b (h.frow x b hx hb)), fun x hx p hp => own_at (h.el x hx p hp) (fun b hb => hk b (h.fel x p b hx hp hb)), h.drow, h.fr, h.fl, h.frow, h.fel,
    fun b hb => Nat.lt_of_lt_of_le (h.lt b hb) hc.size, h.cnt, h.sm⟩
theorem RfJ.below (h : RfJ F w r Vl ws) (hb : Below w.heap.size w w') : RfJ F w' r Vl ws := h.keep (Chg.of_below (F := fun _ => False) hb) (fun _ _ => id)
theorem RfJ.wide (h : RfJ F w r Vl ws) (hF : ∀ b, F b → H b) (hH : ∀ b, H b → b < w.heap.size) : RfJ H w r Vl ws :=
  ⟨h.k, h.own, h.row, h.el, h.drow, hF _ h.fr, fun b hb => hF _ (h.fl b hb), fun x b hx hb => hF _ (h.frow x b hx hb), fun x p b hx hp hb => hF _ (h.fel x p b hx hp hb), hH, h.cnt, h.sm⟩
/-- One record. -/
theorem RfJ.at_ (h : RfJ F w r Vl ws) {i : Nat} {x : RW} (hi : ws[i]? = some x) : ∃ g c cur, Vl = .slice (some ⟨g, 0, none⟩) ws.length c ∧ ws.length ≤ c ∧ Rng w g (i * 3) (rwA x) ∧ F g ∧ Blk w g 120 cur ∧ i * 3 + 2 < cur.size ∧
    ∀ (w' : World) (V : Value) (es : List (Value × List UInt8)), Blk w' g 120 (cur.setIfInBounds (i * 3 + 2) V) → w'.ownsRow 0 120 3 Vl ws.length (rwsC (ws.set i ⟨x.a, x.b, V, es⟩)) := by
  have hlt : i < ws.length := (List.getElem?_eq_some_iff.1 hi).1
  obtain ⟨g, c, cur, rfl, _, hk, hs, hc, _, hat, hset⟩ := own_open_n h.own (by omega)
  refine ⟨g, c, cur, rfl, hc, ⟨hk.lt, fun j u hu => ?_⟩, h.fl g rfl, hk, by omega, fun w' V es hB => ?_⟩
  · have hj : j < 3 := (Array.getElem?_eq_some_iff.1 hu).1
    exact hk.at_ (hat _ _ (rwsC_at ws i x hi j u hj (by simpa [rwC, rwA] using hu)))
  · rw [← rwsC_set ws i x V es hi]
    exact hset w' _ _ (by omega) hB
/-- A record's row is another one: what has changed are its old row's block and the records'. -/
theorem RfJ.put (h : RfJ F w r Vl ws) {i g : Nat} {x : RW} {c : Nat} (hi : ws[i]? = some x) (hg : Vl = .slice (some ⟨g, 0, none⟩) ws.length c) {V : Value} {es : List (Value × List UInt8)}
    (hc : Chg (fun b => x.V.ownBlock = some b) w w3) (o3 : w3.ownsRow 0 28 1 V es.length (es.map (·.1))) (e3 : ∀ p, p ∈ es → w3.ownsRow 0 5 1 p.1 p.2.length (bytes8 p.2))
    (hV : ∀ b, V.ownBlock = some b → x.V.ownBlock = some b ∨ w.heap.size ≤ b) (he : ∀ p, p ∈ es → ∀ b, p.1.ownBlock = some b → F b ∨ w.heap.size ≤ b) (hn : es.length ≤ 1024) (hs : ∀ p, p ∈ es → p.2.length ≤ 1048576)
    (hg4 : w3.grownBy w4 (some g)) (o4 : w4.ownsRow 0 120 3 Vl ws.length (rwsC (ws.set i ⟨x.a, x.b, V, es⟩))) :
    RfJ (fun b => F b ∨ (w.heap.size ≤ b ∧ b < w4.heap.size)) w4 r Vl (ws.set i ⟨x.a, x.b, V, es⟩) ∧ Chg F w w4 := by
  have hxm := mem_of_at hi
  have hFg : F g := h.fl g (by rw [hg]; rfl)
  have hgl := h.lt g hFg
  have hVg : x.V.ownBlock ≠ some g := own_two_ne h.own (h.row x hxm) (by decide) (by rw [hg]; rfl)
  have hc4 : Chg (fun b => x.V.ownBlock = some b ∨ b = g) w w4 := (hc.mono (fun b hb => .inl (.inl hb))).then_grown hg4 (fun b e => by injection e with e; exact .inl (.inr e.symm))
  have hmem : ∀ y, y ∈ ws.set i ⟨x.a, x.b, V, es⟩ → (∃ j, j ≠ i ∧ ws[j]? = some y) ∨ y = ⟨x.a, x.b, V, es⟩ := fun y hy => by
    obtain ⟨j, hj, e⟩ := List.getElem_of_mem hy
    by_cases hji : i = j
    · subst hji
      right; rw [← e]; simp
    · left
      refine ⟨j, Ne.symm hji, ?_⟩
      rw [← e, List.getElem_set_ne hji]
      exact List.getElem?_eq_getElem (by simpa using hj)
  have hother : ∀ j y, j ≠ i → ws[j]? = some y → ∀ b, y.V.ownBlock = some b → ¬ (x.V.ownBlock = some b ∨ b = g) := fun j y hj hy b hb e => by
    rcases e with e | e
    · exact hj (h.drow j i y x b hy hi hb e)
    · subst e; exact own_two_ne h.own (h.row y (mem_of_at hy)) (by decide) (by rw [hg]; rfl) hb
  have hV3 : ∀ b, V.ownBlock = some b → b ≠ g := fun b hb e => by
    subst e
    rcases hV b hb with e | e
    · exact hVg e
    · omega
  have hel3 : ∀ p, p ∈ es → ∀ b, p.1.ownBlock = some b → b ≠ g := fun p hp b hb e => by
    subst e
    have o := h.own
    have o3' : w3.ownsRow 0 120 3 Vl ws.length (rwsC ws) := own_at h.own (fun b hb => hc.at_ (own_in h.own hb) (fun e => by rw [hg] at hb; injection hb with hb; subst hb; exact hVg e))
    exact own_two_ne (e3 p hp) o3' (by decide) hb (by rw [hg]; rfl)
  refine ⟨⟨h.k.at_block (hc4.at_ h.k.lt (fun e => ?_)), by rw [List.length_set]; exact o4, fun y hy => ?_, fun y hy p hp => ?_, fun j j' y y' b hj hj' hb hb' => ?_, .inl h.fr, fun b hb => .inl (h.fl b hb), fun y b hy hb => ?_, fun y p b hy hp hb => ?_, fun b hb => ?_, fun y hy => ?_, fun y p hy hp => ?_⟩, hc4.mono (fun b hb => ?_)⟩
  · rcases e with e | e
    · exact own_blk_ne (h.row x hxm) h.k (by decide) e
    · exact own_blk_ne h.own h.k (by decide) (by rw [hg, ← e]; rfl)
  · rcases hmem y hy with ⟨j, hj, hyj⟩ | rfl
    · exact own_at (h.row y (mem_of_at hyj)) (fun b hb => hc4.at_ (own_in (h.row y (mem_of_at hyj)) hb) (hother j y hj hyj b hb))
    · exact own_at o3 (fun b hb => hg4.block b (own_in o3 hb) (fun e => hV3 b hb (by injection e)))
  · rcases hmem y hy with ⟨j, hj, hyj⟩ | rfl
    · have o := h.el y (mem_of_at hyj) p hp
      exact own_at o (fun b hb => hc4.at_ (own_in o hb) (fun e => by
        rcases e with e | e
        · exact own_two_ne o (h.row x hxm) (by decide) hb e
        · subst e; exact own_two_ne o h.own (by decide) hb (by rw [hg]; rfl)))
    · exact own_at (e3 p hp) (fun b hb => hg4.block b (own_in (e3 p hp) hb) (fun e => hel3 p hp b hb (by injection e)))
  · by_cases h1 : i = j <;> by_cases h2 : i = j'
    · omega
    · subst h1
      rw [List.getElem?_set_self (List.getElem?_eq_some_iff.1 hi).1] at hj
      obtain rfl := Option.some.inj hj
      rw [List.getElem?_set_ne h2] at hj'
      rcases hV b hb with e | e
      · exact h.drow i j' x y' b hi hj' e hb'
      · have := h.lt b (h.frow y' b (mem_of_at hj') hb'); omega
    · subst h2
      rw [List.getElem?_set_self (List.getElem?_eq_some_iff.1 hi).1] at hj'
      obtain rfl := Option.some.inj hj'
      rw [List.getElem?_set_ne h1] at hj
      rcases hV b hb' with e | e
      · exact h.drow j i y x b hj hi hb e
      · have := h.lt b (h.frow y b (mem_of_at hj) hb); omega
    · rw [List.getElem?_set_ne h1] at hj
      rw [List.getElem?_set_ne h2] at hj'
      exact h.drow j j' y y' b hj hj' hb hb'
  · rcases hmem y hy with ⟨j, hj, hyj⟩ | rfl
    · exact .inl (h.frow y b (mem_of_at hyj) hb)
    · rcases hV b hb with e | e
      · exact .inl (h.frow x b hxm e)
      · exact .inr ⟨e, Nat.lt_of_lt_of_le (own_in o3 hb) hg4.size⟩
  · rcases hmem y hy with ⟨j, hj, hyj⟩ | rfl
    · exact .inl (h.fel y p b (mem_of_at hyj) hp hb)
    · rcases he p hp b hb with e | e
      · exact .inl e
      · exact .inr ⟨e, Nat.lt_of_lt_of_le (own_in (e3 p hp) hb) hg4.size⟩
  · rcases hb with hb | hb
    · exact Nat.lt_of_lt_of_le (h.lt b hb) hc4.size
    · exact hb.2
  · rcases hmem y hy with ⟨j, hj, hyj⟩ | rfl
    · exact h.cnt y (mem_of_at hyj)
    · exact hn
  · rcases hmem y hy with ⟨j, hj, hyj⟩ | rfl
    · exact h.sm y p (mem_of_at hyj) hp
    · exact hs p hp
  · rcases hb with hb | hb
    · exact .inl (h.frow x b hxm hb)
    · subst hb; exact .inl hFg
/-- A record more, without messages. -/
theorem RfJ.push (h : RfJ F w r Vl ws) (a b : Int) {V : Value} (hb : Below w.heap.size w w1) (o3 : w3.ownsRow 0 120 3 V (ws.length + 1) (rwsC ws ++ rwC ⟨a, b, nilV, []⟩)) (hg : w1.grownBy w3 Vl.ownBlock) (hV : V.ownBlock = Vl.ownBlock ∨ V.ownBlock = some w1.heap.size)
    (k4 : Blk w4 r 78 #[V]) (hg4 : w3.grownBy w4 (some r)) : RfJ (fun b => F b ∨ (w.heap.size ≤ b ∧ b < w4.heap.size)) w4 r V (ws ++ [⟨a, b, nilV, []⟩]) ∧ Chg F w w4 ∧ Chg (fun b => Vl.ownBlock = some b ∨ b = r) w w4 := by
  have hc : Chg (fun b => Vl.ownBlock = some b ∨ b = r) w w4 := ((Chg.of_below hb).then_grown hg (fun b e => .inl (.inl e))).then_grown hg4 (fun b e => by injection e with e; exact .inl (.inr e.symm))
  have hmem : ∀ y, y ∈ ws ++ [⟨a, b, nilV, []⟩] → y ∈ ws ∨ y = ⟨a, b, nilV, []⟩ := fun y hy => by simpa using hy
  have hVF : ∀ q, V.ownBlock = some q → F q ∨ w.heap.size ≤ q := fun q hq => by
    rcases hV with e | e
    · exact .inl (h.fl q (by rw [← e]; exact hq))
    · rw [e] at hq; injection hq with hq; subst hq; exact .inr hb.size
  have k1 : Blk w1 r 78 #[Vl] := h.k.later hb
  have hVr : V.ownBlock ≠ some r := by
    rcases hV with e | e
    · rw [e]; exact own_blk_ne h.own h.k (by decide)
    · rw [e]; intro e; injection e with e; have := k1.lt; omega
  refine ⟨⟨k4, ?_, fun y hy => ?_, fun y hy p hp => ?_, fun j j' y y' q hj hj' hq hq' => ?_, .inl h.fr, fun q hq => ?_, fun y q hy hq => ?_, fun y p q hy hp hq => ?_, fun q hq => ?_, fun y hy => ?_, fun y p hy hp => ?_⟩, hc.mono (fun q hq => ?_), hc⟩
  · rw [List.length_append, rwsC_append]
    have e : rwsC [⟨a, b, nilV, []⟩] = rwC ⟨a, b, nilV, []⟩ := by simp [rwsC]
    rw [e]
    exact own_at o3 (fun q hq => hg4.block q (own_in o3 hq) (fun e => by injection e with e; subst e; exact hVr hq))
  · rcases hmem y hy with hy | rfl
    · exact own_at (h.row y hy) (fun q hq => hc.at_ (own_in (h.row y hy) hq) (fun e => by
        rcases e with e | e
        · exact own_two_ne h.own (h.row y hy) (by decide) e hq
        · subst e; exact own_blk_ne (h.row y hy) h.k (by decide) hq))
    · exact World.ownsRow_nil _ _ _ _
  · rcases hmem y hy with hy | rfl
    · have o := h.el y hy p hp
      exact own_at o (fun q hq => hc.at_ (own_in o hq) (fun e => by
        rcases e with e | e
        · exact own_two_ne h.own o (by decide) e hq
        · subst e; exact own_blk_ne o h.k (by decide) hq))
    · simp at hp
  · have hold : ∀ (j : Nat) (y : RW), (ws ++ [⟨a, b, nilV, []⟩])[j]? = some y → y.V.ownBlock = some q → ws[j]? = some y := fun j y hy hq => by
      rcases Nat.lt_or_ge j ws.length with hl | hl
      · rwa [List.getElem?_append_left hl] at hy
      · rw [List.getElem?_append_right hl] at hy
        rcases hmem y (List.mem_append_right _ (mem_of_at hy)) with h' | rfl
        · have : y = ⟨a, b, nilV, []⟩ := by simpa using mem_of_at hy
          subst this; cases hq
        · cases hq
    exact h.drow j j' y y' q (hold j y hj hq) (hold j' y' hj' hq') hq hq'
  · rcases hVF q hq with e | e
    · exact .inl e
    · exact .inr ⟨e, Nat.lt_of_lt_of_le (own_in o3 hq) hg4.size⟩
  · rcases hmem y hy with hy | rfl
    · exact .inl (h.frow y q hy hq)
    · cases hq
  · rcases hmem y hy with hy | rfl
    · exact .inl (h.fel y p q hy hp hq)
    · simp at hp
  · rcases hq with hq | hq
    · exact Nat.lt_of_lt_of_le (h.lt q hq) hc.size
    · exact hq.2
  · rcases hmem y hy with hy | rfl
    · exact h.cnt y hy
    · simp
  · rcases hmem y hy with hy | rfl
    · exact h.sm y p hy hp
    · simp at hp
  · rcases hq with hq | hq
    · exact .inl (h.fl q hq)
    · subst hq; exact .inl h.fr
end
/-- Which record a way has. -/
def NoneW (ws : List RW) (a b : Int) : Prop := ∀ (j : Nat) (y : RW), ws[j]? = some y → ¬ (y.a = a ∧ y.b = b)
structure FirstW (ws : List RW) (a b : Int) (i : Nat) (x : RW) : Prop where
  at_ : ws[i]? = some x
  ha : x.a = a
  hb : x.b = b
  first : ∀ (j : Nat) (y : RW), j < i → ws[j]? = some y → ¬ (y.a = a ∧ y.b = b)
theorem way_cases (ws : List RW) (a b : Int) : NoneW ws a b ∨ ∃ i x, FirstW ws a b i x := by
  by_cases h : ∃ (i : Nat) (x : RW), ws[i]? = some x ∧ x.a = a ∧ x.b = b
  · right
    obtain ⟨i, hi⟩ := h
    induction i using Nat.strongRecOn with
    | _ i ih =>
      by_cases hx : ∃ (j : Nat), j < i ∧ ∃ (x : RW), ws[j]? = some x ∧ x.a = a ∧ x.b = b
      · obtain ⟨j, hj, hx⟩ := hx
        exact ih j hj hx
      · obtain ⟨x, h1, h2, h3⟩ := hi
        exact ⟨i, x, h1, h2, h3, fun j y hj hy e => hx ⟨j, hj, y, hy, e⟩⟩
  · exact .inl fun j y hy e => h ⟨j, y, hy, e⟩
def IsWay (ws : List RW) (a b r : Int) : Prop := (r = -1 ∧ NoneW ws a b) ∨ ∃ i x, r = ((i : Nat) : Int) ∧ FirstW ws a b i x
def LookW (ws : List RW) (S : Int × Int → List (List UInt8)) : Prop := ∀ a b, (NoneW ws a b → S (a, b) = []) ∧ ∀ i x, FirstW ws a b i x → S (a, b) = x.es.map (·.2)
theorem FirstW.set_ {ws : List RW} {a b : Int} {i k : Nat} {x t y : RW} (hi : ws[k]? = some t) (ht : t.a = x.a ∧ t.b = x.b) (h : FirstW (ws.set k x) a b i y) : (i = k ∧ y = x ∧ FirstW ws a b k t) ∨ (i ≠ k ∧ FirstW ws a b i y) := by
  have hk := (List.getElem?_eq_some_iff.1 hi).1
  have hold : ∀ (j : Nat) (z : RW), j < i → ws[j]? = some z → ¬ (z.a = a ∧ z.b = b) := fun j z hj hz => by
    by_cases hjk : k = j
    · subst hjk
      rw [hi] at hz
      obtain rfl := Option.some.inj hz
      have := h.first k x hj (List.getElem?_set_self hk)
      rwa [ht.1, ht.2]
    · exact h.first j z hj (by rw [List.getElem?_set_ne hjk]; exact hz)
  by_cases hik : k = i
  · subst hik
    have hy := h.at_
    rw [List.getElem?_set_self hk] at hy
    obtain rfl := Option.some.inj hy
    exact .inl ⟨rfl, rfl, hi, ht.1.trans h.ha, ht.2.trans h.hb, hold⟩
  · have hy := h.at_
    rw [List.getElem?_set_ne hik] at hy
    exact .inr ⟨Ne.symm hik, hy, h.ha, h.hb, hold⟩
theorem NoneW.set_ {ws : List RW} {a b : Int} {k : Nat} {x t : RW} (hi : ws[k]? = some t) (ht : t.a = x.a ∧ t.b = x.b) (h : NoneW (ws.set k x) a b) : NoneW ws a b := fun j z hz => by
  by_cases hjk : k = j
  · subst hjk
    rw [hi] at hz
    obtain rfl := Option.some.inj hz
    have := h k x (List.getElem?_set_self (List.getElem?_eq_some_iff.1 hi).1)
    rwa [ht.1, ht.2]
  · exact h j z (by rw [List.getElem?_set_ne hjk]; exact hz)
theorem FirstW.uniq {ws : List RW} {a b : Int} {i k : Nat} {x y : RW} (h : FirstW ws a b i x) (h' : FirstW ws a b k y) : i = k ∧ x = y := by
  have e : i = k := by
    rcases Nat.lt_trichotomy i k with e | e | e
    · exact absurd ⟨h.ha, h.hb⟩ (h'.first i x e h.at_)
    · exact e
    · exact absurd ⟨h'.ha, h'.hb⟩ (h.first k y e h'.at_)
  subst e
  exact ⟨rfl, Option.some.inj (h.at_.symm.trans h'.at_)⟩
theorem LookW.set_ {ws : List RW} {S : Int × Int → List (List UInt8)} {a b : Int} {k : Nat} {t : RW} (h : LookW ws S) (hf : FirstW ws a b k t) (V : Value) (es : List (Value × List UInt8)) : LookW (ws.set k ⟨t.a, t.b, V, es⟩) (updF S (a, b) (es.map (·.2))) := by
  intro a' b'
  refine ⟨fun hn => ?_, fun i y hy => ?_⟩
  · have hn' := NoneW.set_ (x := ⟨t.a, t.b, V, es⟩) hf.at_ ⟨rfl, rfl⟩ hn
    rw [updF_ne (fun e => by injection e with e1 e2; subst e1; subst e2; exact hn' k t hf.at_ ⟨hf.ha, hf.hb⟩)]
    exact (h a' b').1 hn'
  · rcases FirstW.set_ (x := ⟨t.a, t.b, V, es⟩) hf.at_ ⟨rfl, rfl⟩ hy with ⟨rfl, rfl, h1⟩ | ⟨hik, h1⟩
    · have e1 : a' = a := h1.ha.symm.trans hf.ha
      have e2 : b' = b := h1.hb.symm.trans hf.hb
      subst e1; subst e2
      rw [updF_self]
    · rw [updF_ne (fun e => by injection e with e1 e2; subst e1; subst e2; exact hik (h1.uniq hf).1)]
      exact (h a' b').2 i y h1
theorem LookW.push {ws : List RW} {S : Int × Int → List (List UInt8)} {a b : Int} (h : LookW ws S) (hf : NoneW ws a b) : LookW (ws ++ [⟨a, b, nilV, []⟩]) S ∧ FirstW (ws ++ [⟨a, b, nilV, []⟩]) a b ws.length ⟨a, b, nilV, []⟩ := by
  have hl : (ws ++ [⟨a, b, nilV, []⟩])[ws.length]? = some (⟨a, b, nilV, []⟩ : RW) := by simp
  refine ⟨fun a' b' => ⟨fun hn => (h a' b').1 fun j y hy => hn j y (by rw [List.getElem?_append_left (List.getElem?_eq_some_iff.1 hy).1]; exact hy), fun i y hy => ?_⟩, hl, rfl, rfl, fun j y hj hy => hf j y (by rwa [List.getElem?_append_left hj] at hy)⟩
  rcases Nat.lt_or_ge i ws.length with hi | hi
  · refine (h a' b').2 i y ⟨?_, hy.ha, hy.hb, fun j z hj hz => hy.first j z hj ?_⟩
    · have := hy.at_
      rwa [List.getElem?_append_left hi] at this
    · rw [List.getElem?_append_left (by omega)]; exact hz
  · have h1 := hy.at_
    rw [List.getElem?_append_right hi] at h1
    have : y = ⟨a, b, nilV, []⟩ := by simpa using mem_of_at h1
    subst this
    have e1 : a = a' := hy.ha
    have e2 : b = b' := hy.hb
    subst e1; subst e2
    exact (h a b).1 hf
end Go.Proofs.Ytflamhndmggiaaa
/-
  The reference net's functions: node, way, Count.
-/
namespace Go.Proofs.Ytflamhndmggiaaa
open Go.RowKit

theorem rf_node (n : Int) (w : World) : Calls Try.prog 78 #[.int .i64 n] w fun e w' => e = .returned (.bool (nodeB n)) ∧ w = w' := by
  by_cases h1 : 1 ≤ n <;> by_cases h2 : n ≤ 16
  all_goals
    go_enter Try.func78, Try.ntmps78
    go_wp2_with fail
    go_ret
    refine ⟨?_, rfl⟩
    simp [nodeB, h1, h2]
theorem IsWay.first {ws : List RW} {a b r : Int} {i : Nat} {x : RW} (h : IsWay ws a b r) (hf : FirstW ws a b i x) : r = (i : Int) := by
  rcases h with ⟨_, hn⟩ | ⟨j, y, e, hy⟩
  · exact absurd ⟨hf.ha, hf.hb⟩ (hn i x hf.at_)
  · rw [e, (hy.uniq hf).1]
theorem IsWay.none {ws : List RW} {a b r : Int} (h : IsWay ws a b r) (hn : NoneW ws a b) : r = -1 := by
  rcases h with ⟨e, _⟩ | ⟨j, y, e, hy⟩
  · exact e
  · exact absurd ⟨hy.ha, hy.hb⟩ (hn j y hy.at_)
theorem ev_bcell {P : Program} {M : List (Nat × Value)} {o : Oper} {w : World} {v : Value} (h : Ev P M o w v) : Ev P M o w v := h
theorem RfJ.vrow {F : Nat → Prop} {w : World} {r : Nat} {Vl : Value} {ws : List RW} (h : RfJ F w r Vl ws) {x : RW} (hx : x ∈ ws) : ∃ A c, x.V = .slice A x.es.length c ∧ x.es.length ≤ c ∧ c ≤ 9223372036854775807 ∧ Sl w 1 A x.es.length (x.es.map (·.1)) := by
  have ho := h.row x hx
  obtain ⟨A, c, e, h1, h2⟩ := own_slice_cap ho
  rw [e] at ho
  exact ⟨A, c, e, h1, by unfold maxLen at h2; exact h2, Sl.of_own ho⟩

set_option maxRecDepth 100000 in
set_option maxHeartbeats 4000000 in
theorem rf_way {F : Nat → Prop} {w : World} {r : Nat} {Vl : Value} {ws : List RW} (fa fb : Int) (h : RfJ F w r Vl ws) {rr : Int} (hw : IsWay ws fa fb rr) :
    Calls Try.prog 76 #[.pointer (some ⟨r, 0, none⟩), .int .i64 fa, .int .i64 fb] w fun e w' => e = .returned (.int .i64 rr) ∧ w = w' := by
  have ho := h.own
  obtain ⟨A, c, rfl, hcap, hmax⟩ := own_slice_cap ho
  unfold maxLen at hmax
  clear ho
  have HJ := hide h
  have HK := hide h.k.rng
  have HW := hide hw
  have HX0 : Hid (∀ (i : Nat) (y : RW), i < 0 → ws[i]? = some y → ¬ (y.a = fa ∧ y.b = fb)) := fun i _ hi => absurd hi (Nat.not_lt_zero i)
  clear h hw
  go_enter Try.func76, Try.ntmps76
  refine act_off 40 [(0, .pointer (some ⟨r, 0, none⟩)), (1, .int .i64 fa), (2, .int .i64 fb)] (Frm.start rfl (by intro p hp; simp only [List.mem_cons, List.not_mem_nil, or_false] at hp; rcases hp with rfl | rfl | rfl <;> rfl)) (fun a0 hM => ?_)
  have HB2 : Hid (Below w.heap.size w w) := Below.refl _ _
  refine region_then fun K3 QK3 hK3 => ?_
  refine s_val hM (.inl rfl) rfl rfl (ev_move (.inr rfl) rfl) (fun a5 hM4 => ?_)
  clear hM
  refine seg_nil (hK3 _ _ ?_)
  clear hK3 K3 QK3
  have hM6 := hM4.cut3 (t1 := 0) (t2 := 1) (t3 := 2) rfl rfl rfl
  clear hM4
  refine wp_seq_k fun K7 hK7 => ?_
  refine region_then fun K8 QK8 hK8 => ?_
  refine s_val hM6 (.inl rfl) rfl rfl (ev_move (.inr rfl) rfl) (fun a10 hM9 => ?_)
  clear hM6
  refine seg_nil (hK8 _ _ ?_)
  clear hK8 K8 QK8
  have hM11 := hM9.cut4 (t1 := 0) (t2 := 1) (t3 := 2) (t4 := 7) rfl rfl rfl rfl
  clear hM9
  have hM12 := hM11.cut4 (t1 := 7) (t2 := 0) (t3 := 1) (t4 := 2) rfl rfl rfl rfl
  clear hM11
  refine wp_block ?_
  refine wp_loop_ghost (fun m a w' => ∃ (j : Nat), m = ws.length - j ∧ Frm a 40 [(7, .int .i64 (j : Int)), (0, .pointer (some ⟨r, 0, none⟩)), (1, .int .i64 fa), (2, .int .i64 fb)] ∧ Hid (Below w.heap.size w w') ∧ w = w' ∧ Hid (∀ (i : Nat) (y : RW), i < j → ws[i]? = some y → ¬ (y.a = fa ∧ y.b = fb))) ws.length ⟨0,  by omega, hM12, HB2, rfl, HX0⟩ ?_
  clear HB2 hM12 HX0
  rintro m17 a14 w13 ⟨j, rfl, hM15, HB16, rfl, HX⟩
  refine wp_seq_k fun K18 hK18 => ?_
  by_cases hlt : j < ws.length
  case pos =>
    obtain ⟨x, hx⟩ : ∃ x, ws[j]? = some x := ⟨_, List.getElem?_eq_getElem hlt⟩
    obtain ⟨gx, cx_, curx, ex, _, hrx, hFx, _⟩ := ((HJ.out.below HB16.out)).at_ hx
    have hAx : A = some ⟨gx, 0, none⟩ := by injection ex
    have HRx := hide hrx
    clear ex hrx
    have HB20 : Hid (Below w.heap.size w w) := Below.refl _ _
    refine region_then fun K21 QK21 hK21 => ?_
    refine s_val hM15 (.inl rfl) rfl rfl (ev_move (.inl rfl) rfl) (fun a23 hM22 => ?_)
    clear hM15
    refine s_val hM22 (.inl rfl) rfl rfl (ev_move (.inl rfl) rfl) (fun a25 hM24 => ?_)
    clear hM22
    refine s_val hM24 (.inl rfl) rfl rfl (ev_nilc rfl rfl) (fun a27 hM26 => ?_)
    clear hM24
    refine s_val hM26 (.inl rfl) rfl rfl (ev_fldw (m := 0) rfl rfl (fun w => by simp [go_sem])) (fun a29 hM28 => ?_)
    clear hM26
    refine s_val hM28 (.inl rfl) rfl rfl (ev_load1 (v := .slice A (ws.length) c) rfl rfl ((HK.out.below HB16.out).at_ (m := 0) rfl) (isAgg_no Try.underlying76 rfl)) (fun a31 hM30 => ?_)
    clear hM28
    refine s_val hM30 (.inl rfl) rfl rfl (ev_len rfl rfl Try.underlying76) (fun a33 hM32 => ?_)
    clear hM30
    refine s_val hM32 (.inl rfl) rfl rfl (ev_bin rfl rfl rfl g_int (b_lss (b := true) (by rw [decide_eq_true_eq]; omega))) (fun a35 hM34 => ?_)
    clear hM32
    refine seg_nil (hK21 _ _ ?_)
    clear hK21 K21 QK21
    have hM36 := hM34.cut5 (t1 := 0) (t2 := 1) (t3 := 2) (t4 := 7) (t5 := 14) rfl rfl rfl rfl rfl
    clear hM34
    refine wp_cond_true (hM36.ev (t := 14) rfl) ?_
    refine wp_skip ?_
    refine hK18 _ _ ?_
    refine wp_seq_k fun K37 hK37 => ?_
    refine wp_block ?_
    by_cases hxa : x.a = fa
    case pos =>
      by_cases hxb : x.b = fb
      case pos =>
        refine region_then fun K38 QK38 hK38 => ?_
        refine s_val hM36 (.inl rfl) rfl rfl (ev_move (.inl rfl) rfl) (fun a40 hM39 => ?_)
        clear hM36
        refine s_val hM39 (.inl rfl) rfl rfl (ev_nilc rfl rfl) (fun a42 hM41 => ?_)
        clear hM39
        refine s_val hM41 (.inl rfl) rfl rfl (ev_fldw (m := 0) rfl rfl (fun w => by simp [go_sem])) (fun a44 hM43 => ?_)
        clear hM41
        refine s_val hM43 (.inl rfl) rfl rfl (ev_load1 (v := .slice A (ws.length) c) rfl rfl ((HK.out.below HB16.out).at_ (m := 0) rfl) (isAgg_no Try.underlying76 rfl)) (fun a46 hM45 => ?_)
        clear hM43
        refine s_val hM45 (.inl rfl) rfl rfl (ev_move (.inl rfl) rfl) (fun a48 hM47 => ?_)
        clear hM45
        refine s_val hM47 (.inl rfl) rfl rfl (ev_idx (b := gx) (off := 0) (k := j) (sz := 3) (p := j * 3) rfl (by rw [← hAx]; rfl) rfl Try.underlying76 (by kernel_rfl) (by omega) (by omega)) (fun a50 hM49 => ?_)
        clear hM47
        refine s_val hM49 (.inl rfl) rfl rfl (ev_fldw (m := j * 3) rfl rfl (fun w => by simp [go_sem])) (fun a52 hM51 => ?_)
        clear hM49
        refine s_val hM51 (.inl rfl) rfl rfl (ev_load1 (v := .int .i64 (x.a)) rfl rfl ((HRx.out.below HB20.out).at_ (m := 0) rfl) (isAgg_no Try.underlying3 rfl)) (fun a54 hM53 => ?_)
        clear hM51
        refine s_val hM53 (.inl rfl) rfl rfl (ev_move (.inl rfl) rfl) (fun a56 hM55 => ?_)
        clear hM53
        refine s_val hM55 (.inl rfl) rfl rfl (ev_bin rfl rfl rfl g_int (b_eql (b := true) (decide_eq_true hxa))) (fun a58 hM57 => ?_)
        clear hM55
        refine s_val hM57 (.inl rfl) rfl rfl (ev_move (.inl rfl) rfl) (fun a60 hM59 => ?_)
        clear hM57
        refine s_val hM59 (.inr ⟨_, _, _, rfl, rfl, rfl⟩) rfl rfl (ev_move (.inl rfl) rfl) (fun a62 hM61 => ?_)
        clear hM59
        refine s_val hM61 (.inr ⟨_, _, _, rfl, rfl, rfl⟩) rfl rfl (ev_nilc rfl rfl) (fun a64 hM63 => ?_)
        clear hM61
        refine s_val hM63 (.inr ⟨_, _, _, rfl, rfl, rfl⟩) rfl rfl (ev_fldw (m := 0) rfl rfl (fun w => by simp [go_sem])) (fun a66 hM65 => ?_)
        clear hM63
        refine s_val hM65 (.inr ⟨_, _, _, rfl, rfl, rfl⟩) rfl rfl (ev_load1 (v := .slice A (ws.length) c) rfl rfl ((HK.out.below HB16.out).at_ (m := 0) rfl) (isAgg_no Try.underlying76 rfl)) (fun a68 hM67 => ?_)
        clear hM65
        refine s_val hM67 (.inr ⟨_, _, _, rfl, rfl, rfl⟩) rfl rfl (ev_move (.inl rfl) rfl) (fun a70 hM69 => ?_)
        clear hM67
        refine s_val hM69 (.inr ⟨_, _, _, rfl, rfl, rfl⟩) rfl rfl (ev_idx (b := gx) (off := 0) (k := j) (sz := 3) (p := j * 3) rfl (by rw [← hAx]; rfl) rfl Try.underlying76 (by kernel_rfl) (by omega) (by omega)) (fun a72 hM71 => ?_)
        clear hM69
        refine s_val hM71 (.inr ⟨_, _, _, rfl, rfl, rfl⟩) rfl rfl (ev_fldw (m := j * 3 + 1) rfl rfl (fun w => by simp [go_sem])) (fun a74 hM73 => ?_)
        clear hM71
        refine s_val hM73 (.inr ⟨_, _, _, rfl, rfl, rfl⟩) rfl rfl (ev_load1 (v := .int .i64 (x.b)) rfl rfl ((HRx.out.below HB20.out).at_ (m := 1) rfl) (isAgg_no Try.underlying3 rfl)) (fun a76 hM75 => ?_)
        clear hM73
        refine s_val hM75 (.inr ⟨_, _, _, rfl, rfl, rfl⟩) rfl rfl (ev_move (.inl rfl) rfl) (fun a78 hM77 => ?_)
        clear hM75
        refine s_val hM77 (.inr ⟨_, _, _, rfl, rfl, rfl⟩) rfl rfl (ev_bin rfl rfl rfl g_int (b_eql (b := true) (decide_eq_true hxb))) (fun a80 hM79 => ?_)
        clear hM77
        refine s_val hM79 (.inl rfl) rfl rfl (ev_pick rfl rfl rfl) (fun a82 hM81 => ?_)
        clear hM79
        refine seg_nil (hK38 _ _ ?_)
        clear hK38 K38 QK38
        have hM83 := hM81.cut5 (t1 := 0) (t2 := 1) (t3 := 2) (t4 := 7) (t5 := 38) rfl rfl rfl rfl rfl
        clear hM81
        refine wp_cond_true (hM83.ev (t := 38) rfl) ?_
        refine region_then fun K84 QK84 hK84 => ?_
        refine s_val hM83 (.inl rfl) rfl rfl (ev_move (.inl rfl) rfl) (fun a86 hM85 => ?_)
        clear hM83
        refine s_val hM85 (.inl rfl) rfl rfl (ev_move (.inr rfl) rfl) (fun a88 hM87 => ?_)
        clear hM85
        refine seg_nil (hK84 _ _ ?_)
        clear hK84 K84 QK84
        have hM89 := hM87.cut1 (t1 := 6) rfl
        clear hM87
        refine wp_ret ?_
        repeat (with_reducible first | refine th_r ?_ | refine inb_r ?_ | refine js_r ?_)
        obtain rfl := HW.out.first ⟨hx, hxa, hxb, HX.out⟩
        refine ret_of (t := 6) rfl hM89 rfl ?_
        exact ⟨rfl, rfl⟩
      case neg =>
        have HX2 : Hid (∀ (i : Nat) (y : RW), i < j + 1 → ws[i]? = some y → ¬ (y.a = fa ∧ y.b = fb)) := fun i y hi hy => by
          rcases Nat.lt_or_ge i j with h1 | h1
          · exact HX.out i y h1 hy
          · obtain rfl : i = j := by omega
            rw [hx] at hy
            obtain rfl := Option.some.inj hy
            exact fun e => hxb e.2
        refine region_then fun K90 QK90 hK90 => ?_
        refine s_val hM36 (.inl rfl) rfl rfl (ev_move (.inl rfl) rfl) (fun a92 hM91 => ?_)
        clear hM36
        refine s_val hM91 (.inl rfl) rfl rfl (ev_nilc rfl rfl) (fun a94 hM93 => ?_)
        clear hM91
        refine s_val hM93 (.inl rfl) rfl rfl (ev_fldw (m := 0) rfl rfl (fun w => by simp [go_sem])) (fun a96 hM95 => ?_)
        clear hM93
        refine s_val hM95 (.inl rfl) rfl rfl (ev_load1 (v := .slice A (ws.length) c) rfl rfl ((HK.out.below HB16.out).at_ (m := 0) rfl) (isAgg_no Try.underlying76 rfl)) (fun a98 hM97 => ?_)
        clear hM95
        refine s_val hM97 (.inl rfl) rfl rfl (ev_move (.inl rfl) rfl) (fun a100 hM99 => ?_)
        clear hM97
        refine s_val hM99 (.inl rfl) rfl rfl (ev_idx (b := gx) (off := 0) (k := j) (sz := 3) (p := j * 3) rfl (by rw [← hAx]; rfl) rfl Try.underlying76 (by kernel_rfl) (by omega) (by omega)) (fun a102 hM101 => ?_)
        clear hM99
        refine s_val hM101 (.inl rfl) rfl rfl (ev_fldw (m := j * 3) rfl rfl (fun w => by simp [go_sem])) (fun a104 hM103 => ?_)
        clear hM101
        refine s_val hM103 (.inl rfl) rfl rfl (ev_load1 (v := .int .i64 (x.a)) rfl rfl ((HRx.out.below HB20.out).at_ (m := 0) rfl) (isAgg_no Try.underlying3 rfl)) (fun a106 hM105 => ?_)
        clear hM103
        refine s_val hM105 (.inl rfl) rfl rfl (ev_move (.inl rfl) rfl) (fun a108 hM107 => ?_)
        clear hM105
        refine s_val hM107 (.inl rfl) rfl rfl (ev_bin rfl rfl rfl g_int (b_eql (b := true) (decide_eq_true hxa))) (fun a110 hM109 => ?_)
        clear hM107
        refine s_val hM109 (.inl rfl) rfl rfl (ev_move (.inl rfl) rfl) (fun a112 hM111 => ?_)
        clear hM109
        refine s_val hM111 (.inr ⟨_, _, _, rfl, rfl, rfl⟩) rfl rfl (ev_move (.inl rfl) rfl) (fun a114 hM113 => ?_)
        clear hM111
        refine s_val hM113 (.inr ⟨_, _, _, rfl, rfl, rfl⟩) rfl rfl (ev_nilc rfl rfl) (fun a116 hM115 => ?_)
        clear hM113
        refine s_val hM115 (.inr ⟨_, _, _, rfl, rfl, rfl⟩) rfl rfl (ev_fldw (m := 0) rfl rfl (fun w => by simp [go_sem])) (fun a118 hM117 => ?_)
        clear hM115
        refine s_val hM117 (.inr ⟨_, _, _, rfl, rfl, rfl⟩) rfl rfl (ev_load1 (v := .slice A (ws.length) c) rfl rfl ((HK.out.below HB16.out).at_ (m := 0) rfl) (isAgg_no Try.underlying76 rfl)) (fun a120 hM119 => ?_)
        clear hM117
        refine s_val hM119 (.inr ⟨_, _, _, rfl, rfl, rfl⟩) rfl rfl (ev_move (.inl rfl) rfl) (fun a122 hM121 => ?_)
        clear hM119
        refine s_val hM121 (.inr ⟨_, _, _, rfl, rfl, rfl⟩) rfl rfl (ev_idx (b := gx) (off := 0) (k := j) (sz := 3) (p := j * 3) rfl (by rw [← hAx]; rfl) rfl Try.underlying76 (by kernel_rfl) (by omega) (by omega)) (fun a124 hM123 => ?_)
        clear hM121
        refine s_val hM123 (.inr ⟨_, _, _, rfl, rfl, rfl⟩) rfl rfl (ev_fldw (m := j * 3 + 1) rfl rfl (fun w => by simp [go_sem])) (fun a126 hM125 => ?_)
        clear hM123
        refine s_val hM125 (.inr ⟨_, _, _, rfl, rfl, rfl⟩) rfl rfl (ev_load1 (v := .int .i64 (x.b)) rfl rfl ((HRx.out.below HB20.out).at_ (m := 1) rfl) (isAgg_no Try.underlying3 rfl)) (fun a128 hM127 => ?_)
        clear hM125
        refine s_val hM127 (.inr ⟨_, _, _, rfl, rfl, rfl⟩) rfl rfl (ev_move (.inl rfl) rfl) (fun a130 hM129 => ?_)
        clear hM127
        refine s_val hM129 (.inr ⟨_, _, _, rfl, rfl, rfl⟩) rfl rfl (ev_bin rfl rfl rfl g_int (b_eql (b := false) (decide_eq_false hxb))) (fun a132 hM131 => ?_)
        clear hM129
        refine s_val hM131 (.inl rfl) rfl rfl (ev_pick rfl rfl rfl) (fun a134 hM133 => ?_)
        clear hM131
        refine seg_nil (hK90 _ _ ?_)
        clear hK90 K90 QK90
        have hM135 := hM133.cut5 (t1 := 0) (t2 := 1) (t3 := 2) (t4 := 7) (t5 := 38) rfl rfl rfl rfl rfl
        clear hM133
        refine wp_cond_false (hM135.ev (t := 38) rfl) ?_
        refine wp_skip ?_
        refine inb_n ?_
        refine hK37 _ _ ?_
        refine region_last fun K136 QK136 hK136 => ?_
        refine s_val hM135 (.inl rfl) rfl rfl (ev_move (.inl rfl) rfl) (fun a138 hM137 => ?_)
        clear hM135
        refine s_val hM137 (.inl rfl) rfl rfl (ev_bin rfl rfl rfl g_int (b_add (r := ((j + 1 : Nat) : Int)) (by omega) (by omega))) (fun a140 hM139 => ?_)
        clear hM137
        refine s_val hM139 (.inl rfl) rfl rfl (ev_move (.inr rfl) rfl) (fun a142 hM141 => ?_)
        clear hM139
        refine seg_nil (hK136 _ _ ?_)
        clear hK136 K136 QK136
        have hM143 := hM141.cut4 (t1 := 0) (t2 := 1) (t3 := 2) (t4 := 7) rfl rfl rfl rfl
        clear hM141
        have hM144 := hM143.cut4 (t1 := 7) (t2 := 0) (t3 := 1) (t4 := 2) rfl rfl rfl rfl
        clear hM143
        exact ⟨ws.length - (j + 1), by omega, j + 1, rfl, hM144, HB16, rfl, HX2⟩
    case neg =>
      have HX2 : Hid (∀ (i : Nat) (y : RW), i < j + 1 → ws[i]? = some y → ¬ (y.a = fa ∧ y.b = fb)) := fun i y hi hy => by
        rcases Nat.lt_or_ge i j with h1 | h1
        · exact HX.out i y h1 hy
        · obtain rfl : i = j := by omega
          rw [hx] at hy
          obtain rfl := Option.some.inj hy
          exact fun e => hxa e.1
      refine region_then fun K145 QK145 hK145 => ?_
      refine s_val hM36 (.inl rfl) rfl rfl (ev_move (.inl rfl) rfl) (fun a147 hM146 => ?_)
      clear hM36
      refine s_val hM146 (.inl rfl) rfl rfl (ev_nilc rfl rfl) (fun a149 hM148 => ?_)
      clear hM146
      refine s_val hM148 (.inl rfl) rfl rfl (ev_fldw (m := 0) rfl rfl (fun w => by simp [go_sem])) (fun a151 hM150 => ?_)
      clear hM148
      refine s_val hM150 (.inl rfl) rfl rfl (ev_load1 (v := .slice A (ws.length) c) rfl rfl ((HK.out.below HB16.out).at_ (m := 0) rfl) (isAgg_no Try.underlying76 rfl)) (fun a153 hM152 => ?_)
      clear hM150
      refine s_val hM152 (.inl rfl) rfl rfl (ev_move (.inl rfl) rfl) (fun a155 hM154 => ?_)
      clear hM152
      refine s_val hM154 (.inl rfl) rfl rfl (ev_idx (b := gx) (off := 0) (k := j) (sz := 3) (p := j * 3) rfl (by rw [← hAx]; rfl) rfl Try.underlying76 (by kernel_rfl) (by omega) (by omega)) (fun a157 hM156 => ?_)
      clear hM154
      refine s_val hM156 (.inl rfl) rfl rfl (ev_fldw (m := j * 3) rfl rfl (fun w => by simp [go_sem])) (fun a159 hM158 => ?_)
      clear hM156
      refine s_val hM158 (.inl rfl) rfl rfl (ev_load1 (v := .int .i64 (x.a)) rfl rfl ((HRx.out.below HB20.out).at_ (m := 0) rfl) (isAgg_no Try.underlying3 rfl)) (fun a161 hM160 => ?_)
      clear hM158
      refine s_val hM160 (.inl rfl) rfl rfl (ev_move (.inl rfl) rfl) (fun a163 hM162 => ?_)
      clear hM160
      refine s_val hM162 (.inl rfl) rfl rfl (ev_bin rfl rfl rfl g_int (b_eql (b := false) (decide_eq_false hxa))) (fun a165 hM164 => ?_)
      clear hM162
      refine s_val hM164 (.inl rfl) rfl rfl (ev_move (.inl rfl) rfl) (fun a167 hM166 => ?_)
      clear hM164
      refine s_skip hM166 rfl rfl rfl rfl rfl rfl (fun a169 hM168 => ?_)
      clear hM166
      refine s_skip hM168 rfl rfl rfl rfl rfl rfl (fun a171 hM170 => ?_)
      clear hM168
      refine s_skip hM170 rfl rfl rfl rfl rfl rfl (fun a173 hM172 => ?_)
      clear hM170
      refine s_skip hM172 rfl rfl rfl rfl rfl rfl (fun a175 hM174 => ?_)
      clear hM172
      refine s_skip hM174 rfl rfl rfl rfl rfl rfl (fun a177 hM176 => ?_)
      clear hM174
      refine s_skip hM176 rfl rfl rfl rfl rfl rfl (fun a179 hM178 => ?_)
      clear hM176
      refine s_skip hM178 rfl rfl rfl rfl rfl rfl (fun a181 hM180 => ?_)
      clear hM178
      refine s_skip hM180 rfl rfl rfl rfl rfl rfl (fun a183 hM182 => ?_)
      clear hM180
      refine s_skip hM182 rfl rfl rfl rfl rfl rfl (fun a185 hM184 => ?_)
      clear hM182
      refine s_skip hM184 rfl rfl rfl rfl rfl rfl (fun a187 hM186 => ?_)
      clear hM184
      refine s_val hM186 (.inl rfl) rfl rfl (ev_pick rfl rfl rfl) (fun a189 hM188 => ?_)
      clear hM186
      refine seg_nil (hK145 _ _ ?_)
      clear hK145 K145 QK145
      have hM190 := hM188.cut5 (t1 := 0) (t2 := 1) (t3 := 2) (t4 := 7) (t5 := 38) rfl rfl rfl rfl rfl
      clear hM188
      refine wp_cond_false (hM190.ev (t := 38) rfl) ?_
      refine wp_skip ?_
      refine inb_n ?_
      refine hK37 _ _ ?_
      refine region_last fun K191 QK191 hK191 => ?_
      refine s_val hM190 (.inl rfl) rfl rfl (ev_move (.inl rfl) rfl) (fun a193 hM192 => ?_)
      clear hM190
      refine s_val hM192 (.inl rfl) rfl rfl (ev_bin rfl rfl rfl g_int (b_add (r := ((j + 1 : Nat) : Int)) (by omega) (by omega))) (fun a195 hM194 => ?_)
      clear hM192
      refine s_val hM194 (.inl rfl) rfl rfl (ev_move (.inr rfl) rfl) (fun a197 hM196 => ?_)
      clear hM194
      refine seg_nil (hK191 _ _ ?_)
      clear hK191 K191 QK191
      have hM198 := hM196.cut4 (t1 := 0) (t2 := 1) (t3 := 2) (t4 := 7) rfl rfl rfl rfl
      clear hM196
      have hM199 := hM198.cut4 (t1 := 7) (t2 := 0) (t3 := 1) (t4 := 2) rfl rfl rfl rfl
      clear hM198
      exact ⟨ws.length - (j + 1), by omega, j + 1, rfl, hM199, HB16, rfl, HX2⟩
  case neg =>
    have hNone : NoneW ws fa fb := fun i y hy => HX.out i y (by have := (List.getElem?_eq_some_iff.1 hy).1; omega) hy
    refine region_then fun K200 QK200 hK200 => ?_
    refine s_val hM15 (.inl rfl) rfl rfl (ev_move (.inl rfl) rfl) (fun a202 hM201 => ?_)
    clear hM15
    refine s_val hM201 (.inl rfl) rfl rfl (ev_move (.inl rfl) rfl) (fun a204 hM203 => ?_)
    clear hM201
    refine s_val hM203 (.inl rfl) rfl rfl (ev_nilc rfl rfl) (fun a206 hM205 => ?_)
    clear hM203
    refine s_val hM205 (.inl rfl) rfl rfl (ev_fldw (m := 0) rfl rfl (fun w => by simp [go_sem])) (fun a208 hM207 => ?_)
    clear hM205
    refine s_val hM207 (.inl rfl) rfl rfl (ev_load1 (v := .slice A (ws.length) c) rfl rfl ((HK.out.below HB16.out).at_ (m := 0) rfl) (isAgg_no Try.underlying76 rfl)) (fun a210 hM209 => ?_)
    clear hM207
    refine s_val hM209 (.inl rfl) rfl rfl (ev_len rfl rfl Try.underlying76) (fun a212 hM211 => ?_)
    clear hM209
    refine s_val hM211 (.inl rfl) rfl rfl (ev_bin rfl rfl rfl g_int (b_lss (b := false) (by rw [decide_eq_false_iff_not]; omega))) (fun a214 hM213 => ?_)
    clear hM211
    refine seg_nil (hK200 _ _ ?_)
    clear hK200 K200 QK200
    have hM215 := hM213.cut5 (t1 := 0) (t2 := 1) (t3 := 2) (t4 := 7) (t5 := 14) rfl rfl rfl rfl rfl
    clear hM213
    refine wp_cond_false (hM215.ev (t := 14) rfl) ?_
    refine wp_exit ?_
    repeat (with_reducible refine th_e ?_)
    refine inb_e ?_
    refine hK7 _ _ ?_
    refine region_then fun K216 QK216 hK216 => ?_
    refine s_val hM215 (.inl rfl) rfl rfl (ev_move (.inr rfl) rfl) (fun a218 hM217 => ?_)
    clear hM215
    refine seg_nil (hK216 _ _ ?_)
    clear hK216 K216 QK216
    have hM219 := hM217.cut1 (t1 := 6) rfl
    clear hM217
    refine wp_ret ?_
    repeat (with_reducible first | refine th_r ?_ | refine inb_r ?_ | refine js_r ?_)
    obtain rfl := HW.out.none hNone
    refine ret_of (t := 6) rfl hM219 rfl ?_
    exact ⟨rfl, rfl⟩

set_option maxRecDepth 100000 in
set_option maxHeartbeats 4000000 in
theorem rf_Count {F : Nat → Prop} {w : World} {r : Nat} {Vl : Value} {ws : List RW} (fa fb : Int) (h : RfJ F w r Vl ws) {S : Int × Int → List (List UInt8)} (hl : LookW ws S) :
    Calls Try.prog 56 #[.pointer (some ⟨r, 0, none⟩), .int .i64 fa, .int .i64 fb] w fun e w' => e = .returned (.int .i64 ((S (fa, fb)).length : Int)) ∧ w = w' := by
  have ho := h.own
  obtain ⟨A, c, rfl, hcap, hmax⟩ := own_slice_cap ho
  unfold maxLen at hmax
  clear ho
  have HJ := hide h
  have HK := hide h.k.rng
  have HL := hide hl
  clear h hl
  go_enter Try.func56, Try.ntmps56
  refine act_off 23 [(0, .pointer (some ⟨r, 0, none⟩)), (1, .int .i64 fa), (2, .int .i64 fb)] (Frm.start rfl (by intro p hp; simp only [List.mem_cons, List.not_mem_nil, or_false] at hp; rcases hp with rfl | rfl | rfl <;> rfl)) (fun a0 hM => ?_)
  have HB2 : Hid (Below w.heap.size w w) := Below.refl _ _
  refine region_then fun K3 QK3 hK3 => ?_
  refine s_val hM (.inl rfl) rfl rfl (ev_move (.inr rfl) rfl) (fun a5 hM4 => ?_)
  clear hM
  refine seg_nil (hK3 _ _ ?_)
  clear hK3 K3 QK3
  have hM6 := hM4.cut3 (t1 := 0) (t2 := 1) (t3 := 2) rfl rfl rfl
  clear hM4
  rcases way_cases ws fa fb with hn | ⟨i, x, hf⟩
  ·
    have HW : Hid (IsWay ws fa fb (-1)) := .inl ⟨rfl, hn⟩
    have HE := hide ((HL.out fa fb).1 hn)
    refine region_then fun K7 QK7 hK7 => ?_
    refine s_val hM6 (.inl rfl) rfl rfl (ev_move (.inl rfl) rfl) (fun a9 hM8 => ?_)
    clear hM6
    refine s_val hM8 (.inl rfl) rfl rfl (ev_move (.inl rfl) rfl) (fun a11 hM10 => ?_)
    clear hM8
    refine s_val hM10 (.inl rfl) rfl rfl (ev_move (.inl rfl) rfl) (fun a13 hM12 => ?_)
    clear hM10
    refine s_call hM12 (.inl rfl) rfl rfl (f := 76) (args := #[.pointer (some ⟨r, 0, none⟩), .int .i64 fa, .int .i64 fb]) (ev_call hM12 rfl rfl rfl (fun w => by simp [go_sem]) _) (rf_way fa fb (HJ.out.below HB2.out) HW.out) (fun e w14 hp => ?_)
    obtain ⟨rfl, rfl⟩ := hp
    refine ⟨_, rfl, fun a17 hM16 => ?_⟩
    clear hM12
    refine s_val hM16 (.inl rfl) rfl rfl (ev_move (.inr rfl) rfl) (fun a19 hM18 => ?_)
    clear hM16
    refine seg_nil (hK7 _ _ ?_)
    clear hK7 K7 QK7
    have hM20 := hM18.cut2 (t1 := 0) (t2 := 7) rfl rfl
    clear hM18
    refine wp_seq_k fun K21 hK21 => ?_
    refine region_then fun K22 QK22 hK22 => ?_
    refine s_val hM20 (.inl rfl) rfl rfl (ev_move (.inl rfl) rfl) (fun a24 hM23 => ?_)
    clear hM20
    refine s_val hM23 (.inl rfl) rfl rfl (ev_bin rfl rfl rfl g_int (b_lss (b := true) (by decide))) (fun a26 hM25 => ?_)
    clear hM23
    refine seg_nil (hK22 _ _ ?_)
    clear hK22 K22 QK22
    have hM27 := hM25.cut3 (t1 := 0) (t2 := 7) (t3 := 13) rfl rfl rfl
    clear hM25
    refine wp_cond_true (hM27.ev (t := 13) rfl) ?_
    refine region_then fun K28 QK28 hK28 => ?_
    refine s_val hM27 (.inl rfl) rfl rfl (ev_move (.inr rfl) rfl) (fun a30 hM29 => ?_)
    clear hM27
    refine seg_nil (hK28 _ _ ?_)
    clear hK28 K28 QK28
    have hM31 := hM29.cut1 (t1 := 6) rfl
    clear hM29
    refine wp_ret ?_
    repeat (with_reducible first | refine th_r ?_ | refine inb_r ?_ | refine js_r ?_)
    refine ret_of (t := 6) rfl hM31 rfl ?_
    rw [HE.out]
    exact ⟨rfl, rfl⟩
  ·
    have HW : Hid (IsWay ws fa fb (i : Int)) := .inr ⟨i, x, rfl, hf⟩
    have HE := hide ((HL.out fa fb).2 i x hf)
    have hlt := (List.getElem?_eq_some_iff.1 hf.at_).1
    obtain ⟨Ax, cx, hxv, _, _, _⟩ := (HJ.out.below HB2.out).vrow (mem_of_at hf.at_)
    obtain ⟨gx, cx_, curx, ex, _, hrx, hFx, _⟩ := ((HJ.out.below HB2.out)).at_ hf.at_
    have hAx : A = some ⟨gx, 0, none⟩ := by injection ex
    have HRx := hide hrx
    clear ex hrx
    have HB33 : Hid (Below w.heap.size w w) := Below.refl _ _
    refine region_then fun K34 QK34 hK34 => ?_
    refine s_val hM6 (.inl rfl) rfl rfl (ev_move (.inl rfl) rfl) (fun a36 hM35 => ?_)
    clear hM6
    refine s_val hM35 (.inl rfl) rfl rfl (ev_move (.inl rfl) rfl) (fun a38 hM37 => ?_)
    clear hM35
    refine s_val hM37 (.inl rfl) rfl rfl (ev_move (.inl rfl) rfl) (fun a40 hM39 => ?_)
    clear hM37
    refine s_call hM39 (.inl rfl) rfl rfl (f := 76) (args := #[.pointer (some ⟨r, 0, none⟩), .int .i64 fa, .int .i64 fb]) (ev_call hM39 rfl rfl rfl (fun w => by simp [go_sem]) _) (rf_way fa fb (HJ.out.below HB2.out) HW.out) (fun e w41 hp => ?_)
    obtain ⟨rfl, rfl⟩ := hp
    refine ⟨_, rfl, fun a44 hM43 => ?_⟩
    clear hM39
    refine s_val hM43 (.inl rfl) rfl rfl (ev_move (.inr rfl) rfl) (fun a46 hM45 => ?_)
    clear hM43
    refine seg_nil (hK34 _ _ ?_)
    clear hK34 K34 QK34
    have hM47 := hM45.cut2 (t1 := 0) (t2 := 7) rfl rfl
    clear hM45
    refine wp_seq_k fun K48 hK48 => ?_
    refine region_then fun K49 QK49 hK49 => ?_
    refine s_val hM47 (.inl rfl) rfl rfl (ev_move (.inl rfl) rfl) (fun a51 hM50 => ?_)
    clear hM47
    refine s_val hM50 (.inl rfl) rfl rfl (ev_bin rfl rfl rfl g_int (b_lss (b := false) (by rw [decide_eq_false_iff_not]; omega))) (fun a53 hM52 => ?_)
    clear hM50
    refine seg_nil (hK49 _ _ ?_)
    clear hK49 K49 QK49
    have hM54 := hM52.cut3 (t1 := 0) (t2 := 7) (t3 := 13) rfl rfl rfl
    clear hM52
    refine wp_cond_false (hM54.ev (t := 13) rfl) ?_
    refine wp_skip ?_
    refine hK48 _ _ ?_
    refine region_then fun K55 QK55 hK55 => ?_
    refine s_val hM54 (.inl rfl) rfl rfl (ev_move (.inl rfl) rfl) (fun a57 hM56 => ?_)
    clear hM54
    refine s_val hM56 (.inl rfl) rfl rfl (ev_nilc rfl rfl) (fun a59 hM58 => ?_)
    clear hM56
    refine s_val hM58 (.inl rfl) rfl rfl (ev_fldw (m := 0) rfl rfl (fun w => by simp [go_sem])) (fun a61 hM60 => ?_)
    clear hM58
    refine s_val hM60 (.inl rfl) rfl rfl (ev_load1 (v := .slice A (ws.length) c) rfl rfl ((HK.out.below HB2.out).at_ (m := 0) rfl) (isAgg_no Try.underlying76 rfl)) (fun a63 hM62 => ?_)
    clear hM60
    refine s_val hM62 (.inl rfl) rfl rfl (ev_move (.inl rfl) rfl) (fun a65 hM64 => ?_)
    clear hM62
    refine s_val hM64 (.inl rfl) rfl rfl (ev_idx (b := gx) (off := 0) (k := i) (sz := 3) (p := i * 3) rfl (by rw [← hAx]; rfl) rfl Try.underlying76 (by kernel_rfl) (by omega) (by omega)) (fun a67 hM66 => ?_)
    clear hM64
    refine s_val hM66 (.inl rfl) rfl rfl (ev_fldw (m := i * 3 + 2) rfl rfl (fun w => by simp [go_sem])) (fun a69 hM68 => ?_)
    clear hM66
    refine s_val hM68 (.inl rfl) rfl rfl (ev_load1 (v := .slice Ax x.es.length cx) rfl rfl (by rw [← hxv]; exact ((HRx.out.below HB33.out)).at_ (m := 2) rfl) (isAgg_no Try.underlying57 rfl)) (fun a71 hM70 => ?_)
    clear hM68
    refine s_val hM70 (.inl rfl) rfl rfl (ev_len rfl rfl Try.underlying57) (fun a73 hM72 => ?_)
    clear hM70
    refine s_val hM72 (.inl rfl) rfl rfl (ev_move (.inr rfl) rfl) (fun a75 hM74 => ?_)
    clear hM72
    refine seg_nil (hK55 _ _ ?_)
    clear hK55 K55 QK55
    have hM76 := hM74.cut1 (t1 := 6) rfl
    clear hM74
    refine wp_ret ?_
    repeat (with_reducible first | refine th_r ?_ | refine inb_r ?_ | refine js_r ?_)
    refine ret_of (t := 6) rfl hM76 rfl ?_
    rw [HE.out, List.length_map]
    exact ⟨rfl, rfl⟩
end Go.Proofs.Ytflamhndmggiaaa
