/-
  Texts joined: words and contracts that later texts use; lemmas alone, no conditions of a statement.
-/
import Derived.Test.YtflamhndmggiaaaGr01
import Derived.WideKeyEntry
import Derived.Test.YtflamhndmggiaaaGr06
import Derived.Deep.RegionLaw
import Derived.Lib.SliceRun
set_option linter.unusedVariables false
set_option linter.unusedSimpArgs false
/-
  Maps, over any program: as XMap, with the entries' stamps: an entry asked for and stored into later ('m[k] = append(m[k], ..)'). Lemmas alone, no conditions of a statement.
-/
namespace Go.Proofs.Ytflamhndmggiaaa
open Go.RowKit
open Go.ChangeMaps Go.MapKept

def StB (es : Array MapEntry) (clock : Nat) : Prop := (∀ e ∈ es.toList, e.born < clock) ∧ (es.toList.map (·.born)).Nodup
/-- The map's block b reads as f; its entries' stamps differ. -/
def Mq {K : Type} (w : World) (b : Nat) (enc : K → Value) (f : K → Option Value) : Prop := Mp w b enc f ∧ ∃ es clock, w.heap[b]? = some (.map es clock) ∧ StB es clock
section
variable {P : Program} {kt : TypeId} {K : Type} {enc : K → Value} {f : K → Option Value} {w w' : World} {b : Nat}
theorem Mq.mp (h : Mq w b enc f) : Mp w b enc f := h.1
theorem Mq.lt (h : Mq w b enc f) : b < w.heap.size := h.1.lt
theorem Mq.at_ (h : Mq w b enc f) (e : w'.heap[b]? = w.heap[b]?) : Mq w' b enc f := by
  obtain ⟨h1, es, clock, hb, hs⟩ := h
  exact ⟨h1.at_ e, es, clock, e.trans hb, hs⟩
theorem Mq.later (h : Mq w b enc f) (hb : Below w.heap.size w w') : Mq w' b enc f := h.at_ (hb.block b h.lt)
theorem Mq.grown {row : Option Nat} (h : Mq w b enc f) (hb : w.grownBy w' row) (hg : some b ≠ row) : Mq w' b enc f := h.at_ (hb.block b h.lt hg)
theorem Mq.made (w : World) (enc : K → Value) : Mq (w.alloc (.map #[] 0)) w.heap.size enc (fun _ => none) := ⟨Mp.made w enc, #[], 0, (MapKept.heap_alloc w _).1, ⟨by simp, by simp⟩⟩
theorem Mq.congr {f' : K → Option Value} (h : Mq w b enc f) (e : ∀ k, f k = f' k) : Mq w b enc f' := by
  obtain rfl : f = f' := funext e
  exact h
theorem StB.push {es : Array MapEntry} {clock : Nat} (h : StB es clock) {k v : Value} : StB (es.push ⟨k, v, clock⟩) (clock + 1) := by
  refine ⟨fun e he => ?_, ?_⟩
  · simp only [Array.toList_push, List.mem_append, List.mem_singleton] at he
    rcases he with he | rfl
    · have := h.1 e he; omega
    · show clock < clock + 1; omega
  · simp only [Array.toList_push, List.map_append, List.map_cons, List.map_nil]
    refine List.nodup_append.2 ⟨h.2, by simp, fun a ha c hc e1 => ?_⟩
    simp only [List.mem_singleton] at hc
    obtain ⟨x, hx, rfl⟩ := List.mem_map.1 ha
    have := h.1 x hx
    omega
theorem StB.modify {es : Array MapEntry} {clock j : Nat} {e0 : MapEntry} (h : StB es clock) (hj : es.toList[j]? = some e0) {k v : Value} : StB (es.modify j (fun e' => { e' with key := k, val := v })) clock := by
  have hl : (es.modify j (fun e' => { e' with key := k, val := v })).toList = es.toList.set j { e0 with key := k, val := v } := by rw [Array.toList_modify, modify_eq_set _ _ _ _ hj]
  have hm : (es.toList.set j { e0 with key := k, val := v }).map (·.born) = es.toList.map (·.born) := by
    rw [List.map_set]
    have : (es.toList.map (·.born))[j]? = some e0.born := by rw [List.getElem?_map, hj]; rfl
    exact WideElems.set_self _ _ _ this
  refine ⟨fun e he => ?_, ?_⟩
  · rw [hl] at he
    obtain ⟨i, hi⟩ := List.mem_iff_getElem?.1 he
    rcases set_some hi with ⟨_, rfl⟩ | ⟨_, hi⟩
    · exact h.1 e0 (List.mem_of_getElem? hj)
    · exact h.1 e (List.mem_of_getElem? hi)
  · rw [hl, hm]; exact h.2
theorem Mq.of {es : Array MapEntry} {clock : Nat} (h : Mp w b enc f) (hb : w.heap[b]? = some (.map es clock)) (hs : StB es clock) : Mq w b enc f := ⟨h, es, clock, hb, hs⟩
/-- A map's block laid anew, as another world's. -/
theorem Mp.moved {w2 : World} {es : Array MapEntry} {clock : Nat} (h : Mp w b enc f) (hb : w.heap[b]? = some (.map es clock)) (hb2 : w2.heap[b]? = some (.map es clock)) : Mp w2 b enc f := h.at_ (hb2.trans hb.symm)
theorem grown_block {es : Array MapEntry} {clock : Nat} (hb : w.heap[b]? = some (.map es clock)) (o : Obj) : w.grownBy (setBlock w b o) (some b) := ⟨rfl, rfl, rfl, by simp [setBlock], fun i _ hi => heap_setBlock_other hb _ (fun e => hi (by rw [e]))⟩
/-- 'm[k] = v': the entries as they then are. -/
theorem Mq.update' [DecidableEq K] (h : Mq w b enc f) (F : KeyFam P kt enc) {t e : TypeId} (ht : P.underlying t = some (.map kt e)) {z : Value} (hz : ∀ u : World, (zeroValue e).run P u = .ok z u) (k : K) :
    ∃ (st : Nat) (es1 : Array MapEntry) (clock1 : Nat), (Instr.mapEntry t (.map (some b)) (enc k)).run P w = .ok (.tuple #[(f k).getD z, goInt st]) (setBlock w b (.map es1 clock1)) ∧ w.grownBy (setBlock w b (.map es1 clock1)) (some b) ∧ (setBlock w b (.map es1 clock1)).heap[b]? = some (.map es1 clock1) ∧
      ∀ v, ∃ es' clock', (Instr.mapUpdate t (.map (some b)) (enc k) v).run P w = .ok () (setBlock w b (.map es' clock')) ∧ StB es' clock' ∧ Mp (setBlock w b (.map es' clock')) b enc (fun q => if q = k then some v else f q) ∧ (setBlock w b (.map es' clock')).heap[b]? = some (.map es' clock') ∧
        ∀ w2 : World, w2.heap[b]? = some (.map es1 clock1) → (Instr.entryStore t (.map (some b)) (goInt st) v).run P w2 = .ok () (setBlock w2 b (.map es' clock')) := by
  obtain ⟨hM, es, clock, hb, hs⟩ := h
  have hM' := hM
  obtain ⟨es0, clock0, hb0, hk, hd, hf⟩ := hM'
  rw [hb] at hb0
  injection hb0 with hb0
  injection hb0 with e1 e2
  subst e1; subst e2
  obtain ⟨s1, s2⟩ := hs
  have hup : ∀ (v : Value) (w' : World), (Instr.mapUpdate t (.map (some b)) (enc k) v).run P w = .ok () w' → Mp w' b enc (fun q => if q = k then some v else f q) := fun v w' hr => by
    obtain ⟨w2, hr2, h2, _⟩ := hM.update F ht k v
    rw [hr] at hr2
    injection hr2 with _ e
    rw [e]; exact h2
  rcases F.find w k es.toList hk with ⟨h1, h2⟩ | ⟨j, e0, h1, h2, h3⟩
  · have hn : f k = none := by
      cases hv : f k with
      | none => rfl
      | some v =>
        obtain ⟨e, he, hke, _⟩ := (hf k v).1 hv
        exact absurd hke (h2 e he)
    refine ⟨clock, es.push ⟨enc k, z, clock⟩, clock + 1, ?_, grown_block hb _, heap_setBlock_same hb _, fun v => ?_⟩
    · rw [hn]
      simp [Instr.mapEntry, run_underlying ht, MapKept.run_getObj_map hb, F.check, h1, hz, MapKept.run_setObj_map _ hb, Result.andThen, setBlock]
    · have hr : (Instr.mapUpdate t (.map (some b)) (enc k) v).run P w = .ok () (setBlock w b (.map (es.push ⟨enc k, v, clock⟩) (clock + 1))) := by
        simp [Instr.mapUpdate, run_underlying ht, MapKept.run_getObj_map hb, F.check, h1, MapKept.run_setObj_map _ hb, Result.andThen, setBlock]
      refine ⟨es.push ⟨enc k, v, clock⟩, clock + 1, hr, StB.push ⟨s1, s2⟩, hup v _ hr, heap_setBlock_same hb _, fun w2 hw2 => ?_⟩
      have hidx : (es.push ⟨enc k, z, clock⟩).findIdx? (fun e => ((e.born : Nat) : Int) == ((clock : Nat) : Int)) = some es.size := by
        rw [WideElems.findIdx_arr]
        have := WideElems.findIdx_born (l := (es.push ⟨enc k, z, clock⟩).toList) (j := es.size) (e0 := ⟨enc k, z, clock⟩) (StB.push ⟨s1, s2⟩).2 (by simp)
        exact this
      have hmod : (es.push ⟨enc k, z, clock⟩).modify es.size (fun e => { e with val := v }) = es.push ⟨enc k, v, clock⟩ := by
        apply Array.ext'
        rw [Array.toList_modify, Array.toList_push, Array.toList_push, ← Array.length_toList, WideElems.modify_last]
      simp [Instr.entryStore, MapKept.run_getObj_map hw2, asInt, asIntOf, goInt, hidx, hmod, MapKept.run_setObj_map _ hw2, Result.andThen, setBlock]
  · have hj : es[j]? = some e0 := by simpa using h2
    have hsome : f k = some e0.val := (hf k e0.val).2 ⟨e0, List.mem_of_getElem? h2, h3, rfl⟩
    have hsame : es.modify j (fun e => { e with key := enc k }) = es := by
      apply Array.ext'
      rw [Array.toList_modify, modify_eq_set _ _ _ _ h2]
      have : ({ e0 with key := enc k } : MapEntry) = e0 := by rw [← h3]
      rw [this]
      exact WideElems.set_self _ _ _ h2
    refine ⟨e0.born, es, clock, ?_, grown_block hb _, heap_setBlock_same hb _, fun v => ?_⟩
    · rw [hsome]
      simp [Instr.mapEntry, run_underlying ht, MapKept.run_getObj_map hb, F.check, h1, hj, h3, F.stays, hsame, MapKept.run_setObj_map _ hb, Result.andThen, setBlock]
    · have hr : (Instr.mapUpdate t (.map (some b)) (enc k) v).run P w = .ok () (setBlock w b (.map (es.modify j (fun e' => { e' with key := enc k, val := v })) clock)) := by
        simp [Instr.mapUpdate, run_underlying ht, MapKept.run_getObj_map hb, F.check, h1, hj, h3, F.stays, MapKept.run_setObj_map _ hb, Result.andThen, setBlock]
      refine ⟨es.modify j (fun e' => { e' with key := enc k, val := v }), clock, hr, StB.modify ⟨s1, s2⟩ h2, hup v _ hr, heap_setBlock_same hb _, fun w2 hw2 => ?_⟩
      have hidx : es.findIdx? (fun e => ((e.born : Nat) : Int) == ((e0.born : Nat) : Int)) = some j := by
        rw [WideElems.findIdx_arr]
        exact WideElems.findIdx_born s2 h2
      have hmod : es.modify j (fun e => { e with val := v }) = es.modify j (fun e' => { e' with key := enc k, val := v }) := by
        apply Array.ext'
        rw [Array.toList_modify, Array.toList_modify, modify_eq_set _ _ _ _ h2, modify_eq_set _ _ _ _ h2, ← h3]
      simp [Instr.entryStore, MapKept.run_getObj_map hw2, asInt, asIntOf, goInt, hidx, hmod, MapKept.run_setObj_map _ hw2, Result.andThen, setBlock]
theorem Mq.update [DecidableEq K] (h : Mq w b enc f) (F : KeyFam P kt enc) {t e : TypeId} (ht : P.underlying t = some (.map kt e)) {z : Value} (hz : ∀ u : World, (zeroValue e).run P u = .ok z u) (k : K) (v : Value) :
    ∃ w', (Instr.mapUpdate t (.map (some b)) (enc k) v).run P w = .ok () w' ∧ Mq w' b enc (fun q => if q = k then some v else f q) ∧ w.grownBy w' (some b) := by
  have hb : ∃ es clock, w.heap[b]? = some (.map es clock) := by obtain ⟨_, es, clock, hb, _⟩ := h; exact ⟨es, clock, hb⟩
  obtain ⟨es, clock, hb⟩ := hb
  obtain ⟨st, es1, clock1, _, _, _, h2⟩ := h.update' F ht hz k
  obtain ⟨es', clock', hr, hs, hM, hb', _⟩ := h2 v
  exact ⟨_, hr, Mq.of hM hb' hs, grown_block hb _⟩
/-- 'm[k] = append(m[k], ..)': the entry asked for, then stored into. -/
theorem Mq.entry [DecidableEq K] (h : Mq w b enc f) (F : KeyFam P kt enc) {t e : TypeId} (ht : P.underlying t = some (.map kt e)) {z : Value} (hz : ∀ u : World, (zeroValue e).run P u = .ok z u) (k : K) :
    ∃ (st : Nat) (w1 : World), (Instr.mapEntry t (.map (some b)) (enc k)).run P w = .ok (.tuple #[(f k).getD z, goInt st]) w1 ∧ w.grownBy w1 (some b) ∧ b < w1.heap.size ∧
      ∀ (w2 : World) (v : Value), w2.heap[b]? = w1.heap[b]? → ∃ w3, (Instr.entryStore t (.map (some b)) (goInt st) v).run P w2 = .ok () w3 ∧ Mq w3 b enc (fun q => if q = k then some v else f q) ∧ w2.grownBy w3 (some b) := by
  obtain ⟨st, es1, clock1, hr, hg, hb1, h2⟩ := h.update' F ht hz k
  refine ⟨st, _, hr, hg, Nat.lt_of_lt_of_le h.lt hg.size, fun w2 v hw2 => ?_⟩
  rw [hb1] at hw2
  obtain ⟨es', clock', _, hs, hM, hb', h3⟩ := h2 v
  exact ⟨_, h3 w2 hw2, Mq.of (hM.moved hb' (heap_setBlock_same hw2 _)) (heap_setBlock_same hw2 _) hs, grown_block hw2 _⟩
/-- 'delete(m, k)'. -/
theorem Mq.drop [DecidableEq K] (h : Mq w b enc f) (F : KeyFam P kt enc) {t e : TypeId} (ht : P.underlying t = some (.map kt e)) (k : K) (t2 ty : TypeId) :
    ∃ w', (Builtin.delete_ #[t, t2] ty #[.map (some b), enc k]).run P w = .ok (.tuple #[]) w' ∧ Mq w' b enc (fun q => if q = k then none else f q) ∧ w.grownBy w' (some b) := by
  obtain ⟨hM, es, clock, hb, hs⟩ := h
  obtain ⟨w1, hr1, hM1, hg1, _⟩ := hM.drop F ht k t2 ty
  obtain ⟨es0, clock0, hb0, hk, hd, hf⟩ := hM
  rw [hb] at hb0
  injection hb0 with hb0
  injection hb0 with e1 e2
  subst e1; subst e2
  rcases F.find w k es.toList hk with ⟨h1, h2⟩ | ⟨j, e0, h1, h2, h3⟩
  · have hr : (Builtin.delete_ #[t, t2] ty #[.map (some b), enc k]).run P w = .ok (.tuple #[]) (setBlock w b (.map es clock)) := by
      simp [Builtin.delete_, run_underlying ht, MapKept.run_getObj_map hb, F.check, h1, MapKept.run_setObj_map _ hb, Result.andThen, setBlock]
    rw [hr1] at hr
    injection hr with _ e
    exact ⟨w1, hr1, Mq.of hM1 (by rw [e]; exact heap_setBlock_same hb _) hs, hg1⟩
  · have hjl : j < es.toList.length := (List.getElem?_eq_some_iff.1 h2).1
    have hjs : j < es.size := by simpa using hjl
    have hsub : (es.eraseIdxIfInBounds j).toList = es.toList.eraseIdx j := by
      unfold Array.eraseIdxIfInBounds
      rw [dif_pos hjs]
      simp
    have hr : (Builtin.delete_ #[t, t2] ty #[.map (some b), enc k]).run P w = .ok (.tuple #[]) (setBlock w b (.map (es.eraseIdxIfInBounds j) clock)) := by
      simp [Builtin.delete_, run_underlying ht, MapKept.run_getObj_map hb, F.check, h1, MapKept.run_setObj_map _ hb, Result.andThen, setBlock]
    rw [hr1] at hr
    injection hr with _ e
    refine ⟨w1, hr1, Mq.of hM1 (by rw [e]; exact heap_setBlock_same hb _) ⟨fun x hx => ?_, ?_⟩, hg1⟩
    · rw [hsub] at hx
      exact hs.1 x ((List.eraseIdx_sublist _ _).subset hx)
    · rw [hsub]
      exact hs.2.sublist ((List.eraseIdx_sublist _ _).map _)
end
end Go.Proofs.Ytflamhndmggiaaa
/-
  A net of messages in memory: a map from ways to rows of rows of bytes; what a step does to it. Lemmas alone, no conditions of a statement.
-/
namespace Go.Proofs.Ytflamhndmggiaaa
open Go.RowKit

def nilV : Value := .slice none 0 0
def updF {α : Type} (f : Int × Int → α) (k : Int × Int) (v : α) : Int × Int → α := fun q => if q = k then v else f q
theorem updF_self {α : Type} {f : Int × Int → α} {k : Int × Int} {v : α} : updF f k v k = v := if_pos rfl
theorem updF_ne {α : Type} {f : Int × Int → α} {k q : Int × Int} {v : α} (h : q ≠ k) : updF f k v q = f q := if_neg h
/-- The net's memory: the map's block m, a row a way, the messages. All its blocks are in F; no two rows, no two messages share a block. -/
structure NtJ (F : Nat → Prop) (w : World) (g m : Nat) (rows : Int × Int → Option Value) (st : Int × Int → List (Value × List UInt8)) : Prop where
  k : Blk w g 113 #[.map (some m)]
  mp : Mq w m pairV rows
  own : ∀ q, w.ownsRow 0 28 1 ((rows q).getD nilV) (st q).length ((st q).map (·.1))
  el : ∀ q p, p ∈ st q → w.ownsRow 0 5 1 p.1 p.2.length (bytes8 p.2)
  drow : ∀ q q' b, ((rows q).getD nilV).ownBlock = some b → ((rows q').getD nilV).ownBlock = some b → q = q'
  del : ∀ (q q' : Int × Int) (i i' : Nat) (p p' : Value × List UInt8) (b : Nat), (st q)[i]? = some p → (st q')[i']? = some p' → p.1.ownBlock = some b → p'.1.ownBlock = some b → q = q' ∧ i = i'
  fg : F g
  fm : F m
  frow : ∀ q b, ((rows q).getD nilV).ownBlock = some b → F b
  fel : ∀ q p b, p ∈ st q → p.1.ownBlock = some b → F b
  lt : ∀ b, F b → b < w.heap.size
  cnt : ∀ q, (st q).length ≤ 1024
  sm : ∀ q p, p ∈ st q → p.2.length ≤ 1048576
section
variable {F H : Nat → Prop} {w w' w1 : World} {g m : Nat} {rows : Int × Int → Option Value} {st : Int × Int → List (Value × List UInt8)}
theorem NtJ.keep (h : NtJ F w g m rows st) (hc : Chg H w w') (ha : ∀ b, F b → ¬ H b) : NtJ F w' g m rows st := by
  have hk : ∀ b, F b → w'.heap[b]? = w.heap[b]? := fun b hb => hc.at_ (h.lt b hb) (ha b hb)
  exact ⟨h.k.at_block (hk g h.fg), h.mp.at_ (hk m h.fm), fun q => own_at (h.own q) (fun b hb => hk b (h.frow q b hb)), fun q p hp => own_at (h.el q p hp) (fun b hb => hk b (h.fel q p b hp hb)), h.drow, h.del, h.fg, h.fm, h.frow, h.fel,
    fun b hb => Nat.lt_of_lt_of_le (h.lt b hb) hc.size, h.cnt, h.sm⟩
theorem NtJ.below (h : NtJ F w g m rows st) (hb : Below w.heap.size w w') : NtJ F w' g m rows st := h.keep (Chg.of_below (F := fun _ => False) hb) (fun _ _ => id)
theorem own_not_map {K : Type} {enc : K → Value} {f : K → Option Value} {B n size : Nat} {e : TypeId} {v : Value} {xs : List Value} (h : w.ownsRow B e size v n xs) (hm : Mq w m enc f) : v.ownBlock ≠ some m := by
  intro hb
  obtain ⟨_, es, clock, h2, _⟩ := hm
  rcases h.2 with ⟨rfl, _⟩ | ⟨g', cap, cur, rfl, _, hh, _⟩
  · cases hb
  · injection hb with hb
    subst hb
    rw [hh] at h2
    cases h2
theorem Mq.not_blk {K : Type} {enc : K → Value} {f : K → Option Value} {t' : TypeId} {cs : Array Value} (h : Mq w m enc f) (hg : Blk w g t' cs) : g ≠ m := h.mp.not_blk hg
theorem own_two_ne {B1 B2 n1 n2 s1 s2 : Nat} {e1 e2 : TypeId} {v1 v2 : Value} {xs1 xs2 : List Value} (h1 : w.ownsRow B1 e1 s1 v1 n1 xs1) (h2 : w.ownsRow B2 e2 s2 v2 n2 xs2) (hne : e1 ≠ e2) {b : Nat} (hb : v1.ownBlock = some b) : v2.ownBlock ≠ some b := by
  intro hb2
  rcases h1.2 with ⟨rfl, _⟩ | ⟨g, c, cur, rfl, _, hg, _⟩
  · cases hb
  · rcases h2.2 with ⟨rfl, _⟩ | ⟨g2, c2, cur2, rfl, _, hg2, _⟩
    · cases hb2
    · injection hb with hb
      injection hb2 with hb2
      subst hb; subst hb2
      rw [hg] at hg2
      injection hg2 with hg2
      injection hg2 with _ e _
      exact hne e
def RowG (m : Nat) (V : Value) (b : Nat) : Prop := b = m ∨ V.ownBlock = some b
/-- What a step on one way (q's row, the map) leaves as it was. -/
theorem NtJ.off (h : NtJ F w g m rows st) (q : Int × Int) (hc : Chg (RowG m ((rows q).getD nilV)) w w') :
    Blk w' g 113 #[.map (some m)] ∧ (∀ q', q' ≠ q → w'.ownsRow 0 28 1 ((rows q').getD nilV) (st q').length ((st q').map (·.1))) ∧ ∀ q' p, p ∈ st q' → w'.ownsRow 0 5 1 p.1 p.2.length (bytes8 p.2) := by
  refine ⟨h.k.at_block (hc.at_ h.k.lt (fun e => ?_)), fun q' hq => own_at (h.own q') (fun b hb => hc.at_ (own_in (h.own q') hb) (fun e => ?_)), fun q' p hp => own_at (h.el q' p hp) (fun b hb => hc.at_ (own_in (h.el q' p hp) hb) (fun e => ?_))⟩
  · rcases e with e | e
    · exact h.mp.not_blk h.k e
    · exact own_blk_ne (h.own q) h.k (by decide) e
  · rcases e with e | e
    · subst e; exact own_not_map (h.own q') h.mp hb
    · exact hq (h.drow q' q b hb e)
  · rcases e with e | e
    · subst e; exact own_not_map (h.el q' p hp) h.mp hb
    · exact own_two_ne (h.el q' p hp) (h.own q) (by decide) hb e
/-- A message more. -/
theorem NtJ.push (h : NtJ F w g m rows st) (q : Int × Int) {u V' : Value} {x : List UInt8} (hb1 : Below w.heap.size w w1) (hu : w1.ownsRow w.heap.size 5 1 u x.length (bytes8 x)) (hx : x.length ≤ 1048576) (hl : (st q).length < 1024)
    (hc : Chg (RowG m ((rows q).getD nilV)) w1 w') (hm : Mq w' m pairV (updF rows q (some V'))) (ho : w'.ownsRow 0 28 1 V' ((st q).length + 1) ((st q).map (·.1) ++ [u]))
    (hV : V'.ownBlock = ((rows q).getD nilV).ownBlock ∨ ∃ b, V'.ownBlock = some b ∧ w.heap.size ≤ b) : NtJ (fun b => F b ∨ (w.heap.size ≤ b ∧ b < w'.heap.size)) w' g m (updF rows q (some V')) (updF st q (st q ++ [(u, x)])) := by
  have h1 := h.below hb1
  obtain ⟨k1, o1, e1⟩ := h1.off q hc
  have hw : w.heap.size ≤ w'.heap.size := Nat.le_trans hb1.size hc.size
  have hu' : w'.ownsRow 0 5 1 u x.length (bytes8 x) := own_mono (own_at hu (fun b hb => hc.at_ (own_in hu hb) (fun e => by
    rcases e with e | e
    · subst e; exact own_not_map hu h1.mp hb
    · exact own_two_ne hu (h1.own q) (by decide) hb e))) (Nat.zero_le _)
  have hub : ∀ b, u.ownBlock = some b → w.heap.size ≤ b ∧ b < w'.heap.size := fun b hb => ⟨(hu.lt b hb).1, own_in hu' hb⟩
  have hVb : ∀ b, V'.ownBlock = some b → ((rows q).getD nilV).ownBlock = some b ∨ w.heap.size ≤ b := fun b hb => by
    rcases hV with e | ⟨b', e, hle⟩
    · left; rw [← e]; exact hb
    · rw [e] at hb; injection hb with hb; subst hb; exact .inr hle
  have hV2 : ∀ q' b, q' ≠ q → ((rows q').getD nilV).ownBlock = some b → V'.ownBlock ≠ some b := fun q' b hq hb hb' => by
    rcases hVb b hb' with e | e
    · exact hq (h.drow q' q b hb e)
    · have := h.lt b (h.frow q' b hb); omega
  have hold : ∀ q' p, p ∈ st q' → ∀ b, p.1.ownBlock = some b → b < w.heap.size := fun q' p hp b hb => h.lt b (h.fel q' p b hp hb)
  have hat : ∀ q' i p, (updF st q (st q ++ [(u, x)]) q')[i]? = some p → (∃ p0, (st q')[i]? = some p ∧ p0 = p ∧ p ∈ st q') ∨ (q' = q ∧ i = (st q).length ∧ p = (u, x)) := fun q' i p hp => by
    by_cases hq : q' = q
    · subst hq
      rw [updF_self] at hp
      rcases Nat.lt_or_ge i (st q').length with hi | hi
      · rw [List.getElem?_append_left hi] at hp
        exact .inl ⟨p, hp, rfl, mem_of_at hp⟩
      · rw [List.getElem?_append_right hi] at hp
        have h0 : i - (st q').length = 0 := by
          rcases Nat.eq_zero_or_pos (i - (st q').length) with h | h
          · exact h
          · rw [List.getElem?_eq_none (by show [(u, x)].length ≤ _; exact h)] at hp; cases hp
        rw [h0] at hp
        exact .inr ⟨rfl, by omega, by simpa using hp.symm⟩
    · rw [updF_ne hq] at hp
      exact .inl ⟨p, hp, rfl, mem_of_at hp⟩
  have hmem : ∀ q' p, p ∈ updF st q (st q ++ [(u, x)]) q' → p ∈ st q' ∨ (q' = q ∧ p = (u, x)) := fun q' p hp => by
    by_cases hq : q' = q
    · subst hq
      rw [updF_self] at hp
      rcases List.mem_append.1 hp with hp | hp
      · exact .inl hp
      · exact .inr ⟨rfl, by simpa using hp⟩
    · rw [updF_ne hq] at hp
      exact .inl hp
  refine ⟨k1, hm, fun q' => ?_, fun q' p hp => ?_, fun q1 q2 b hb1' hb2 => ?_, fun q1 q2 i i' p p' b hp hp' hb hb' => ?_, .inl h.fg, .inl h.fm, fun q' b hb => ?_, fun q' p b hp hb => ?_, fun b hb => ?_, fun q' => ?_, fun q' p hp => ?_⟩
  · by_cases hq : q' = q
    · subst hq
      rw [updF_self, updF_self]
      simpa using ho
    · rw [updF_ne hq, updF_ne hq]; exact o1 q' hq
  · rcases hmem q' p hp with hp | ⟨_, rfl⟩
    · exact e1 q' p hp
    · exact hu'
  · by_cases h1q : q1 = q <;> by_cases h2q : q2 = q
    · rw [h1q, h2q]
    · subst h1q
      rw [updF_self] at hb1'
      rw [updF_ne h2q] at hb2
      exact absurd hb1' (hV2 q2 b h2q hb2)
    · subst h2q
      rw [updF_self] at hb2
      rw [updF_ne h1q] at hb1'
      exact absurd hb2 (hV2 q1 b h1q hb1')
    · rw [updF_ne h1q] at hb1'
      rw [updF_ne h2q] at hb2
      exact h.drow q1 q2 b hb1' hb2
  · rcases hat q1 i p hp with ⟨_, hp1, _, hm1⟩ | ⟨r1, r2, r3⟩ <;> rcases hat q2 i' p' hp' with ⟨_, hp2, _, hm2⟩ | ⟨s1, s2, s3⟩
    · exact h.del q1 q2 i i' p p' b hp1 hp2 hb hb'
    · subst s3
      have := hold q1 p hm1 b hb
      have := hub b hb'
      omega
    · subst r3
      have := hold q2 p' hm2 b hb'
      have := hub b hb
      omega
    · exact ⟨r1.trans s1.symm, r2.trans s2.symm⟩
  · by_cases hq : q' = q
    · subst hq
      rw [updF_self] at hb
      rcases hVb b hb with e | e
      · exact .inl (h.frow q' b e)
      · exact .inr ⟨e, own_in ho hb⟩
    · rw [updF_ne hq] at hb
      exact .inl (h.frow q' b hb)
  · rcases hmem q' p hp with hp | ⟨_, rfl⟩
    · exact .inl (h.fel q' p b hp hb)
    · exact .inr (hub b hb)
  · rcases hb with hb | hb
    · exact Nat.lt_of_lt_of_le (h.lt b hb) hw
    · exact hb.2
  · by_cases hq : q' = q
    · subst hq
      rw [updF_self, List.length_append]
      simp only [List.length_cons, List.length_nil]
      omega
    · rw [updF_ne hq]; exact h.cnt q'
  · rcases hmem q' p hp with hp | ⟨_, rfl⟩
    · exact h.sm q' p hp
    · exact hx
/-- A message fewer; its block is the net's no more. -/
theorem NtJ.take (h : NtJ F w g m rows st) (q : Int × Int) {V' : Value} {i : Nat} {p0 : Value × List UInt8} (hi : (st q)[i]? = some p0)
    (hc : Chg (RowG m ((rows q).getD nilV)) w w') (hm : Mq w' m pairV (updF rows q (some V'))) (ho : w'.ownsRow 0 28 1 V' ((st q).length - 1) (((st q).map (·.1)).eraseIdx i))
    (hV : ∀ b, V'.ownBlock = some b → ((rows q).getD nilV).ownBlock = some b) : NtJ (fun b => F b ∧ p0.1.ownBlock ≠ some b) w' g m (updF rows q (some V')) (updF st q ((st q).eraseIdx i)) ∧ w'.ownsRow 0 5 1 p0.1 p0.2.length (bytes8 p0.2) := by
  obtain ⟨k1, o1, e1⟩ := h.off q hc
  have hm0 := mem_of_at hi
  have hel := h.el q p0 hm0
  have hat : ∀ q' j p, (updF st q ((st q).eraseIdx i) q')[j]? = some p → ∃ j', (st q')[j']? = some p ∧ (q' = q → j' ≠ i) ∧ (q' ≠ q → j' = j) ∧ (q' = q → j' = if j < i then j else j + 1) := fun q' j p hp => by
    by_cases hq : q' = q
    · subst hq
      rw [updF_self, List.getElem?_eraseIdx] at hp
      split at hp
      · rename_i hlt
        exact ⟨j, hp, fun _ => by omega, fun hn => absurd rfl hn, fun _ => by rw [if_pos hlt]⟩
      · rename_i hlt
        exact ⟨j + 1, hp, fun _ => by omega, fun hn => absurd rfl hn, fun _ => by rw [if_neg hlt]⟩
    · rw [updF_ne hq] at hp
      exact ⟨j, hp, fun e => absurd e hq, fun _ => rfl, fun e => absurd e hq⟩
  have hmem : ∀ q' p, p ∈ updF st q ((st q).eraseIdx i) q' → ∃ j', (st q')[j']? = some p ∧ (q' = q → j' ≠ i) := fun q' p hp => by
    obtain ⟨j, hj⟩ := List.mem_iff_getElem?.1 hp
    obtain ⟨j', h1, h2, _⟩ := hat q' j p hj
    exact ⟨j', h1, h2⟩
  have hlen : i < (st q).length := lt_of_at hi
  refine ⟨⟨k1, hm, fun q' => ?_, fun q' p hp => ?_, fun q1 q2 b hb1 hb2 => ?_, fun q1 q2 j j' p p' b hp hp' hb hb' => ?_, ⟨h.fg, own_blk_ne hel h.k (by decide)⟩, ⟨h.fm, own_not_map hel h.mp⟩, fun q' b hb => ?_, fun q' p b hp hb => ?_, fun b hb => Nat.lt_of_lt_of_le (h.lt b hb.1) hc.size, fun q' => ?_, fun q' p hp => ?_⟩, e1 q p0 hm0⟩
  · by_cases hq : q' = q
    · subst hq
      rw [updF_self, updF_self, List.length_eraseIdx_of_lt hlen, ChangeMaps.map_eraseIdx]
      exact ho
    · rw [updF_ne hq, updF_ne hq]; exact o1 q' hq
  · obtain ⟨j', h1, _⟩ := hmem q' p hp
    exact e1 q' p (mem_of_at h1)
  · have hr : ∀ q' b, ((updF rows q (some V') q').getD nilV).ownBlock = some b → ((rows q').getD nilV).ownBlock = some b := fun q' b hb => by
      by_cases hq : q' = q
      · subst hq
        rw [updF_self] at hb
        exact hV b hb
      · rw [updF_ne hq] at hb; exact hb
    exact h.drow q1 q2 b (hr q1 b hb1) (hr q2 b hb2)
  · obtain ⟨i1, h1, _, n1, y1⟩ := hat q1 j p hp
    obtain ⟨i2, h2, _, n2, y2⟩ := hat q2 j' p' hp'
    obtain ⟨rfl, e⟩ := h.del q1 q2 i1 i2 p p' b h1 h2 hb hb'
    refine ⟨rfl, ?_⟩
    by_cases hq : q1 = q
    · have a1 := y1 hq
      have a2 := y2 hq
      split at a1 <;> split at a2 <;> omega
    · rw [← n1 hq, ← n2 hq]; exact e
  · have hb' : ((rows q').getD nilV).ownBlock = some b := by
      by_cases hq : q' = q
      · subst hq
        rw [updF_self] at hb
        exact hV b hb
      · rw [updF_ne hq] at hb; exact hb
    exact ⟨h.frow q' b hb', fun e => own_two_ne hel (h.own q') (by decide) e hb'⟩
  · obtain ⟨j', h1, h2⟩ := hmem q' p hp
    refine ⟨h.fel q' p b (mem_of_at h1) hb, fun e => ?_⟩
    obtain ⟨e1, e2⟩ := h.del q' q j' i p p0 b h1 hi hb e
    exact h2 e1 e2
  · by_cases hq : q' = q
    · subst hq
      rw [updF_self]
      have := List.length_eraseIdx_le (st q') i
      have := h.cnt q'
      omega
    · rw [updF_ne hq]; exact h.cnt q'
  · obtain ⟨j', h1, _⟩ := hmem q' p hp
    exact h.sm q' p (mem_of_at h1)
/-- A way is cleared. -/
theorem NtJ.clear (h : NtJ F w g m rows st) (q : Int × Int) (hc : Chg (fun b => b = m) w w') (hm : Mq w' m pairV (updF rows q none)) : NtJ F w' g m (updF rows q none) (updF st q []) := by
  have hc' : Chg (RowG m ((rows q).getD nilV)) w w' := hc.mono (fun b e => .inl (.inl e))
  obtain ⟨k1, o1, e1⟩ := h.off q hc'
  have hmem : ∀ q' p, p ∈ updF st q [] q' → p ∈ st q' := fun q' p hp => by
    by_cases hq : q' = q
    · subst hq; rw [updF_self] at hp; simp at hp
    · rw [updF_ne hq] at hp; exact hp
  have hr : ∀ q' b, ((updF rows q none q').getD nilV).ownBlock = some b → ((rows q').getD nilV).ownBlock = some b := fun q' b hb => by
    by_cases hq : q' = q
    · subst hq; rw [updF_self] at hb; cases hb
    · rw [updF_ne hq] at hb; exact hb
  have hat : ∀ q' (j : Nat) p, (updF st q [] q')[j]? = some p → (st q')[j]? = some p := fun q' j p hp => by
    by_cases hq : q' = q
    · subst hq; rw [updF_self] at hp; simp at hp
    · rw [updF_ne hq] at hp; exact hp
  refine ⟨k1, hm, fun q' => ?_, fun q' p hp => e1 q' p (hmem q' p hp), fun q1 q2 b hb1 hb2 => h.drow q1 q2 b (hr q1 b hb1) (hr q2 b hb2), fun q1 q2 j j' p p' b hp hp' => h.del q1 q2 j j' p p' b (hat q1 j p hp) (hat q2 j' p' hp'), h.fg, h.fm, fun q' b hb => h.frow q' b (hr q' b hb), fun q' p b hp => h.fel q' p b (hmem q' p hp), fun b hb => Nat.lt_of_lt_of_le (h.lt b hb) hc.size, fun q' => ?_, fun q' p hp => h.sm q' p (hmem q' p hp)⟩
  · by_cases hq : q' = q
    · subst hq
      rw [updF_self, updF_self]
      exact World.ownsRow_nil _ _ _ _
    · rw [updF_ne hq, updF_ne hq]; exact o1 q' hq
  · by_cases hq : q' = q
    · subst hq; rw [updF_self]; exact Nat.zero_le _
    · rw [updF_ne hq]; exact h.cnt q'
end
/-- A net that reads as S. -/
def NtI (F : Nat → Prop) (w : World) (g : Nat) (S : Int × Int → List (List UInt8)) : Prop := ∃ m rows st, NtJ F w g m rows st ∧ ∀ q, S q = (st q).map (·.2)
/-- A net behind a call: of what it may have changed. -/
def NtN (F : Nat → Prop) (g : Nat) (S : Int × Int → List (List UInt8)) (w w' : World) : Prop := ∃ F', NtI F' w' g S ∧ (∀ b, F' b → F b ∨ w.heap.size ≤ b) ∧ Chg F w w'
end Go.Proofs.Ytflamhndmggiaaa
/-
  Contracts: slices.Delete of rows of bytes, over a row that is owned.
-/
namespace Go.Proofs.Ytflamhndmggiaaa
open Go.RowKit

theorem blk_setCells {g : Nat} {t : TypeId} : ∀ (vs : List Value) (o : Nat) (w : World) (cs : Array Value), Blk w g t cs → o + vs.length ≤ cs.size → ∃ cs', Blk (w.setCells g o vs) g t cs' ∧ cs'.size = cs.size ∧ (∀ j, j < o ∨ o + vs.length ≤ j → cs'[j]? = cs[j]?) ∧ ∀ j, j < vs.length → cs'[o + j]? = vs[j]?
  | [], o, w, cs, h, _ => ⟨cs, h, rfl, fun _ _ => rfl, fun j hj => absurd hj (Nat.not_lt_zero _)⟩
  | v :: r, o, w, cs, h, hl => by
    simp only [List.length_cons] at hl
    obtain ⟨cs', h1, h2, h3, h4⟩ := blk_setCells r (o + 1) (w.setCell ⟨g, o, none⟩ v) (cs.setIfInBounds o v) (h.set_ o v) (by simp; omega)
    refine ⟨cs', h1, by simpa using h2, fun j hj => ?_, fun j hj => ?_⟩
    · simp only [List.length_cons] at hj
      rw [h3 j (by omega), Array.getElem?_setIfInBounds_ne (by omega)]
    · cases j with
      | zero =>
        rw [Nat.add_zero, h3 o (by omega)]
        simp only [List.getElem?_cons_zero]
        rw [Array.getElem?_setIfInBounds_self_of_lt (by omega)]
      | succ j =>
        simp only [List.length_cons] at hj
        rw [show o + (j + 1) = o + 1 + j by omega, h4 j (by omega)]
        simp
theorem chg_setCells {F : Nat → Prop} {w : World} {g : Nat} (hg : F g) : ∀ (vs : List Value) (o : Nat) (w' : World), Chg F w w' → Chg F w (w'.setCells g o vs)
  | [], _, _, h => h
  | v :: r, o, w', h => chg_setCells hg r (o + 1) _ (h.setCell (p := ⟨g, o, none⟩) (.inl hg) v)
theorem info_bs : (Try.prog.info? 28).map (fun i => (i.zero, i.size, i.bytes)) = some (some (.slice none 0 0), 1, 24) := by kernel_rfl
theorem zero_bs (w : World) : (zeroValue 28).run Try.prog w = .ok (.slice none 0 0) w := by kernel_rfl
theorem erase_take {α : Type} (l : List α) (i : Nat) (h : i < l.length) : ∀ j, (l.eraseIdx i)[j]? = if j < i then l[j]? else l[j + 1]? := fun j => by rw [List.getElem?_eraseIdx]
set_option maxHeartbeats 4000000 in
set_option maxRecDepth 1000000 in
theorem slices_Delete_rows {B gr c n i : Nat} {vals : List Value} (w : World) (hown : w.ownsRow B 28 1 (.slice (some ⟨gr, 0, none⟩) n c) n vals) (hi : i < n) (hone : ∀ u ∈ vals, u.oneCell' = true) :
    Calls Try.prog 75 #[.slice (some ⟨gr, 0, none⟩) n c, .int .i64 (i : Int), .int .i64 ((i + 1 : Nat) : Int)] w fun e w' => e = .returned (.slice (some ⟨gr, 0, none⟩) (n - 1) c) ∧ w'.ownsRow B 28 1 (.slice (some ⟨gr, 0, none⟩) (n - 1) c) (n - 1) (vals.eraseIdx i) ∧ Chg (fun b => b = gr) w w' := by
  obtain ⟨i0, hi0, hz0, hz1, hz2⟩ := info_parts info_bs
  obtain ⟨hlen0, hh⟩ := hown
  rcases hh with ⟨h0, _⟩ | ⟨g', cap, cur, hv, hB, hg, hn, hc, hs, ht⟩
  · cases h0
  injection hv with hA _ hcc
  injection hA with hA
  injection hA with hA
  subst hA; subst hcc
  rw [Nat.mul_one] at hs hlen0 ht
  have hcur : ∀ j, j < n → cur[j]? = vals[j]? := fun j hj => by
    rw [← ht, List.getElem?_take_of_lt hj, Array.getElem?_toList]
  obtain ⟨news, hnews⟩ : ∃ news, news = vals.drop (i + 1) := ⟨_, rfl⟩
  have hlen : news.length = n - (i + 1) := by rw [hnews, List.length_drop, hlen0]
  have hblk : Blk w gr 28 cur := hg
  have hcell : ∀ j, j < c → ∃ u, cur[j]? = some u ∧ w.cell? ⟨gr, j, none⟩ = some u := fun j hj => ⟨cur[j]'(by omega), Array.getElem?_eq_getElem (by omega), by rw [hblk.cell]; exact Array.getElem?_eq_getElem (by omega)⟩
  obtain ⟨A, hA, hsrc⟩ : ∃ A : Addr, (if c = i + 1 then some (⟨gr, 0, none⟩ : Addr) else some ⟨gr, i + 1, none⟩) = some A ∧ Hid (∀ t u, news[t]? = some u → w.drew.cell? (A.add t) = some u) := by
    by_cases h : c = i + 1
    · refine ⟨⟨gr, 0, none⟩, by simp [h], fun t u hu => ?_⟩
      have h0 : news.length = 0 := by rw [hlen]; omega
      rw [List.length_eq_zero_iff.1 h0] at hu
      simp at hu
    · refine ⟨⟨gr, i + 1, none⟩, by simp [h], fun t u hu => ?_⟩
      have htl : t < n - (i + 1) := by
        have := (List.getElem?_eq_some_iff.1 hu).1
        rwa [hlen] at this
      rw [hnews, List.getElem?_drop, ← hcur _ (by omega)] at hu
      rw [Addr.add_lit]
      show w.cell? _ = _
      rw [hblk.cell]; exact hu
  have s1 : Hid (news.length = (n - (i + 1)) * 1) := by rw [Nat.mul_one]; exact hlen
  have s2 : Hid (∀ u ∈ news, u.oneCell' = true) := fun u hu => hone u (List.mem_of_mem_drop (hnews ▸ hu))
  have s3 : Hid (∀ t, t < news.length → (w.drew.cell? ⟨gr, 0 + i * 1 + t, none⟩).isSome = true ∧ w.drew.frozen? ⟨gr, 0 + i * 1 + t, none⟩ = false) := by
    intro t ht
    rw [hlen] at ht
    obtain ⟨u, _, hu⟩ := hcell (0 + i * 1 + t) (by omega)
    exact ⟨by show (w.cell? _).isSome = true; rw [hu]; rfl, hblk.frozen _⟩
  obtain ⟨W1, hW1⟩ : ∃ W1, W1 = w.drew.setCells gr (0 + i * 1) news := ⟨_, rfl⟩
  obtain ⟨cs1, k1, z1, o1, n1⟩ := blk_setCells news (0 + i * 1) w.drew cur hblk (by omega)
  rw [← hW1] at k1
  have c1 : Chg (fun b => b = gr) w W1 := by rw [hW1]; exact chg_setCells (F := fun b => b = gr) rfl _ _ _ ((Chg.refl _ w).drewN 1)
  obtain ⟨cs2, k2, z2, o2, n2⟩ := blk_setCells (List.replicate (n - (i + (n - (i + 1)))) (.slice none 0 0)) (i + (n - (i + 1))) W1 cs1 k1 (by rw [List.length_replicate]; omega)
  have c2 : Chg (fun b => b = gr) w (W1.setCells gr (i + (n - (i + 1))) (List.replicate (n - (i + (n - (i + 1)))) (.slice none 0 0))) := chg_setCells (F := fun b => b = gr) rfl _ _ _ c1
  have hcl : ∀ ty, (Builtin.clear_ #[57] ty #[.slice (some ⟨gr, i + (n - (i + 1)), none⟩) (n - (i + (n - (i + 1)))) (c - (i + (n - (i + 1))))]).run Try.prog W1 = .ok (.tuple #[]) (W1.setCells gr (i + (n - (i + 1))) (List.replicate (n - (i + (n - (i + 1)))) (.slice none 0 0))) := fun ty =>
    Lib.run_clear_slice W1 _ _ ty _ Try.underlying57 zero_bs rfl rfl gr (i + (n - (i + 1))) _ _ (by omega) (fun t ht => by rw [k1.cell]; simp; omega) (fun t ht => k1.frozen _)
  have R : Hid ((W1.setCells gr (i + (n - (i + 1))) (List.replicate (n - (i + (n - (i + 1)))) (.slice none 0 0))).ownsRow B 28 1 (.slice (some ⟨gr, 0, none⟩) (n - 1) c) (n - 1) (vals.eraseIdx i)) := by
    refine ⟨by rw [List.length_eraseIdx_of_lt (by omega), hlen0, Nat.mul_one], .inr ⟨gr, c, cs2, rfl, hB, k2, by omega, hc, by omega, ?_⟩⟩
    rw [Nat.mul_one]
    refine List.ext_getElem? fun j => ?_
    rw [List.getElem?_eraseIdx]
    rcases Nat.lt_or_ge j (n - 1) with hj | hj
    · rw [List.getElem?_take_of_lt hj, Array.getElem?_toList, o2 j (.inl (by omega))]
      by_cases hji : j < i
      · rw [if_pos hji, o1 j (.inl (by omega)), hcur j (by omega)]
      · rw [if_neg hji]
        have := n1 (j - i) (by omega)
        rw [show 0 + i * 1 + (j - i) = j by omega] at this
        rw [this, hnews, List.getElem?_drop, show i + 1 + (j - i) = j + 1 by omega]
    · rw [List.getElem?_eq_none (by rw [List.length_take]; omega)]
      split
      · rw [List.getElem?_eq_none (by omega)]
      · rw [List.getElem?_eq_none (by omega)]
  have HC := hide c2
  have hW : Hid (W1 = w.drew.setCells gr (0 + i * 1) news) := hW1
  have hic : i ≤ c := by omega
  have hjc : i + 1 ≤ c := by omega
  have hne : ¬ i = i + 1 := by omega
  have hij : i ≤ i + 1 := by omega
  have hjn : i + 1 ≤ n := by omega
  have hm : c ≤ 9223372036854775807 := by unfold maxLen at hc; exact hc
  generalize hj : i + 1 = j at *
  clear hW1 hcell hnews hlen hcur hblk hg hs ht hB o1 n1 o2 n2 z1 z2 k1 k2 c1 c2 hlen0 hone hc
  go_enter Try.func75, Try.ntmps75
  go_wp2_with fail
  go_region_law (refine step_append_room rfl (.tmp 22) (.tmp 25) 57 rfl 28 i0 1 Try.underlying57 hi0 hz1 gr 0 i c (by simp [Act.eval, Act.put]) A (n - j) (c - j) news (by simp [Act.eval, Act.put]) s1.out hsrc.out s2.out (by omega) s3.out ?_; rw [← hW.out])
  go_wp2
  go_ret
  exact ⟨by rw [show n - 1 = i + (n - j) by omega]; rfl, R.out, HC.out⟩
end Go.Proofs.Ytflamhndmggiaaa
