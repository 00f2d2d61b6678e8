/-
  Texts joined: words and contracts that later texts use; lemmas alone, no conditions of a statement.
-/
import Derived.WalkKit
import Derived.WalkSpells
import Derived.WalkLawsBesides
import Derived.Below
import Derived.Laws.OwnMore
import Derived.Deep.AppendLies
import Derived.Deep.Draws
import Derived.Lib.Hide
import Derived.Laws.BitsAllLaws
import Derived.Laws.BitsLemmas
import Derived.ScopeJumps
import Derived.WalkMore
import Derived.BigQuiet
import Derived.Deep.QuietTactic
import Derived.Test.YtebaojcfmkobjaaRows
import Derived.ProofKit
import Derived.ChangeSame
import Derived.Deep.Slices
import Derived.Deep.Fields
import Derived.OpenShut
import Derived.Laws.Rows
import Derived.Laws.CopyRow
import Derived.Deep.LoopGhost
import Derived.Deep.MidRow
set_option linter.unusedVariables false
set_option linter.unusedSimpArgs false
/-
  Words for memory, over any program: a slice that reads as a list of cells ('Sl'), of ints, of texts; what is kept of it as the world goes on. Lemmas alone, no conditions of a statement.
-/
namespace Go.Proofs.Ytebaojcfmkobjaa
open Go.RowKit

theorem ret_bool {a b : Bool} (h : a = b) : Ending.returned (.bool a) = .returned (.bool b) := by rw [h]
theorem ret_int {k : IntKind} {a b : Int} (h : a = b) : Ending.returned (.int k a) = .returned (.int k b) := by rw [h]

/-- api.OK or api.ErrForm. -/
def formE (ok : Bool) : Int := if ok then 0 else 1
def orZero (ok : Bool) (n : Int) : Int := if ok then n else 0
theorem formE_true : formE true = 0 := rfl
theorem formE_false : formE false = 1 := rfl
theorem orZero_true (n : Int) : orZero true n = n := rfl
theorem orZero_false (n : Int) : orZero false n = 0 := rfl
attribute [go_sem] formE_true formE_false orZero_true orZero_false

theorem hide {p : Prop} (h : p) : Hid p := h
theorem below_drewN {B : Nat} {a w : World} (h : Below B a w) (n : Nat) : Below B a (w.drewN n) := ⟨h.os, h.tape, h.output, h.size, h.block⟩
theorem lt_of_cell {w : World} {p : Addr} {v : Value} (h : w.cell? p = some v) : p.block < w.heap.size := by
  unfold World.cell? at h
  rcases Nat.lt_or_ge p.block w.heap.size with hlt | hge
  · exact hlt
  · rw [Array.getElem?_eq_none hge] at h; cases h
theorem spot_of_cell {w : World} {p : Addr} {v : Value} (h : w.cell? p = some v) : p.spot = none := by
  unfold World.cell? at h
  split at h
  · cases hs : p.spot with
    | none => rfl
    | some x => simp [hs] at h
  · cases h
theorem addr_eta {p : Addr} (h : p.spot = none) : p = ⟨p.block, p.off, none⟩ := by cases p; simp_all
theorem add_lit (b o j : Nat) : (⟨b, o, none⟩ : Addr).add j = ⟨b, o + j, none⟩ := by unfold Addr.add; split <;> simp_all

/-- The slice's value '.slice A n c' has n elements of 'size' cells each, which are the cells cs. -/
def Sl (w : World) (size : Nat) (A : Option Addr) (n : Nat) (cs : List Value) : Prop :=
  cs.length = n * size ∧ (0 < n → ∃ b off, A = some ⟨b, off, none⟩ ∧ b < w.heap.size ∧ ∀ j u, cs[j]? = some u → w.cell? ⟨b, off + j, none⟩ = some u)

section
variable {w w' : World} {size n : Nat} {A : Option Addr} {cs : List Value}
theorem Sl.nil_ : Sl w size A 0 [] := ⟨by simp, fun h => absurd h (by omega)⟩
theorem Sl.keep (h : Sl w size A n cs) (hs : w.heap.size ≤ w'.heap.size) (hk : ∀ p : Addr, p.block < w.heap.size → w'.cell? p = w.cell? p) : Sl w' size A n cs :=
  ⟨h.1, fun hn => by
    obtain ⟨b, off, e, hb, hc⟩ := h.2 hn
    exact ⟨b, off, e, by omega, fun j u hu => (hk _ hb).trans (hc j u hu)⟩⟩
theorem Sl.below (h : Sl w size A n cs) (hb : Below w.heap.size w w') : Sl w' size A n cs := h.keep hb.size fun _ hp => hb.cell hp
theorem Sl.drew (h : Sl w size A n cs) : Sl w.drew size A n cs := h
theorem Sl.drewN (h : Sl w size A n cs) (k : Nat) : Sl (w.drewN k) size A n cs := h
theorem Sl.alloc (h : Sl w size A n cs) (o : Obj) : Sl (w.alloc o) size A n cs := h.below ((Below.refl _ _).alloc (Nat.le_refl _) o)
theorem Sl.of_own {base : Nat} {e : TypeId} {c : Nat} (h : w.ownsRow base e size (.slice A n c) n cs) : Sl w size A n cs := by
  refine ⟨h.1, fun hn => ?_⟩
  obtain ⟨g, cap, hv, _, hlt⟩ := h.form hn
  have hA : A = some ⟨g, 0, none⟩ := by injection hv
  subst hA
  refine ⟨g, 0, rfl, hlt, fun j u hu => ?_⟩
  have := h.cells (g := g) rfl j u hu
  rwa [add_lit] at this
theorem own_slice {base : Nat} {e : TypeId} {v : Value} (h : w.ownsRow base e size v n cs) : ∃ A c, v = .slice A n c := by
  rcases h.2 with ⟨rfl, rfl⟩ | ⟨g, cap, cur, rfl, _⟩
  · exact ⟨_, _, rfl⟩
  · exact ⟨_, _, rfl⟩
theorem own_slice_cap {base : Nat} {e : TypeId} {v : Value} (h : w.ownsRow base e size v n cs) : ∃ A c, v = .slice A n c ∧ n ≤ c ∧ c ≤ maxLen := by
  rcases h.2 with ⟨rfl, rfl⟩ | ⟨g, cap, cur, rfl, _, _, h1, h2, _⟩
  · exact ⟨_, _, rfl, Nat.le_refl _, by simp⟩
  · exact ⟨_, _, rfl, h1, h2⟩
theorem Sl.take (h : Sl w size A n cs) {k : Nat} (hk : k ≤ n) : Sl w size A k (cs.take (k * size)) := by
  refine ⟨by rw [List.length_take, h.1]; exact Nat.min_eq_left (Nat.mul_le_mul_right _ hk), fun hn => ?_⟩
  obtain ⟨b, off, e, hb, hcell⟩ := h.2 (by omega)
  exact ⟨b, off, e, hb, fun j u hu => hcell j u (by
    rw [List.getElem?_take] at hu
    split at hu
    · exact hu
    · cases hu)⟩
end

/-- ints, as cells; texts, as cells. -/
def ints (xs : List Int) : List Value := xs.map (Value.int .i64)
def strs (xs : List ByteArray) : List Value := xs.map Value.string
def bytes8 (xs : List UInt8) : List Value := xs.map fun b => Value.int .u8 b.toNat
theorem ints_len (xs : List Int) : (ints xs).length = xs.length := by simp [ints]
theorem strs_len (xs : List ByteArray) : (strs xs).length = xs.length := by simp [strs]
theorem bytes8_len (xs : List UInt8) : (bytes8 xs).length = xs.length := by simp [bytes8]

section
variable {w w' : World} {n : Nat} {A : Option Addr}
theorem Sl.ilen {xs : List Int} (h : Sl w 1 A n (ints xs)) : xs.length = n := by have := h.1; rw [ints_len] at this; omega
theorem Sl.slen {xs : List ByteArray} (h : Sl w 1 A n (strs xs)) : xs.length = n := by have := h.1; rw [strs_len] at this; omega
theorem Sl.blen {xs : List UInt8} (h : Sl w 1 A n (bytes8 xs)) : xs.length = n := by have := h.1; rw [bytes8_len] at this; omega
theorem Sl.int {xs : List Int} (h : Sl w 1 A n (ints xs)) {k : Nat} (hk : k < n) : ∃ b off u, A = some ⟨b, off, none⟩ ∧ Hid (xs[k]? = some u) ∧ w.cell? ⟨b, off + k, none⟩ = some (.int .i64 u) ∧ b < w.heap.size := by
  obtain ⟨b, off, e, hb, hc⟩ := h.2 (by omega)
  have hl : k < xs.length := by rw [h.ilen]; exact hk
  exact ⟨b, off, xs[k], e, List.getElem?_eq_getElem hl, hc k _ (by simp [ints, List.getElem?_eq_getElem hl]), hb⟩
theorem Sl.str {xs : List ByteArray} (h : Sl w 1 A n (strs xs)) {k : Nat} (hk : k < n) : ∃ b off u, A = some ⟨b, off, none⟩ ∧ Hid (xs[k]? = some u) ∧ w.cell? ⟨b, off + k, none⟩ = some (.string u) ∧ b < w.heap.size := by
  obtain ⟨b, off, e, hb, hc⟩ := h.2 (by omega)
  have hl : k < xs.length := by rw [h.slen]; exact hk
  exact ⟨b, off, xs[k], e, List.getElem?_eq_getElem hl, hc k _ (by simp [strs, List.getElem?_eq_getElem hl]), hb⟩
theorem Sl.byte {xs : List UInt8} (h : Sl w 1 A n (bytes8 xs)) {k : Nat} (hk : k < n) : ∃ b off u, A = some ⟨b, off, none⟩ ∧ Hid (xs[k]? = some u) ∧ w.cell? ⟨b, off + k, none⟩ = some (.int .u8 (u.toNat : Int)) ∧ b < w.heap.size := by
  obtain ⟨b, off, e, hb, hc⟩ := h.2 (by omega)
  have hl : k < xs.length := by rw [h.blen]; exact hk
  exact ⟨b, off, xs[k], e, List.getElem?_eq_getElem hl, hc k _ (by simp [bytes8, List.getElem?_eq_getElem hl]), hb⟩
end

theorem take_at {α : Type} {l : List α} {k : Nat} {u : α} (h : l[k]? = some u) : l.take (k + 1) = l.take k ++ [u] := by
  obtain ⟨hk, rfl⟩ := List.getElem?_eq_some_iff.1 h
  exact List.take_succ_eq_append_getElem hk
theorem lt_of_at {α : Type} {l : List α} {k : Nat} {u : α} (h : l[k]? = some u) : k < l.length := (List.getElem?_eq_some_iff.1 h).1
theorem mem_of_at {α : Type} {l : List α} {k : Nat} {u : α} (h : l[k]? = some u) : u ∈ l := by
  obtain ⟨hk, rfl⟩ := List.getElem?_eq_some_iff.1 h
  exact List.getElem_mem hk
theorem drop_at {α : Type} {l : List α} {k : Nat} {u : α} (h : l[k]? = some u) : l.drop k = u :: l.drop (k + 1) := by
  obtain ⟨hk, rfl⟩ := List.getElem?_eq_some_iff.1 h
  exact List.drop_eq_getElem_cons hk

theorem cell_new (w : World) (o : Array Value) (t : TypeId) (j : Nat) : (w.alloc (.cells o t)).cell? ⟨w.heap.size, j, none⟩ = o[j]? := by
  have h := heap_alloc_new w (.cells o t)
  simp only [World.cell?]
  rw [h]
  rfl
theorem news_one (w : World) (u : Value) (t : TypeId) : ∀ j v, [u][j]? = some v → (w.alloc (.cells #[u] t)).cell? ((⟨w.heap.size, 0, none⟩ : Addr).add j) = some v := by
  intro j v hv
  rw [add_lit, cell_new]
  match j, hv with
  | 0, hv => simpa using hv
theorem one_int (k : IntKind) (n : Int) : ∀ u ∈ [Value.int k n], u.oneCell' = true := by intro u hu; simp at hu; subst hu; rfl
/-- Block g is just the cells cs of element type t, none frozen. -/
def Blk (w : World) (g : Nat) (t : TypeId) (cs : Array Value) : Prop := w.heap[g]? = some (.cells cs t (0, 0))

section
variable {w w' : World} {g : Nat} {t : TypeId} {cs : Array Value}
theorem Blk.lt (h : Blk w g t cs) : g < w.heap.size := by
  rcases Nat.lt_or_ge g w.heap.size with hlt | hge
  · exact hlt
  · unfold Blk at h; rw [Array.getElem?_eq_none hge] at h; cases h
theorem Blk.cell (h : Blk w g t cs) (i : Nat) : w.cell? ⟨g, i, none⟩ = cs[i]? := cell_of_row w g i cs t (0, 0) h
theorem Blk.at_ (h : Blk w g t cs) {i : Nat} {v : Value} (hi : cs[i]? = some v) : w.cell? ⟨g, i, none⟩ = some v := (h.cell i).trans hi
theorem Blk.frozen (h : Blk w g t cs) (i : Nat) : w.frozen? ⟨g, i, none⟩ = false := by
  unfold Blk at h
  simp [World.frozen?, h]
theorem Blk.new (w : World) (t : TypeId) (cs : Array Value) : Blk (w.alloc (.cells cs t)) w.heap.size t cs := heap_alloc_new w _
theorem Blk.drew (h : Blk w g t cs) : Blk w.drew g t cs := h
theorem Blk.drewN (h : Blk w g t cs) (n : Nat) : Blk (w.drewN n) g t cs := h
theorem Blk.alloc (h : Blk w g t cs) (o : Obj) : Blk (w.alloc o) g t cs := (Below.heap_alloc w o g h.lt).trans h
theorem Blk.set_ (h : Blk w g t cs) (i : Nat) (u : Value) : Blk (w.setCell ⟨g, i, none⟩ u) g t (cs.setIfInBounds i u) := by
  unfold Blk at h ⊢
  simp [World.setCell, Array.getElem?_modify, h]
theorem Blk.far (h : Blk w g t cs) {p : Addr} (hp : g ≠ p.block) (u : Value) : Blk (w.setCell p u) g t cs := (Below.heap_setCell w p u g hp).trans h
theorem Blk.below {B : Nat} (h : Blk w g t cs) (hb : Below B w w') (hg : g < B) : Blk w' g t cs := (hb.block g hg).trans h
theorem Blk.later (h : Blk w g t cs) (hb : Below w.heap.size w w') : Blk w' g t cs := h.below hb h.lt
theorem Blk.grown {row : Option Nat} (h : Blk w g t cs) (hb : w.grownBy w' row) (hg : some g ≠ row) : Blk w' g t cs := (hb.block g h.lt hg).trans h
theorem Blk.ne_ {g' : Nat} {t' : TypeId} {cs' : Array Value} (h : Blk w g t cs) (h' : Blk w g' t' cs') (hne : t ≠ t') : g ≠ g' := by
  rintro rfl
  unfold Blk at h h'
  rw [h] at h'
  injection h' with h'
  injection h' with _ ht
  exact hne ht
theorem own_blk_ne {base : Nat} {e : TypeId} {size n : Nat} {v : Value} {xs : List Value} (h : w.ownsRow base e size v n xs) (hg : Blk w g t cs) (hne : e ≠ t) : v.ownBlock ≠ some g := by
  rcases h.2 with ⟨rfl, _⟩ | ⟨g', cap, cur, rfl, _, hh, _⟩
  · simp [Value.ownBlock]
  · intro he
    have : g' = g := by simpa [Value.ownBlock] using he
    subst this
    exact Blk.ne_ (t := e) hh hg hne rfl
end

/-- A scope in which the run jumps back to one label, which it first comes to from above. -/
theorem scope_loop {P : Program} {a : Act} {w : World} {Q : Exit → Act → World → Prop} {c rest : Code} (l : Nat) (J : Act → World → Prop) (μ : Act → World → Nat) (hf : findLabel c l = some (Code.skip.seq rest))
    (pass : ∀ a w, J a w → rest.wp P (Exit.jump l (fun a' w' => J a' w' ∧ μ a' w' < μ a w) Q) a w)
    (first : (∀ a w, J a w → rest.wp P (Exit.jump l J Q) a w) → c.wp P (Exit.jump l J Q) a w) : (Code.scope c).wp P Q a w :=
  wp_scope_jumps l J μ hf (first fun a w hJ => wp_mono (pass a w hJ) (fun e a' w' h => by
    cases e with
    | goto l' => exact ⟨h.1, h.2.1⟩
    | _ => exact h)) (fun a w hJ => wp_seq (wp_skip (pass a w hJ)))
theorem Exit.jump_ret {l : Nat} {J : Act → World → Prop} {Q : Exit → Act → World → Prop} {a : Act} {w : World} : Exit.jump l J Q .ret a w = Q .ret a w := rfl
theorem Exit.jump_normal {l : Nat} {J : Act → World → Prop} {Q : Exit → Act → World → Prop} {a : Act} {w : World} : Exit.jump l J Q .normal a w = Q .normal a w := rfl
theorem Exit.jump_exit {l i : Nat} {J : Act → World → Prop} {Q : Exit → Act → World → Prop} {a : Act} {w : World} : Exit.jump l J Q (.exit i) a w = Q (.exit i) a w := rfl
theorem Exit.jump_goto {l : Nat} {J : Act → World → Prop} {Q : Exit → Act → World → Prop} {a : Act} {w : World} (h : J a w) : Exit.jump l J Q (.goto l) a w := ⟨rfl, h⟩
theorem Exit.then_goto {l : Nat} {K : Act → World → Prop} {Q : Exit → Act → World → Prop} {a : Act} {w : World} (h : Q (.goto l) a w) : Exit.then K Q (.goto l) a w := h
theorem Exit.inBlock_goto {l i : Nat} {Q : Exit → Act → World → Prop} {a : Act} {w : World} (h : Q (.goto l) a w) : Exit.inBlock i Q (.goto l) a w := h
attribute [go_sem] Exit.jump_ret Exit.jump_normal Exit.jump_exit
/-- Bits at int, both sides not below 0. -/
theorem ofInt_i64 (a : Nat) (ha : a < 9223372036854775808) : (BitVec.ofInt 64 (a : Int)).toNat = a := by
  rw [BitVec.ofInt_natCast, BitVec.toNat_ofNat]; exact Nat.mod_eq_of_lt (by omega)
theorem i64_or_nat (a b : Nat) (ha : a < 9223372036854775808) (hb : b < 9223372036854775808) : bits .or .i64 (a : Int) (b : Int) = ((a ||| b : Nat) : Int) := by
  have hx : a ||| b < 2 ^ 63 := Nat.or_lt_two_pow (by omega) (by omega)
  show IntKind.i64.wrap ((BitVec.ofInt 64 (a : Int) ||| BitVec.ofInt 64 (b : Int)).toNat : Int) = _
  rw [BitVec.toNat_or, ofInt_i64 a ha, ofInt_i64 b hb, IntKind.wrap_i64]
  omega
end Go.Proofs.Ytebaojcfmkobjaa
/-
  What every law's last step needs: a law over one argument that is only read, whose call answers true and changes nothing that was there: the rest of the row.
-/
namespace Go.Proofs.Ytebaojcfmkobjaa
open Go.ChangeShapes Go.WideShapes Go.ChangeAt Go.RowKit Go.Deep

theorem own : ownKnob Try.prog.godebug = none := by kernel_rfl
theorem laidOut : laidOutB Try.prog = true := by kernel_rfl

section
variable {H : Type} {enc : TypeId × Value → H} {P : Program}
/-- The row's last step where only what is new has changed. -/
theorem post_of_below {f : Func} {s : ChangeSpec} {apart fresh handsOn again : Bool} {W W' : World} {args : Array Value} {v : Value} {ds gs : List (DataW H)} {before pa pv : List MemPlace}
    (hW : DataW.Whole enc P f.params.toList s.vars apart W args.toList ds gs before)
    (hres : ∀ (b : Nat) (sp : Nat → Bool) (hd : Bool), DataW.TrodAll enc P W' b sp hd f.resultTypes.toList (v.resultList f.resultTypes.size) (s.fn H (ds ++ gs)).results [])
    (hargs : ∀ sp : Nat → Bool, (∀ p ∈ before, sp p.block = true) → DataW.TrodAll enc P W' 0 sp true f.params.toList args.toList (s.fn H (ds ++ gs)).args pa)
    (hvars : ∀ sp : Nat → Bool, (∀ p ∈ before, sp p.block = true) → DataW.TrodVars enc P W' sp s.vars (s.fn H (ds ++ gs)).vars pv)
    (hps : before = pa ++ pv) (hb : Below W.heap.size W W')
    (hok : ∀ (j : Nat) (t : TypeId) (r : Value), f.resultTypes[j]? = some t → (v.resultList f.resultTypes.size)[j]? = some r → Value.okWide P W' .any 0 t r) :
    s.post enc P f apart fresh handsOn again W args v W' := by
  have hlt : ∀ p ∈ before, p.block < W.heap.size := fun p hp => hW.lt p hp
  have hold : ∀ p ∈ before, (fun b => decide (b < W.heap.size)) p.block = true := fun p hp => by simpa using hlt p hp
  refine ⟨ds, gs, before, [], pa, pv, hW, hres _ _ _, hargs _ hold, hvars _ hold, World.keptBut_mono (fun p hp => ⟨hp, ?_⟩) (hb.frame (· ∈ before)), fun _ => ?_⟩
  · rw [hps, List.mem_append] at hp
    exact Or.inr hp
  · obtain ⟨_, _, _, _, _, hz, hn⟩ := hW
    refine ⟨hok, _, _, ([] ++ pa) ++ pv, ⟨[] ++ pa, pv, trodAll_append (hargs _ (fun _ _ => rfl)) (hres _ _ _), hvars _ (fun _ _ => rfl), rfl, ?_, ?_⟩, ?_⟩
    · intro b off hp
      have hin : MemPlace.cell b off ∈ before := by rw [hps]; simpa using hp
      rw [hb.frozen (hlt _ hin)]
      exact hz b off hin
    · intro ha
      have := hn ha
      rw [hps] at this
      simpa using this
    · intro p hp _
      rw [hps]
      simpa using hp
end

section
variable {H : Type} {enc : TypeId × Value → H} {P : Program} {w : World} {base : Nat} {spare : Nat → Bool} {held : Bool}
theorem trod_int64 {t : TypeId} {fuel : Nat} {v : Value} {x : DataW H × List MemPlace} (ht : P.underlying t = some (.int .i64)) (h : DataW.trod enc P w base spare held fuel t [v] = some x) :
    ∃ z, v = .int .i64 z ∧ -9223372036854775808 ≤ z ∧ z ≤ 9223372036854775807 := by
  obtain ⟨z, hv, _, hw⟩ := DataW.trod_int ht h
  refine ⟨z, by simpa using hv, ?_⟩
  simpa [Lit.wf, IntKind.min, IntKind.max, IntKind.signed, IntKind.bits] using hw
end
end Go.Proofs.Ytebaojcfmkobjaa
/-
  A region walked over a frame that is known by facts alone: 'Frm a n M': n slots, of which those that M names hold what M says. A region may be cut into segments. Over any program.
-/
namespace Go.Proofs.Ytebaojcfmkobjaa
open Go.RowKit

/-- The first entry of a slot. -/
def lk : List (Nat × Value) → Nat → Option Value
  | [], _ => none
  | (k, v) :: r, t => bif Nat.beq k t then some v else lk r t
theorem lk_mem {M : List (Nat × Value)} {t : Nat} {v : Value} (h : lk M t = some v) : (t, v) ∈ M := by
  induction M with
  | nil => cases h
  | cons p r ih =>
    obtain ⟨k, u⟩ := p
    unfold lk at h
    cases hk : Nat.beq k t with
    | true =>
      rw [hk] at h
      have : k = t := Nat.eq_of_beq_eq_true hk
      subst this
      simp at h
      subst h
      simp
    | false => rw [hk] at h; exact List.mem_cons_of_mem _ (ih h)

def Frm (a : Act) (n : Nat) (M : List (Nat × Value)) : Prop := a.tmps.size = n ∧ a.defers = [] ∧ ∀ t v, lk M t = some v → a.tmps[t]? = some v

section
variable {P : Program} {a : Act} {n : Nat} {M M' : List (Nat × Value)} {ops : Array Oper}
theorem Frm.start {cs : Array Value} (hn : cs.size = n) (h : ∀ p ∈ M, cs[p.1]? = some p.2) : Frm ⟨cs, []⟩ n M := ⟨hn, rfl, fun _ _ hl => h _ (lk_mem hl)⟩
theorem Frm.weak (h : Frm a n M) (hs : ∀ p ∈ M', lk M p.1 = some p.2) : Frm a n M' := ⟨h.1, h.2.1, fun t v hl => h.2.2 t v (hs _ (lk_mem hl))⟩
theorem Frm.at_ (h : Frm a n M) {t : Nat} {v : Value} (hl : lk M t = some v) : a.tmps[t]? = some v := h.2.2 t v hl
theorem Frm.ev (h : Frm a n M) {t : Nat} {v : Value} (hl : lk M t = some v) : a.eval (.tmp t) = v := by
  have := h.at_ hl
  simp [Act.eval, Array.getD_eq_getD_getElem?, this]
theorem Frm.put (h : Frm a n M) {d : Nat} (hd : d < n) (v : Value) : Frm (a.put (some d) v) n ((d, v) :: M) := by
  refine ⟨by simp [Act.put, h.1], h.2.1, fun t u hl => ?_⟩
  unfold lk at hl
  show (a.tmps.setIfInBounds d v)[t]? = some u
  rw [Array.getElem?_setIfInBounds]
  cases hk : Nat.beq d t with
  | true =>
    rw [hk] at hl
    have : d = t := Nat.eq_of_beq_eq_true hk
    subst this
    simp at hl
    subst hl
    rw [if_pos rfl, h.1, if_pos hd]
  | false =>
    rw [hk] at hl
    have : d ≠ t := fun e => by subst e; simp at hk
    rw [if_neg this]
    exact h.2.2 t u hl
theorem Frm.yield (h : Frm a n M) {j d : Nat} {b : Bool} (hj : (ops[j]?).bind (·.dst) = some d) (hl : lk M d = some (.bool b)) : yielded ops a.tmps j = some b := by
  unfold yielded
  rw [hj]
  simp [h.at_ hl]
end

/-- A segment of a region, K behind it. -/
def wpSeg (P : Program) (ops : Array Oper) (Q : Exit → Act → World → Prop) (K : Act → World → Prop) : List Oper → Act → World → Prop
  | [], a, w => K a w
  | o :: rest, a, w =>
    if Region.wanted o (yielded ops a.tmps) then o.wp P a w (wpSeg P ops Q K rest) Q ∨ (o.asks P a w ∧ LetsOut Q) else wpSeg P ops Q K rest (a.put o.dst undef) w

section
variable {P : Program} {ops : Array Oper} {Q : Exit → Act → World → Prop} {K : Act → World → Prop} {a : Act} {w w' : World} {rest : List Oper} {o : Oper} {n : Nat} {M : List (Nat × Value)}
theorem wpSeg_eq (l1 l2 : List Oper) : wpList P ops Q (l1 ++ l2) = wpSeg P ops Q (wpList P ops Q l2) l1 := by
  induction l1 with
  | nil => rfl
  | cons o l ih =>
    funext a w
    simp only [List.cons_append, wpList, wpSeg, ih]
/-- A region's first k operations, walked with what is behind them unseen. -/
theorem seg_cut (k : Nat) {l : List Oper} (S : Act → World → Prop)
    (h1 : ∀ K : Act → World → Prop, (∀ a' w', S a' w' → K a' w') → wpSeg P ops Q K (l.take k) a w) (h2 : ∀ a' w', S a' w' → wpList P ops Q (l.drop k) a' w') : wpList P ops Q l a w := by
  have e : l = l.take k ++ l.drop k := (List.take_append_drop k l).symm
  rw [e, wpSeg_eq]
  exact h1 _ h2
theorem seg_nil (h : K a w) : wpSeg P ops Q K [] a w := h
theorem seg_val {d : Nat} {v : Value} (hM : Frm a n M) (hd : o.dst = some d) (hn : d < n) (hg : o.guard = none) (hr : (execOp a.eval o).run P w = .ok (.value v) w')
    (h : ∀ a', Frm a' n ((d, v) :: M) → wpSeg P ops Q K rest a' w') : wpSeg P ops Q K (o :: rest) a w := by
  unfold wpSeg
  rw [if_pos (by simp [Region.wanted, hg])]
  refine .inl ?_
  unfold Oper.wp
  rw [hr, Oper.upon_value, hd]
  exact h _ (hM.put hn v)
theorem seg_valg {d j dj : Nat} {b : Bool} {v : Value} (hM : Frm a n M) (hd : o.dst = some d) (hn : d < n) (hg : o.guard = some (j, b)) (hj : (ops[j]?).bind (·.dst) = some dj) (hl : lk M dj = some (.bool b)) (hr : (execOp a.eval o).run P w = .ok (.value v) w')
    (h : ∀ a', Frm a' n ((d, v) :: M) → wpSeg P ops Q K rest a' w') : wpSeg P ops Q K (o :: rest) a w := by
  unfold wpSeg
  rw [if_pos (by simp [Region.wanted, hg, hM.yield hj hl])]
  refine .inl ?_
  unfold Oper.wp
  rw [hr, Oper.upon_value, hd]
  exact h _ (hM.put hn v)
theorem seg_same {d j dj : Nat} {b : Bool} {v : Value} (hM : Frm a n M) (hd : o.dst = some d) (hn : d < n) (hg : o.guard = some (j, b)) (hj : (ops[j]?).bind (·.dst) = some dj) (hl : lk M dj = some (.bool b)) (hr : (execOp a.eval o).run P w = .ok (.value v) w)
    (h : ∀ a', Frm a' n ((d, v) :: M) → wpSeg P ops Q K rest a' w) : wpSeg P ops Q K (o :: rest) a w := seg_valg hM hd hn hg hj hl hr h
theorem seg_skip {d j dj : Nat} {b c : Bool} (hM : Frm a n M) (hd : o.dst = some d) (hn : d < n) (hg : o.guard = some (j, b)) (hj : (ops[j]?).bind (·.dst) = some dj) (hl : lk M dj = some (.bool c)) (hc : c = !b)
    (h : ∀ a', Frm a' n ((d, undef) :: M) → wpSeg P ops Q K rest a' w) : wpSeg P ops Q K (o :: rest) a w := by
  unfold wpSeg
  rw [if_neg (by subst hc; simp [Region.wanted, hg, hM.yield hj hl])]
  rw [hd]
  exact h _ (hM.put hn undef)
theorem seg_callg {d j dj : Nat} {b : Bool} {f : FuncId} {args : Array Value} {v : Value} {R : World → Prop} (hM : Frm a n M) (hd : o.dst = some d) (hn : d < n) (hg : o.guard = some (j, b)) (hj : (ops[j]?).bind (·.dst) = some dj) (hl : lk M dj = some (.bool b))
    (hr : (execOp a.eval o).run P w = .ok (.enter f args) w) (hc : Calls P f args w fun e w' => e = .returned v ∧ R w')
    (h : ∀ a' w', Frm a' n ((d, v) :: M) → R w' → wpSeg P ops Q K rest a' w') : wpSeg P ops Q K (o :: rest) a w := by
  unfold wpSeg
  rw [if_pos (by simp [Region.wanted, hg, hM.yield hj hl])]
  refine .inl ?_
  unfold Oper.wp
  rw [hr, Oper.upon_enter]
  refine hc.mono ?_
  rintro e w' ⟨rfl, hR⟩
  simp only [hd]
  exact h _ _ (hM.put hn v) hR
theorem frame_off {l : List Oper} (n : Nat) (M : List (Nat × Value)) (h0 : Frm a n M) (h : ∀ a, Frm a n M → wpList P ops Q l a w) : wpList P ops Q l a w := h a h0
theorem seg_move {d s : Nat} {v : Value} (hM : Frm a n M) (hd : o.dst = some d) (hn : d < n) (hg : o.guard = none) (ho : o.op = .move (.tmp s) ∨ o.op = .assign (.tmp s)) (hs : lk M s = some v)
    (h : ∀ a', Frm a' n ((d, v) :: M) → wpSeg P ops Q K rest a' w) : wpSeg P ops Q K (o :: rest) a w :=
  seg_val hM hd hn hg (by rcases ho with ho | ho <;> simp [execOp, ho, hM.ev hs]) h
theorem seg_pick {d s1 s2 : Nat} {c : Bool} {v y : Value} (hM : Frm a n M) (hd : o.dst = some d) (hn : d < n) (hg : o.guard = none) (ho : o.op = .pick (.tmp s1) (.tmp s2) (.const y)) (hs : lk M s1 = some (.bool c)) (hs2 : lk M s2 = some v)
    (h : ∀ a', Frm a' n ((d, if c then v else y) :: M) → wpSeg P ops Q K rest a' w) : wpSeg P ops Q K (o :: rest) a w :=
  seg_val hM hd hn hg (by
    have e : a.eval (.const y) = y := rfl
    cases c <;> simp [execOp, ho, hM.ev hs, hM.ev hs2, e, asBool]) h
theorem seg_cut2 {o1 o2 : Oper} (S : Act → World → Prop)
    (h1 : ∀ K : Act → World → Prop, (∀ a' w', S a' w' → K a' w') → wpSeg P ops Q K [o1, o2] a w) (h2 : ∀ a' w', S a' w' → wpList P ops Q rest a' w') : wpList P ops Q (o1 :: o2 :: rest) a w := seg_cut 2 S h1 h2
theorem seg_cut4 {o1 o2 o3 o4 : Oper} (S : Act → World → Prop)
    (h1 : ∀ K : Act → World → Prop, (∀ a' w', S a' w' → K a' w') → wpSeg P ops Q K [o1, o2, o3, o4] a w) (h2 : ∀ a' w', S a' w' → wpList P ops Q rest a' w') : wpList P ops Q (o1 :: o2 :: o3 :: o4 :: rest) a w := seg_cut 4 S h1 h2
theorem seg_cut7 {o1 o2 o3 o4 o5 o6 o7 : Oper} (S : Act → World → Prop)
    (h1 : ∀ K : Act → World → Prop, (∀ a' w', S a' w' → K a' w') → wpSeg P ops Q K [o1, o2, o3, o4, o5, o6, o7] a w) (h2 : ∀ a' w', S a' w' → wpList P ops Q rest a' w') : wpList P ops Q (o1 :: o2 :: o3 :: o4 :: o5 :: o6 :: o7 :: rest) a w := seg_cut 7 S h1 h2
theorem seg_cut9 {o1 o2 o3 o4 o5 o6 o7 o8 o9 : Oper} (S : Act → World → Prop)
    (h1 : ∀ K : Act → World → Prop, (∀ a' w', S a' w' → K a' w') → wpSeg P ops Q K [o1, o2, o3, o4, o5, o6, o7, o8, o9] a w) (h2 : ∀ a' w', S a' w' → wpList P ops Q rest a' w') : wpList P ops Q (o1 :: o2 :: o3 :: o4 :: o5 :: o6 :: o7 :: o8 :: o9 :: rest) a w := seg_cut 9 S h1 h2
theorem seg_cut11 {o1 o2 o3 o4 o5 o6 o7 o8 o9 o10 o11 : Oper} (S : Act → World → Prop)
    (h1 : ∀ K : Act → World → Prop, (∀ a' w', S a' w' → K a' w') → wpSeg P ops Q K [o1, o2, o3, o4, o5, o6, o7, o8, o9, o10, o11] a w) (h2 : ∀ a' w', S a' w' → wpList P ops Q rest a' w') : wpList P ops Q (o1 :: o2 :: o3 :: o4 :: o5 :: o6 :: o7 :: o8 :: o9 :: o10 :: o11 :: rest) a w := seg_cut 11 S h1 h2
end
end Go.Proofs.Ytebaojcfmkobjaa
/-
  A whole record stored into a block of its own, and loaded: no cell by cell. Over any program.
-/
namespace Go.Proofs.Ytebaojcfmkobjaa
open Go.RowKit

section
variable {P : Program}
theorem grown_setRow (w : World) (g : Nat) (cs : Array Value) : w.grownBy (w.setRow g cs) (some g) :=
  ⟨rfl, rfl, rfl, by simp, fun k _ hk => setRow_other w g k cs (by intro e; exact hk (by rw [e]))⟩
theorem run_storeVar_row (w : World) (g : Nat) (t ty : TypeId) (cs : Array Value) (v : Value) (hg : Blk w g t cs) (hz : (P.info? ty).map (·.size) = some v.cells.size) (hs : cs.size = v.cells.size) (h1 : ∀ u ∈ v.cells.toList, u.oneCell' = true) :
    (storeVar ty ⟨g, 0, none⟩ v).run P w = .ok () (w.setRow g v.cells) := by
  have hst := run_storeCells_at P g 0 t v.cells.toList 0 cs w hg (by simp; omega) h1
  have e : (cs.toList.take (0 + 0) ++ v.cells.toList ++ cs.toList.drop (0 + 0 + v.cells.toList.length)).toArray = v.cells := by
    rw [List.drop_eq_nil_of_le (by simp; omega)]; simp
  rw [e] at hst
  cases hq : P.info? ty with
  | none => simp [hq] at hz
  | some i =>
    have hi : i.size = v.cells.size := by simpa [hq] using hz
    simp [storeVar, Sem.run_bind, sizeOf, typeInfo, hq, hi, hst]
theorem wp_store_row {o : Oper} {a : Act} {w : World} {K : Act → World → Prop} {Q : Exit → Act → World → Prop} (ty : TypeId) (x y : Operand) (ho : o.op = .store ty x y)
    (g : Nat) (hx : a.eval x = .pointer (some ⟨g, 0, none⟩)) (t : TypeId) (cs : Array Value) (v : Value) (hy : a.eval y = v) (hg : Blk w g t cs) (hz : (P.info? ty).map (·.size) = some v.cells.size) (hs : cs.size = v.cells.size) (h1 : ∀ u ∈ v.cells.toList, u.oneCell' = true)
    (h : ∀ w', Blk w' g t v.cells → w.grownBy w' (some g) → K (a.put o.dst (.tuple #[])) w') : o.wp P a w K Q := by
  have hr := run_storeVar_row w g t ty cs v hg hz hs h1
  have hk : Blk (w.setRow g v.cells) g t v.cells := setRow_heap w g cs v.cells t (0, 0) hg
  unfold Oper.wp execOp
  simp only [ho, hx, hy, Instr.storeAt, Instr.sureAddr, Sem.run_bind, Sem.run_pure, Result.andThen_ok, hr]
  exact h _ hk (grown_setRow w g _)
theorem wpList_store_row {ops : Array Oper} {rest : List Oper} {o : Oper} {a : Act} {w : World} {Q : Exit → Act → World → Prop} (hgd : o.guard = none) (ty : TypeId) (x y : Operand) (ho : o.op = .store ty x y)
    (g : Nat) (hx : a.eval x = .pointer (some ⟨g, 0, none⟩)) (t : TypeId) (cs : Array Value) (v : Value) (hy : a.eval y = v) (hg : Blk w g t cs) (hz : (P.info? ty).map (·.size) = some v.cells.size) (hs : cs.size = v.cells.size) (h1 : ∀ u ∈ v.cells.toList, u.oneCell' = true)
    (h : ∀ w', Blk w' g t v.cells → w.grownBy w' (some g) → wpList P ops Q rest (a.put o.dst (.tuple #[])) w') : wpList P ops Q (o :: rest) a w :=
  wpList_plain hgd fun _ hK => wp_store_row ty x y ho g hx t cs v hy hg hz hs h1 fun w' h2 h3 => hK _ _ (h w' h2 h3)
theorem wpList_load_blk {ops : Array Oper} {rest : List Oper} {o : Oper} {a : Act} {w : World} {Q : Exit → Act → World → Prop} (hgd : o.guard = none) (ty : TypeId) (x : Operand) (ho : o.op = .load ty x)
    (g : Nat) (hx : a.eval x = .pointer (some ⟨g, 0, none⟩)) (t : TypeId) (cs : Array Value) (d : TypeDesc) (hg : Blk w g t cs)
    (hu : P.underlying ty = some d) (hd : (match d with | .struct _ | .array _ _ => true | _ => false) = true) (hi : (P.info? ty).map (·.size) = some cs.size)
    (h : wpList P ops Q rest (a.put o.dst (.agg cs)) w) : wpList P ops Q (o :: rest) a w :=
  wpList_load_row hgd ty x ho g hx t cs (0, 0) d hg hu hd hi h
end
end Go.Proofs.Ytebaojcfmkobjaa
/-
  Regions over opaque frames: a value stored into a part of a block.
-/
namespace Go.Proofs.Ytebaojcfmkobjaa
open Go.RowKit

section
variable {P : Program}
end
end Go.Proofs.Ytebaojcfmkobjaa
/-
  The shape that the laws over a list have (a counted loop over its first records, then a last call), walked once for all, over frames known by facts. Over any program.
-/
namespace Go.Proofs.Ytebaojcfmkobjaa
open Go.RowKit

section
variable {P : Program}
end
end Go.Proofs.Ytebaojcfmkobjaa
/-
  A region that draws its order, whose operations only read and whose calls make memory at most ('Below'): one walk, in the order of the text. Over any program.
-/
namespace Go.Proofs.Ytebaojcfmkobjaa
open Go.RowKit

/-- The worlds that have what W has. -/
def Wd (W : World) : Type := { w' : World // Below W.heap.size W w' }
def Wd.w {W : World} (n : Wd W) : World := n.1
theorem Wd.below {W : World} (n : Wd W) : Below W.heap.size W n.w := n.2
theorem Wd.is {W w' : World} (h : Below W.heap.size W w') : ∃ m : Wd W, w' = m.w := ⟨⟨w', h⟩, rfl⟩
instance (W : World) : Nonempty (Wd W) := ⟨⟨W, Below.refl _ _⟩⟩
instance (W : World) : Inhabited (Wd W) := ⟨⟨W, Below.refl _ _⟩⟩
theorem Wd.cell {W : World} {p : Addr} {v : Value} (h : W.cell? p = some v) (n : Wd W) : n.w.cell? p = some v := (n.below.cell (lt_of_cell h)).trans h
theorem Wd.sl {W : World} {size k : Nat} {A : Option Addr} {cs : List Value} (h : Sl W size A k cs) (n : Wd W) : Sl n.w size A k cs := h.below n.below
theorem wd_call {P : Program} {f : FuncId} {args : Array Value} {W : World} {n : Wd W} {v : Value} (h : Calls P f args n.w fun e w' => e = .returned v ∧ Below n.w.heap.size n.w w') :
    Calls P f args n.w fun e w'' => e = .returned v ∧ ∃ m : Wd W, w'' = m.w :=
  h.mono fun _ _ ⟨he, hb⟩ => ⟨he, Wd.is (n.below.trans (hb.mono n.below.size))⟩
theorem wd_same {P : Program} {f : FuncId} {args : Array Value} {W : World} {n : Wd W} {v : Value} (h : Calls P f args n.w fun e w' => e = .returned v ∧ n.w = w') :
    Calls P f args n.w fun e w'' => e = .returned v ∧ ∃ m : Wd W, w'' = m.w :=
  h.mono fun _ _ ⟨he, hb⟩ => ⟨he, n, hb.symm⟩
theorem wp_region_wd {P : Program} {id : Nat} {Q : Exit → Act → World → Prop} {a : Act} {W : World} {l : List Oper} (hm : P.follows .mixedOrders = true) (hB : Region.lexB .any l.toArray = true)
    (h : wpQuiet P l.toArray (fun w' => ∃ n : Wd W, w' = n.w) (fun a' => ∀ w', (∃ n : Wd W, w' = n.w) → Q .normal a' w') l a) : (Code.region id l.toArray true).wp P Q a W :=
  wp_region_quiet (C := fun w' => ∃ n : Wd W, w' = n.w) hm hB (Wd.is (Below.refl _ _).drew) (by simpa using h)
/-- Behind the region. -/
theorem wd_end {Q : Exit → Act → World → Prop} {a : Act} {W : World} (h : ∀ wq, Below W.heap.size W wq → Q .normal a wq) : ∀ w', (∃ n : Wd W, w' = n.w) → Q .normal a w' := by
  rintro w' ⟨n, rfl⟩
  exact h _ n.below
theorem yielded_undef : Go.yielded.match_1 (fun _ => Option Bool) (some undef) (fun b => some b) (fun _ => none) = none := rfl
attribute [go_sem] yielded_undef
end Go.Proofs.Ytebaojcfmkobjaa
