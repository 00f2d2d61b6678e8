/-
  Texts joined: words and contracts that later texts use; lemmas alone, no conditions of a statement.
-/
import Derived.WalkKit
import Derived.WalkSpells
import Derived.WalkLawsBesides
import Derived.Below
import Derived.Laws.OwnMore
import Derived.Deep.AppendLies
import Derived.Deep.Draws
import Derived.Lib.Hide
import Derived.Laws.BitsAllLaws
import Derived.Laws.BitsLemmas
import Derived.ScopeJumps
import Derived.WalkMore
import Derived.BigQuiet
import Derived.Deep.QuietTactic
import Derived.Test.YtflamhndmggiaaaRows
import Derived.ProofKit
import Derived.ChangeSame
import Derived.Deep.Slices
import Derived.Deep.Fields
import Derived.OpenShut
import Derived.SizedLaws
set_option linter.unusedVariables false
set_option linter.unusedSimpArgs false
/-
  Words for memory, over any program: a slice that reads as a list of cells ('Sl'), of ints, of texts; what is kept of it as the world goes on. Lemmas alone, no conditions of a statement.
-/
namespace Go.Proofs.Ytflamhndmggiaaa
open Go.RowKit

theorem ret_bool {a b : Bool} (h : a = b) : Ending.returned (.bool a) = .returned (.bool b) := by rw [h]
theorem ret_int {k : IntKind} {a b : Int} (h : a = b) : Ending.returned (.int k a) = .returned (.int k b) := by rw [h]

/-- api.OK or api.ErrForm. -/
def formE (ok : Bool) : Int := if ok then 0 else 1
def orZero (ok : Bool) (n : Int) : Int := if ok then n else 0
theorem formE_true : formE true = 0 := rfl
theorem formE_false : formE false = 1 := rfl
theorem orZero_true (n : Int) : orZero true n = n := rfl
theorem orZero_false (n : Int) : orZero false n = 0 := rfl
attribute [go_sem] formE_true formE_false orZero_true orZero_false

theorem hide {p : Prop} (h : p) : Hid p := h
theorem unhide {p : Prop} (h : Hid p) : p := h

theorem below_drewN {B : Nat} {a w : World} (h : Below B a w) (n : Nat) : Below B a (w.drewN n) := ⟨h.os, h.tape, h.output, h.size, h.block⟩
theorem lt_of_cell {w : World} {p : Addr} {v : Value} (h : w.cell? p = some v) : p.block < w.heap.size := by
  unfold World.cell? at h
  rcases Nat.lt_or_ge p.block w.heap.size with hlt | hge
  · exact hlt
  · rw [Array.getElem?_eq_none hge] at h; cases h
theorem spot_of_cell {w : World} {p : Addr} {v : Value} (h : w.cell? p = some v) : p.spot = none := by
  unfold World.cell? at h
  split at h
  · cases hs : p.spot with
    | none => rfl
    | some x => simp [hs] at h
  · cases h
theorem addr_eta {p : Addr} (h : p.spot = none) : p = ⟨p.block, p.off, none⟩ := by cases p; simp_all
theorem add_lit (b o j : Nat) : (⟨b, o, none⟩ : Addr).add j = ⟨b, o + j, none⟩ := by unfold Addr.add; split <;> simp_all

/-- The slice's value '.slice A n c' has n elements of 'size' cells each, which are the cells cs. -/
def Sl (w : World) (size : Nat) (A : Option Addr) (n : Nat) (cs : List Value) : Prop :=
  cs.length = n * size ∧ (0 < n → ∃ b off, A = some ⟨b, off, none⟩ ∧ b < w.heap.size ∧ ∀ j u, cs[j]? = some u → w.cell? ⟨b, off + j, none⟩ = some u)

section
variable {w w' : World} {size n : Nat} {A : Option Addr} {cs : List Value}
theorem Sl.nil_ : Sl w size A 0 [] := ⟨by simp, fun h => absurd h (by omega)⟩
theorem Sl.keep (h : Sl w size A n cs) (hs : w.heap.size ≤ w'.heap.size) (hk : ∀ p : Addr, p.block < w.heap.size → w'.cell? p = w.cell? p) : Sl w' size A n cs :=
  ⟨h.1, fun hn => by
    obtain ⟨b, off, e, hb, hc⟩ := h.2 hn
    exact ⟨b, off, e, by omega, fun j u hu => (hk _ hb).trans (hc j u hu)⟩⟩
theorem Sl.below (h : Sl w size A n cs) (hb : Below w.heap.size w w') : Sl w' size A n cs := h.keep hb.size fun _ hp => hb.cell hp
theorem Sl.drew (h : Sl w size A n cs) : Sl w.drew size A n cs := h
theorem Sl.drewN (h : Sl w size A n cs) (k : Nat) : Sl (w.drewN k) size A n cs := h
theorem Sl.alloc (h : Sl w size A n cs) (o : Obj) : Sl (w.alloc o) size A n cs := h.below ((Below.refl _ _).alloc (Nat.le_refl _) o)
theorem Sl.of_own {base : Nat} {e : TypeId} {c : Nat} (h : w.ownsRow base e size (.slice A n c) n cs) : Sl w size A n cs := by
  refine ⟨h.1, fun hn => ?_⟩
  obtain ⟨g, cap, hv, _, hlt⟩ := h.form hn
  have hA : A = some ⟨g, 0, none⟩ := by injection hv
  subst hA
  refine ⟨g, 0, rfl, hlt, fun j u hu => ?_⟩
  have := h.cells (g := g) rfl j u hu
  rwa [add_lit] at this
theorem own_slice {base : Nat} {e : TypeId} {v : Value} (h : w.ownsRow base e size v n cs) : ∃ A c, v = .slice A n c := by
  rcases h.2 with ⟨rfl, rfl⟩ | ⟨g, cap, cur, rfl, _⟩
  · exact ⟨_, _, rfl⟩
  · exact ⟨_, _, rfl⟩
theorem own_slice_cap {base : Nat} {e : TypeId} {v : Value} (h : w.ownsRow base e size v n cs) : ∃ A c, v = .slice A n c ∧ n ≤ c ∧ c ≤ maxLen := by
  rcases h.2 with ⟨rfl, rfl⟩ | ⟨g, cap, cur, rfl, _, _, h1, h2, _⟩
  · exact ⟨_, _, rfl, Nat.le_refl _, by simp⟩
  · exact ⟨_, _, rfl, h1, h2⟩
/-- A cut: the walk's own spelling of its address. -/
theorem Sl.cut (h : Sl w size A n cs) {k cap : Nat} (hk : k ≤ n) (hc : n ≤ cap) :
    Sl w size (if cap = k then A else A.map (·.add (k * size))) (n - k) (cs.drop (k * size)) := by
  refine ⟨by rw [List.length_drop, h.1, Nat.sub_mul], fun hn => ?_⟩
  obtain ⟨b, off, rfl, hb, hcell⟩ := h.2 (by omega)
  rw [if_neg (by omega)]
  refine ⟨b, off + k * size, by simp [add_lit], hb, fun j u hu => ?_⟩
  rw [Nat.add_assoc]
  exact hcell _ u (by rw [← hu, List.getElem?_drop])
theorem Sl.take (h : Sl w size A n cs) {k : Nat} (hk : k ≤ n) : Sl w size A k (cs.take (k * size)) := by
  refine ⟨by rw [List.length_take, h.1]; exact Nat.min_eq_left (Nat.mul_le_mul_right _ hk), fun hn => ?_⟩
  obtain ⟨b, off, e, hb, hcell⟩ := h.2 (by omega)
  exact ⟨b, off, e, hb, fun j u hu => hcell j u (by
    rw [List.getElem?_take] at hu
    split at hu
    · exact hu
    · cases hu)⟩
end

/-- ints, as cells; texts, as cells. -/
def ints (xs : List Int) : List Value := xs.map (Value.int .i64)
def strs (xs : List ByteArray) : List Value := xs.map Value.string
def bytes8 (xs : List UInt8) : List Value := xs.map fun b => Value.int .u8 b.toNat
theorem ints_len (xs : List Int) : (ints xs).length = xs.length := by simp [ints]
theorem strs_len (xs : List ByteArray) : (strs xs).length = xs.length := by simp [strs]
theorem bytes8_len (xs : List UInt8) : (bytes8 xs).length = xs.length := by simp [bytes8]

section
variable {w w' : World} {n : Nat} {A : Option Addr}
theorem Sl.ilen {xs : List Int} (h : Sl w 1 A n (ints xs)) : xs.length = n := by have := h.1; rw [ints_len] at this; omega
theorem Sl.slen {xs : List ByteArray} (h : Sl w 1 A n (strs xs)) : xs.length = n := by have := h.1; rw [strs_len] at this; omega
theorem Sl.blen {xs : List UInt8} (h : Sl w 1 A n (bytes8 xs)) : xs.length = n := by have := h.1; rw [bytes8_len] at this; omega
theorem Sl.int {xs : List Int} (h : Sl w 1 A n (ints xs)) {k : Nat} (hk : k < n) : ∃ b off u, A = some ⟨b, off, none⟩ ∧ Hid (xs[k]? = some u) ∧ w.cell? ⟨b, off + k, none⟩ = some (.int .i64 u) ∧ b < w.heap.size := by
  obtain ⟨b, off, e, hb, hc⟩ := h.2 (by omega)
  have hl : k < xs.length := by rw [h.ilen]; exact hk
  exact ⟨b, off, xs[k], e, List.getElem?_eq_getElem hl, hc k _ (by simp [ints, List.getElem?_eq_getElem hl]), hb⟩
theorem Sl.str {xs : List ByteArray} (h : Sl w 1 A n (strs xs)) {k : Nat} (hk : k < n) : ∃ b off u, A = some ⟨b, off, none⟩ ∧ Hid (xs[k]? = some u) ∧ w.cell? ⟨b, off + k, none⟩ = some (.string u) ∧ b < w.heap.size := by
  obtain ⟨b, off, e, hb, hc⟩ := h.2 (by omega)
  have hl : k < xs.length := by rw [h.slen]; exact hk
  exact ⟨b, off, xs[k], e, List.getElem?_eq_getElem hl, hc k _ (by simp [strs, List.getElem?_eq_getElem hl]), hb⟩
theorem Sl.byte {xs : List UInt8} (h : Sl w 1 A n (bytes8 xs)) {k : Nat} (hk : k < n) : ∃ b off u, A = some ⟨b, off, none⟩ ∧ Hid (xs[k]? = some u) ∧ w.cell? ⟨b, off + k, none⟩ = some (.int .u8 (u.toNat : Int)) ∧ b < w.heap.size := by
  obtain ⟨b, off, e, hb, hc⟩ := h.2 (by omega)
  have hl : k < xs.length := by rw [h.blen]; exact hk
  exact ⟨b, off, xs[k], e, List.getElem?_eq_getElem hl, hc k _ (by simp [bytes8, List.getElem?_eq_getElem hl]), hb⟩
end

theorem take_at {α : Type} {l : List α} {k : Nat} {u : α} (h : l[k]? = some u) : l.take (k + 1) = l.take k ++ [u] := by
  obtain ⟨hk, rfl⟩ := List.getElem?_eq_some_iff.1 h
  exact List.take_succ_eq_append_getElem hk
theorem lt_of_at {α : Type} {l : List α} {k : Nat} {u : α} (h : l[k]? = some u) : k < l.length := (List.getElem?_eq_some_iff.1 h).1
theorem mem_of_at {α : Type} {l : List α} {k : Nat} {u : α} (h : l[k]? = some u) : u ∈ l := by
  obtain ⟨hk, rfl⟩ := List.getElem?_eq_some_iff.1 h
  exact List.getElem_mem hk
theorem drop_at {α : Type} {l : List α} {k : Nat} {u : α} (h : l[k]? = some u) : l.drop k = u :: l.drop (k + 1) := by
  obtain ⟨hk, rfl⟩ := List.getElem?_eq_some_iff.1 h
  exact List.drop_eq_getElem_cons hk

theorem cell_new (w : World) (o : Array Value) (t : TypeId) (j : Nat) : (w.alloc (.cells o t)).cell? ⟨w.heap.size, j, none⟩ = o[j]? := by
  have h := heap_alloc_new w (.cells o t)
  simp only [World.cell?]
  rw [h]
  rfl
theorem news_one (w : World) (u : Value) (t : TypeId) : ∀ j v, [u][j]? = some v → (w.alloc (.cells #[u] t)).cell? ((⟨w.heap.size, 0, none⟩ : Addr).add j) = some v := by
  intro j v hv
  rw [add_lit, cell_new]
  match j, hv with
  | 0, hv => simpa using hv
theorem one_int (k : IntKind) (n : Int) : ∀ u ∈ [Value.int k n], u.oneCell' = true := by intro u hu; simp at hu; subst hu; rfl
/-- Quiet calls behind a quiet region. -/
theorem quiet_add {P : Program} {f : FuncId} {args : Array Value} {w : World} {a n : Nat} {v : Value}
    (h : Calls P f args (w.drewN (a + n)) fun e w' => e = .returned v ∧ ∃ m, w' = (w.drewN (a + n)).drewN m) :
    Calls P f args (w.drewN (a + n)) fun e w'' => e = .returned v ∧ ∃ m, w'' = w.drewN (a + m) :=
  h.mono fun _ _ ⟨he, m, hm⟩ => ⟨he, n + m, by rw [hm, World.drewN_drewN, Nat.add_assoc]⟩
theorem quiet_add_left {P : Program} {f : FuncId} {args : Array Value} {w : World} {a n : Nat} {v : Value}
    (h : Calls P f args (w.drewN (a + n)) fun e w' => e = .returned v ∧ w.drewN (a + n) = w') :
    Calls P f args (w.drewN (a + n)) fun e w'' => e = .returned v ∧ ∃ m, w'' = w.drewN (a + m) :=
  h.mono fun _ _ ⟨he, hm⟩ => ⟨he, n, hm.symm⟩
theorem quiet_left {P : Program} {f : FuncId} {args : Array Value} {w : World} {n : Nat} {v : Value}
    (h : Calls P f args (w.drewN n) fun e w' => e = .returned v ∧ w.drewN n = w') : Calls P f args (w.drewN n) fun e w'' => e = .returned v ∧ ∃ m, w'' = w.drewN m :=
  h.mono fun _ _ ⟨he, hm⟩ => ⟨he, n, hm.symm⟩

/-- Block g is just the cells cs of element type t, none frozen. -/
def Blk (w : World) (g : Nat) (t : TypeId) (cs : Array Value) : Prop := w.heap[g]? = some (.cells cs t (0, 0))

section
variable {w w' : World} {g : Nat} {t : TypeId} {cs : Array Value}
theorem Blk.lt (h : Blk w g t cs) : g < w.heap.size := by
  rcases Nat.lt_or_ge g w.heap.size with hlt | hge
  · exact hlt
  · unfold Blk at h; rw [Array.getElem?_eq_none hge] at h; cases h
theorem Blk.cell (h : Blk w g t cs) (i : Nat) : w.cell? ⟨g, i, none⟩ = cs[i]? := cell_of_row w g i cs t (0, 0) h
theorem Blk.at_ (h : Blk w g t cs) {i : Nat} {v : Value} (hi : cs[i]? = some v) : w.cell? ⟨g, i, none⟩ = some v := (h.cell i).trans hi
theorem Blk.frozen (h : Blk w g t cs) (i : Nat) : w.frozen? ⟨g, i, none⟩ = false := by
  unfold Blk at h
  simp [World.frozen?, h]
theorem Blk.new (w : World) (t : TypeId) (cs : Array Value) : Blk (w.alloc (.cells cs t)) w.heap.size t cs := heap_alloc_new w _
theorem Blk.drew (h : Blk w g t cs) : Blk w.drew g t cs := h
theorem Blk.drewN (h : Blk w g t cs) (n : Nat) : Blk (w.drewN n) g t cs := h
theorem Blk.alloc (h : Blk w g t cs) (o : Obj) : Blk (w.alloc o) g t cs := (Below.heap_alloc w o g h.lt).trans h
theorem Blk.set_ (h : Blk w g t cs) (i : Nat) (u : Value) : Blk (w.setCell ⟨g, i, none⟩ u) g t (cs.setIfInBounds i u) := by
  unfold Blk at h ⊢
  simp [World.setCell, Array.getElem?_modify, h]
theorem Blk.far (h : Blk w g t cs) {p : Addr} (hp : g ≠ p.block) (u : Value) : Blk (w.setCell p u) g t cs := (Below.heap_setCell w p u g hp).trans h
theorem Blk.below {B : Nat} (h : Blk w g t cs) (hb : Below B w w') (hg : g < B) : Blk w' g t cs := (hb.block g hg).trans h
theorem Blk.later (h : Blk w g t cs) (hb : Below w.heap.size w w') : Blk w' g t cs := h.below hb h.lt
theorem Blk.grown {row : Option Nat} (h : Blk w g t cs) (hb : w.grownBy w' row) (hg : some g ≠ row) : Blk w' g t cs := (hb.block g h.lt hg).trans h
theorem Blk.ne_ {g' : Nat} {t' : TypeId} {cs' : Array Value} (h : Blk w g t cs) (h' : Blk w g' t' cs') (hne : t ≠ t') : g ≠ g' := by
  rintro rfl
  unfold Blk at h h'
  rw [h] at h'
  injection h' with h'
  injection h' with _ ht
  exact hne ht
theorem own_blk_ne {base : Nat} {e : TypeId} {size n : Nat} {v : Value} {xs : List Value} (h : w.ownsRow base e size v n xs) (hg : Blk w g t cs) (hne : e ≠ t) : v.ownBlock ≠ some g := by
  rcases h.2 with ⟨rfl, _⟩ | ⟨g', cap, cur, rfl, _, hh, _⟩
  · simp [Value.ownBlock]
  · intro he
    have : g' = g := by simpa [Value.ownBlock] using he
    subst this
    exact Blk.ne_ (t := e) hh hg hne rfl
end

/-- A scope in which the run jumps back to one label, which it first comes to from above. -/
theorem scope_loop {P : Program} {a : Act} {w : World} {Q : Exit → Act → World → Prop} {c rest : Code} (l : Nat) (J : Act → World → Prop) (μ : Act → World → Nat) (hf : findLabel c l = some (Code.skip.seq rest))
    (pass : ∀ a w, J a w → rest.wp P (Exit.jump l (fun a' w' => J a' w' ∧ μ a' w' < μ a w) Q) a w)
    (first : (∀ a w, J a w → rest.wp P (Exit.jump l J Q) a w) → c.wp P (Exit.jump l J Q) a w) : (Code.scope c).wp P Q a w :=
  wp_scope_jumps l J μ hf (first fun a w hJ => wp_mono (pass a w hJ) (fun e a' w' h => by
    cases e with
    | goto l' => exact ⟨h.1, h.2.1⟩
    | _ => exact h)) (fun a w hJ => wp_seq (wp_skip (pass a w hJ)))
theorem Exit.jump_ret {l : Nat} {J : Act → World → Prop} {Q : Exit → Act → World → Prop} {a : Act} {w : World} : Exit.jump l J Q .ret a w = Q .ret a w := rfl
theorem Exit.jump_normal {l : Nat} {J : Act → World → Prop} {Q : Exit → Act → World → Prop} {a : Act} {w : World} : Exit.jump l J Q .normal a w = Q .normal a w := rfl
theorem Exit.jump_exit {l i : Nat} {J : Act → World → Prop} {Q : Exit → Act → World → Prop} {a : Act} {w : World} : Exit.jump l J Q (.exit i) a w = Q (.exit i) a w := rfl
theorem Exit.jump_goto {l : Nat} {J : Act → World → Prop} {Q : Exit → Act → World → Prop} {a : Act} {w : World} (h : J a w) : Exit.jump l J Q (.goto l) a w := ⟨rfl, h⟩
theorem Exit.then_goto {l : Nat} {K : Act → World → Prop} {Q : Exit → Act → World → Prop} {a : Act} {w : World} (h : Q (.goto l) a w) : Exit.then K Q (.goto l) a w := h
theorem Exit.inBlock_goto {l i : Nat} {Q : Exit → Act → World → Prop} {a : Act} {w : World} (h : Q (.goto l) a w) : Exit.inBlock i Q (.goto l) a w := h
attribute [go_sem] Exit.jump_ret Exit.jump_normal Exit.jump_exit
/-- Bits at int, both sides not below 0. -/
theorem ofInt_i64 (a : Nat) (ha : a < 9223372036854775808) : (BitVec.ofInt 64 (a : Int)).toNat = a := by
  rw [BitVec.ofInt_natCast, BitVec.toNat_ofNat]; exact Nat.mod_eq_of_lt (by omega)
theorem i64_and_nat (a b : Nat) (ha : a < 9223372036854775808) (hb : b < 9223372036854775808) : bits .and .i64 (a : Int) (b : Int) = ((a &&& b : Nat) : Int) := by
  have hx : a &&& b < 2 ^ 63 := Nat.and_lt_two_pow _ (by omega)
  show IntKind.i64.wrap ((BitVec.ofInt 64 (a : Int) &&& BitVec.ofInt 64 (b : Int)).toNat : Int) = _
  rw [BitVec.toNat_and, ofInt_i64 a ha, ofInt_i64 b hb, IntKind.wrap_i64]
  omega
theorem i64_or_nat (a b : Nat) (ha : a < 9223372036854775808) (hb : b < 9223372036854775808) : bits .or .i64 (a : Int) (b : Int) = ((a ||| b : Nat) : Int) := by
  have hx : a ||| b < 2 ^ 63 := Nat.or_lt_two_pow (by omega) (by omega)
  show IntKind.i64.wrap ((BitVec.ofInt 64 (a : Int) ||| BitVec.ofInt 64 (b : Int)).toNat : Int) = _
  rw [BitVec.toNat_or, ofInt_i64 a ha, ofInt_i64 b hb, IntKind.wrap_i64]
  omega
end Go.Proofs.Ytflamhndmggiaaa
/-
  What every law's last step needs: a law over one argument that is only read, whose call answers true and changes nothing that was there: the rest of the row.
-/
namespace Go.Proofs.Ytflamhndmggiaaa
open Go.ChangeShapes Go.WideShapes Go.ChangeAt Go.RowKit Go.Deep

theorem own : ownKnob Try.prog.godebug = none := by kernel_rfl
theorem laidOut : laidOutB Try.prog = true := by kernel_rfl

section
variable {H : Type} {enc : TypeId × Value → H} {P : Program}
/-- The row's last step where only what is new has changed. -/
theorem post_of_below {f : Func} {s : ChangeSpec} {apart fresh handsOn again : Bool} {W W' : World} {args : Array Value} {v : Value} {ds gs : List (DataW H)} {before pa pv : List MemPlace}
    (hW : DataW.Whole enc P f.params.toList s.vars apart W args.toList ds gs before)
    (hres : ∀ (b : Nat) (sp : Nat → Bool) (hd : Bool), DataW.TrodAll enc P W' b sp hd f.resultTypes.toList (v.resultList f.resultTypes.size) (s.fn H (ds ++ gs)).results [])
    (hargs : ∀ sp : Nat → Bool, (∀ p ∈ before, sp p.block = true) → DataW.TrodAll enc P W' 0 sp true f.params.toList args.toList (s.fn H (ds ++ gs)).args pa)
    (hvars : ∀ sp : Nat → Bool, (∀ p ∈ before, sp p.block = true) → DataW.TrodVars enc P W' sp s.vars (s.fn H (ds ++ gs)).vars pv)
    (hps : before = pa ++ pv) (hb : Below W.heap.size W W')
    (hok : ∀ (j : Nat) (t : TypeId) (r : Value), f.resultTypes[j]? = some t → (v.resultList f.resultTypes.size)[j]? = some r → Value.okWide P W' .any 0 t r) :
    s.post enc P f apart fresh handsOn again W args v W' := by
  have hlt : ∀ p ∈ before, p.block < W.heap.size := fun p hp => hW.lt p hp
  have hold : ∀ p ∈ before, (fun b => decide (b < W.heap.size)) p.block = true := fun p hp => by simpa using hlt p hp
  refine ⟨ds, gs, before, [], pa, pv, hW, hres _ _ _, hargs _ hold, hvars _ hold, World.keptBut_mono (fun p hp => ⟨hp, ?_⟩) (hb.frame (· ∈ before)), fun _ => ?_⟩
  · rw [hps, List.mem_append] at hp
    exact Or.inr hp
  · obtain ⟨_, _, _, _, _, hz, hn⟩ := hW
    refine ⟨hok, _, _, ([] ++ pa) ++ pv, ⟨[] ++ pa, pv, trodAll_append (hargs _ (fun _ _ => rfl)) (hres _ _ _), hvars _ (fun _ _ => rfl), rfl, ?_, ?_⟩, ?_⟩
    · intro b off hp
      have hin : MemPlace.cell b off ∈ before := by rw [hps]; simpa using hp
      rw [hb.frozen (hlt _ hin)]
      exact hz b off hin
    · intro ha
      have := hn ha
      rw [hps] at this
      simpa using this
    · intro p hp _
      rw [hps]
      simpa using hp
end

section
variable {H : Type} {enc : TypeId × Value → H} {P : Program} {w : World} {base : Nat} {spare : Nat → Bool} {held : Bool}
/-- A slice of structs of one-cell fields, opened. -/
theorem open_slice_fields {t e : TypeId} {fs : Array Field} {fuel : Nat} {cs : List Value} {x : DataW H × List MemPlace} (ht : P.underlying t = some (.slice e)) (he : P.underlying e = some (.struct fs))
    (hone : oneCellFields P fs = true) (hC : P.cellsOf e = fs.size) (h : DataW.trod enc P w base spare held fuel t cs = some x) :
    (cs = [.slice none 0 0] ∧ x = (.nil, [])) ∨
    ∃ (a : Addr) (len cap m : Nat) (D : Nat → DataW H) (Pl : Nat → List MemPlace), cs = [.slice (some a) len cap] ∧ base ≤ a.block ∧ len ≤ cap ∧ cap ≤ maxLen ∧ m = (if spare a.block then cap else len) ∧
      x = (.slice ((List.range len).map D) ((List.range (m - len)).map fun j => D (len + j)), MemPlace.row a (m * fs.size) ++ (List.range m).flatMap Pl) ∧
      ∀ i, i < m → ∃ (ys : List (DataW H × List MemPlace)) (n : Nat), D i = .agg (ys.map (·.1)) ∧ Pl i = ys.flatMap (·.2) ∧ ys.length = fs.size ∧
        ∀ (j : Nat) (f : Field), fs[j]? = some f → ∃ (v : Value) (y : DataW H × List MemPlace), w.cell? (a.add (i * fs.size + j)) = some v ∧ ys[j]? = some y ∧ DataW.trod enc P w base spare held n f.type [v] = some y := by
  rcases open_slice ht h with h0 | ⟨a, len, cap, m, n, D, Pl, hcs, hb, hl, hm, hmm, hx, hi⟩
  · exact .inl h0
  · refine .inr ⟨a, len, cap, m, D, Pl, hcs, hb, hl, hm, hmm, by rw [hC] at hx; exact hx, fun i him => ?_⟩
    obtain ⟨cs', hc, ht'⟩ := hi i him
    rw [hC] at hc
    obtain ⟨ys, n', hn', hy, hlen, hyl, hf⟩ := DataW.trod_struct he ht'
    obtain ⟨_, hcl, hat⟩ := World.cells?_some hc
    simp only [Prod.mk.injEq] at hy
    refine ⟨ys, n', hy.1, hy.2, hyl, fun j f hj => ?_⟩
    obtain ⟨ho, hk⟩ := hone_of hone j f hj
    have hjl : j < fs.size := (Array.getElem?_eq_some_iff.1 hj).1
    have hcell := hat j hjl
    have hv : cs'[j]? = some (cs'[j]'(by omega)) := List.getElem?_eq_getElem (by omega)
    have h1 := hf j f hj
    rw [ho, hk] at h1
    have hone' : (cs'.drop j).take 1 = [cs'[j]'(by omega)] := by
      rw [List.drop_eq_getElem_cons (by omega)]
      rfl
    rw [hone'] at h1
    have hys : ys[j]? = some (ys[j]'(by omega)) := List.getElem?_eq_getElem (by omega)
    refine ⟨_, _, ?_, hys, h1.trans hys⟩
    rw [← Go.Deep.add_add, hcell, hv]

theorem elem_addr {a : Addr} {b off : Nat} {i j k : Nat} (ha : a = ⟨b, off, none⟩) : a.add (i * k + j) = ⟨b, off + i * k + j, none⟩ := by subst ha; rw [add_lit, Nat.add_assoc]

/-- A list of ints, opened to what the walks ask. -/
theorem open_ints_sl {t e : TypeId} {fuel : Nat} {v : Value} {x : DataW H × List MemPlace} (ht : P.underlying t = some (.slice e)) (he : P.underlying e = some (.int .i64)) (hc : P.cellsOf e = 1)
    (h : DataW.trod enc P w base spare held fuel t [v] = some x) : ∃ A n c xs, v = .slice A n c ∧ Sl w 1 A n (ints xs) ∧ n ≤ 9223372036854775807 ∧ n ≤ c ∧ c ≤ 9223372036854775807 ∧ ∀ z ∈ xs, -9223372036854775808 ≤ z ∧ z ≤ 9223372036854775807 := by
  rcases open_ints ht he hc h with ⟨hcs, _⟩ | ⟨a, len, cap, zs, hcs, _, hl, hm, hz, _, hcell, hwz⟩
  · obtain rfl : v = .slice none 0 0 := by simpa using hcs
    exact ⟨_, _, _, [], rfl, Sl.nil_, by omega, by omega, by omega, by simp⟩
  · obtain rfl : v = .slice (some a) len cap := by simpa using hcs
    have hmax : cap ≤ 9223372036854775807 := by simpa [maxLen] using hm
    have hlz : len ≤ zs.length := by rw [hz]; split <;> omega
    refine ⟨_, _, _, zs.take len, rfl, ⟨by rw [ints_len, List.length_take]; omega, fun hn => ?_⟩, by omega, by omega, by omega, fun z hzm => ?_⟩
    · have h0 := hcell 0 (by omega)
      have hs : a.spot = none := by
        have := spot_of_cell h0
        unfold Addr.add at this
        simpa using this
      have ha := addr_eta hs
      have hb := lt_of_cell h0
      have e0 : (a.add 0) = a := by unfold Addr.add; simp
      rw [e0] at hb
      refine ⟨a.block, a.off, by rw [← ha], hb, fun j u hu => ?_⟩
      have hj : j < len := by
        have := lt_of_at hu
        rw [ints_len, List.length_take] at this
        omega
      have hcj := hcell j (by omega)
      rw [ha, add_lit] at hcj
      rw [hcj]
      simp only [ints, List.getElem?_map, List.getElem?_take, if_pos hj] at hu
      rw [List.getElem?_eq_getElem (by omega : j < zs.length)] at hu
      rw [List.getD_eq_getElem?_getD, List.getElem?_eq_getElem (by omega : j < zs.length)]
      simpa using hu
    · have hw := hwz z (List.mem_of_mem_take hzm)
      simpa [Lit.wf, IntKind.min, IntKind.max, IntKind.signed, IntKind.bits] using hw
theorem trod_int64 {t : TypeId} {fuel : Nat} {v : Value} {x : DataW H × List MemPlace} (ht : P.underlying t = some (.int .i64)) (h : DataW.trod enc P w base spare held fuel t [v] = some x) :
    ∃ z, v = .int .i64 z ∧ -9223372036854775808 ≤ z ∧ z ≤ 9223372036854775807 := by
  obtain ⟨z, hv, _, hw⟩ := DataW.trod_int ht h
  refine ⟨z, by simpa using hv, ?_⟩
  simpa [Lit.wf, IntKind.min, IntKind.max, IntKind.signed, IntKind.bits] using hw
/-- A list of records of one-cell fields, opened to what the walks ask. -/
theorem open_rows {t e : TypeId} {fs : Array Field} {r : Reach} {b0 : Nat} {v : Value} {d : DataW H} {p : List MemPlace} (ht : P.underlying t = some (.slice e)) (he : P.underlying e = some (.struct fs))
    (hone : oneCellFields P fs = true) (hC : P.cellsOf e = fs.size) (hpos : 0 < fs.size) (hv : Value.okWide P w r b0 t v) (h : DataW.Trod enc P w base spare held t v d p) :
    ∃ A n c, v = .slice A n c ∧ n ≤ 9223372036854775807 ∧ n ≤ c ∧ c ≤ 9223372036854775807 ∧ (0 < n → ∃ b off, A = some ⟨b, off, none⟩ ∧ ∀ k, k < n → ∃ (N : Nat), ∀ (j : Nat) (f : Field), fs[j]? = some f →
      ∃ (u : Value) (y : DataW H × List MemPlace), w.cell? ⟨b, off + k * fs.size + j, none⟩ = some u ∧ DataW.trod enc P w base spare held N f.type [u] = some y) := by
  obtain ⟨A0, n0, c0, rfl⟩ := okWide_slice ht hv
  obtain ⟨fuel, hf⟩ := h
  rcases open_slice_fields ht he hone hC hf with ⟨hcs, _⟩ | ⟨a, len, cap, m, D, Pl, hcs, _, hl, hm, hmm, _, hi⟩
  · have hcs' : [Value.slice A0 n0 c0] = [Value.slice none 0 0] := hcs
    injection hcs' with e1 _
    injection e1 with e1 e2 e3
    subst e1; subst e2; subst e3
    exact ⟨_, _, _, rfl, by omega, by omega, by omega, fun h => absurd h (by omega)⟩
  · have hcs' : [Value.slice A0 n0 c0] = [Value.slice (some a) len cap] := hcs
    injection hcs' with e1 _
    injection e1 with e1 e2 e3
    subst e1; subst e2; subst e3
    have hmax : c0 ≤ 9223372036854775807 := by simpa [maxLen] using hm
    have hle : n0 ≤ m := by rw [hmm]; split <;> omega
    refine ⟨_, _, _, rfl, by omega, by omega, by omega, fun hn => ?_⟩
    obtain ⟨ys, N, _, _, _, hf0⟩ := hi 0 (by omega)
    obtain ⟨u0, y0, hc0, _⟩ := hf0 0 (fs[0]'hpos) (by simp [hpos])
    have hs : a.spot = none := by
      have := spot_of_cell hc0
      unfold Addr.add at this
      simpa using this
    have ha := addr_eta hs
    refine ⟨a.block, a.off, by rw [← ha], fun k hk => ?_⟩
    obtain ⟨ys, N, _, _, _, hfk⟩ := hi k (by omega)
    refine ⟨N, fun j f hj => ?_⟩
    obtain ⟨u, y, hcell, _, ht⟩ := hfk j f hj
    rw [elem_addr ha] at hcell
    exact ⟨u, y, hcell, ht⟩
/-- One field of a record, by its number. -/
theorem field_at {fs : Array Field} {xs : List (DataW H × List MemPlace)} {m : Nat} {cs : List Value} (hf : ∀ (i : Nat) (f : Field), fs[i]? = some f → DataW.trod enc P w base spare held m f.type ((cs.drop f.offset).take (P.cellsOf f.type)) = xs[i]?)
    (hl : xs.length = fs.size) (i : Nat) {T off C : Nat} (h : (fs[i]?).map (fun f => (f.type, f.offset)) = some (T, off)) (hC : P.cellsOf T = C) : ∃ y, DataW.trod enc P w base spare held m T ((cs.drop off).take C) = some y := by
  obtain ⟨f, hi, hfo⟩ := Option.map_eq_some_iff.1 h
  simp only [Prod.mk.injEq] at hfo
  obtain ⟨rfl, rfl⟩ := hfo
  have := hf i f hi
  have hlt : i < xs.length := by
    rw [hl]; exact (Array.getElem?_eq_some_iff.1 hi).1
  rw [hC, List.getElem?_eq_getElem hlt] at this
  exact ⟨_, this⟩
theorem array_at {xs : List (DataW H × List MemPlace)} {m n e C : Nat} {cs : List Value} (hf : ∀ (i : Nat), i < n → DataW.trod enc P w base spare held m e ((cs.drop (i * P.cellsOf e)).take (P.cellsOf e)) = xs[i]?)
    (hl : xs.length = n) (i : Nat) (hi : i < n) (hC : P.cellsOf e = C) : ∃ y, DataW.trod enc P w base spare held m e ((cs.drop (i * C)).take C) = some y := by
  have := hf i hi
  rw [hC, List.getElem?_eq_getElem (by omega)] at this
  exact ⟨_, this⟩

/-- A list of elements of whatever type that has cells, opened: each element's cells and their reading. -/
theorem open_elems {t e : TypeId} {r : Reach} {b0 : Nat} {C : Nat} {v : Value} {d : DataW H} {p : List MemPlace} (ht : P.underlying t = some (.slice e)) (hC : P.cellsOf e = C) (hpos : 0 < C)
    (hv : Value.okWide P w r b0 t v) (h : DataW.Trod enc P w base spare held t v d p) :
    ∃ A n c, v = .slice A n c ∧ n ≤ 9223372036854775807 ∧ n ≤ c ∧ c ≤ 9223372036854775807 ∧ (0 < n → ∃ b off, A = some ⟨b, off, none⟩ ∧ b < w.heap.size ∧ ∀ k, k < n → ∃ (N : Nat) (cs : List Value) (y : DataW H × List MemPlace),
      cs.length = C ∧ (∀ j u, cs[j]? = some u → w.cell? ⟨b, off + k * C + j, none⟩ = some u) ∧ DataW.trod enc P w base spare held N e cs = some y) := by
  obtain ⟨A0, n0, c0, rfl⟩ := okWide_slice ht hv
  obtain ⟨fuel, hf⟩ := h
  rcases open_slice ht hf with ⟨hcs, _⟩ | ⟨a, len, cap, m, n, D, Pl, hcs, _, hl, hm, hmm, _, hi⟩
  · have hcs' : [Value.slice A0 n0 c0] = [Value.slice none 0 0] := hcs
    injection hcs' with e1 _
    injection e1 with e1 e2 e3
    subst e1; subst e2; subst e3
    exact ⟨_, _, _, rfl, by omega, by omega, by omega, fun h => absurd h (by omega)⟩
  · have hcs' : [Value.slice A0 n0 c0] = [Value.slice (some a) len cap] := hcs
    injection hcs' with e1 _
    injection e1 with e1 e2 e3
    subst e1; subst e2; subst e3
    have hmax : c0 ≤ 9223372036854775807 := by simpa [maxLen] using hm
    have hle : n0 ≤ m := by rw [hmm]; split <;> omega
    refine ⟨_, _, _, rfl, by omega, by omega, by omega, fun hn => ?_⟩
    rw [hC] at hi
    have hat : ∀ k, k < n0 → ∃ cs', (∀ j, j < C → w.cell? (a.add (k * C + j)) = cs'[j]?) ∧ cs'.length = C ∧ DataW.trod enc P w base spare held n e cs' = some (D k, Pl k) := by
      intro k hk
      obtain ⟨cs', hc, ht'⟩ := hi k (by omega)
      obtain ⟨_, hcl, hat⟩ := World.cells?_some hc
      exact ⟨cs', fun j hj => by rw [← Go.Deep.add_add]; exact hat j hj, hcl, ht'⟩
    obtain ⟨cs0, h0, hl0, _⟩ := hat 0 (by omega)
    have hc0 := h0 0 hpos
    rw [List.getElem?_eq_getElem (by omega)] at hc0
    have hs : a.spot = none := by
      have := spot_of_cell hc0
      unfold Addr.add at this
      simpa using this
    have ha := addr_eta hs
    have hbl := lt_of_cell hc0
    rw [ha, add_lit] at hbl
    refine ⟨a.block, a.off, by rw [← ha], hbl, fun k hk => ?_⟩
    obtain ⟨cs, h1, hl1, ht1⟩ := hat k hk
    refine ⟨n, cs, _, hl1, fun j u hj => ?_, ht1⟩
    have hjl : j < C := by have := lt_of_at hj; omega
    have := h1 j hjl
    rw [elem_addr ha, hj] at this
    exact this
theorem trod_f64 {t : TypeId} {fuel : Nat} {v : Value} {x : DataW H × List MemPlace} (ht : P.underlying t = some (.float .f64)) (h : DataW.trod enc P w base spare held fuel t [v] = some x) : ∃ z, v = .float .f64 z := by
  cases fuel with
  | zero => simp [DataW.trod] at h
  | succ n =>
    unfold DataW.trod at h
    rw [ht] at h
    cases v <;> simp at h
    obtain ⟨⟨rfl, _⟩, _⟩ := h
    exact ⟨_, rfl⟩
end
end Go.Proofs.Ytflamhndmggiaaa
/-
  The argument of a law, opened with the reach of all that is met: whatever string, whatever slice is no larger than R bytes.
-/
namespace Go.Proofs.Ytflamhndmggiaaa
open Go.ChangeShapes Go.WideShapes Go.ChangeAt Go.RowKit Go.Deep

theorem reach_ok : reachBytes ≤ 150000000000001 := by unfold reachBytes; omega
theorem weightsAll_mem {H : Type} {P : Program} {e : TypeId} : ∀ {l : List (DataW H)} {d : DataW H}, d ∈ l → ∀ n ∈ d.weights P e, n ∈ DataW.weightsAll P e l
  | d' :: r, d, hd, n, hn => by
    simp only [DataW.weightsAll, List.mem_append]
    rcases List.mem_cons.1 hd with rfl | h
    · exact Or.inl hn
    · exact Or.inr (weightsAll_mem h n hn)

section
variable {H : Type} {enc : TypeId × Value → H} {P : Program} {w : World} {base : Nat} {spare : Nat → Bool} {held : Bool} {R : Nat}
/-- A list of elements of C cells each, opened. -/
theorem open_list {t e C fuel : Nat} {v : Value} {x : DataW H × List MemPlace} (ht : P.underlying t = some (.slice e)) (hC : P.cellsOf e = C) (hpos : 0 < C)
    (h : DataW.trod enc P w base spare held fuel t [v] = some x) (hw : ∀ q ∈ x.1.weights P t, q ≤ R) :
    ∃ A n c, v = .slice A n c ∧ n ≤ c ∧ c ≤ 9223372036854775807 ∧ n * P.bytesOf e ≤ R ∧ (0 < n → ∃ b off, A = some ⟨b, off, none⟩ ∧ b < w.heap.size ∧ ∀ k, k < n →
      ∃ (cs : List Value) (N : Nat) (y : DataW H × List MemPlace), cs.length = C ∧ (∀ j, j < C → w.cell? ⟨b, off + k * C + j, none⟩ = cs[j]?) ∧ DataW.trod enc P w base spare held N e cs = some y ∧ ∀ q ∈ y.1.weights P e, q ≤ R) := by
  rcases open_slice ht h with ⟨hcs, _⟩ | ⟨a, len, cap, m, N, D, Pl, hcs, _, hl, hm, hmm, hx, hi⟩
  · obtain rfl : v = .slice none 0 0 := by simpa using hcs
    exact ⟨_, _, _, rfl, by omega, by omega, by omega, fun h => absurd h (by omega)⟩
  · obtain rfl : v = .slice (some a) len cap := by simpa using hcs
    have hmax : cap ≤ 9223372036854775807 := by simpa [maxLen] using hm
    have hle : len ≤ m := by rw [hmm]; split <;> omega
    have hW : (len + (m - len)) * P.bytesOf e ≤ R := by
      apply hw
      rw [hx]
      simp [DataW.weights, ht]
    have hlb : len * P.bytesOf e ≤ R := Nat.le_trans (Nat.mul_le_mul_right _ (by omega)) hW
    refine ⟨_, _, _, rfl, by omega, by omega, hlb, fun hn => ?_⟩
    obtain ⟨cs0, hc0, _⟩ := hi 0 (by omega)
    rw [hC] at hc0
    obtain ⟨_, hcl0, hat0⟩ := World.cells?_some hc0
    have h00 := hat0 0 (by omega)
    rw [List.getElem?_eq_getElem (by omega)] at h00
    have hs : a.spot = none := by
      have := spot_of_cell h00
      unfold Addr.add at this
      simpa using this
    have ha := addr_eta hs
    have hb : a.block < w.heap.size := by
      have := lt_of_cell h00
      unfold Addr.add at this
      simpa using this
    refine ⟨a.block, a.off, by rw [← ha], hb, fun k hk => ?_⟩
    obtain ⟨cs, hc, hk'⟩ := hi k (by omega)
    rw [hC] at hc
    obtain ⟨_, hcl, hat⟩ := World.cells?_some hc
    refine ⟨cs, N, _, hcl, fun j hj => ?_, hk', fun q hq => ?_⟩
    · have := hat j hj
      rw [ha] at this
      simp only [add_lit] at this
      exact this
    · apply hw
      rw [hx]
      simp only [DataW.weights, ht, List.mem_cons, List.mem_append]
      refine Or.inr (Or.inl (weightsAll_mem (d := D k) ?_ q hq))
      exact List.mem_map.mpr ⟨k, List.mem_range.mpr hk, rfl⟩
/-- .. of a law's argument. -/
theorem open_top {t e C b0 : Nat} {r : Reach} {v : Value} {d : DataW H} {p : List MemPlace} (ht : P.underlying t = some (.slice e)) (hC : P.cellsOf e = C) (hpos : 0 < C) (hv : Value.okWide P w r b0 t v)
    (h : DataW.Trod enc P w base spare held t v d p) (hw : ∀ q ∈ d.weights P t, q ≤ R) :
    ∃ A n c, v = .slice A n c ∧ n ≤ c ∧ c ≤ 9223372036854775807 ∧ n * P.bytesOf e ≤ R ∧ (0 < n → ∃ b off, A = some ⟨b, off, none⟩ ∧ b < w.heap.size ∧ ∀ k, k < n →
      ∃ (cs : List Value) (N : Nat) (y : DataW H × List MemPlace), cs.length = C ∧ (∀ j, j < C → w.cell? ⟨b, off + k * C + j, none⟩ = cs[j]?) ∧ DataW.trod enc P w base spare held N e cs = some y ∧ ∀ q ∈ y.1.weights P e, q ≤ R) := by
  obtain ⟨A0, n0, c0, rfl⟩ := okWide_slice ht hv
  obtain ⟨fuel, hf⟩ := h
  exact open_list ht hC hpos hf hw
/-- A record's field, opened. -/
theorem open_field {e N : Nat} {fs : Array Field} {cs : List Value} {y : DataW H × List MemPlace} (he : P.underlying e = some (.struct fs)) (h : DataW.trod enc P w base spare held N e cs = some y) (hw : ∀ q ∈ y.1.weights P e, q ≤ R)
    (i : Nat) {T off C : Nat} (hf : (fs[i]?).map (fun f => (f.type, f.offset)) = some (T, off)) (hC : P.cellsOf T = C) :
    ∃ (M : Nat) (z : DataW H × List MemPlace), DataW.trod enc P w base spare held M T ((cs.drop off).take C) = some z ∧ ∀ q ∈ z.1.weights P T, q ≤ R := by
  obtain ⟨ys, n', _, hy, _, hyl, hff⟩ := DataW.trod_struct he h
  obtain ⟨f, hi, hfo⟩ := Option.map_eq_some_iff.1 hf
  simp only [Prod.mk.injEq] at hfo
  obtain ⟨rfl, rfl⟩ := hfo
  have hlt : i < ys.length := by rw [hyl]; exact (Array.getElem?_eq_some_iff.1 hi).1
  have h1 := hff i f hi
  rw [hC, List.getElem?_eq_getElem hlt] at h1
  refine ⟨_, _, h1, fun q hq => hw q ?_⟩
  rw [hy]
  simp only [DataW.weights, he]
  refine DataW.weights_mem_each (j := i) (t := f.type) (d := ys[i].1) ?_ ?_ q hq
  · rw [List.getElem?_map, Array.getElem?_toList, hi]; rfl
  · rw [List.getElem?_map, List.getElem?_eq_getElem hlt]; rfl
theorem one_cell {cs : List Value} {C j : Nat} (hl : cs.length = C) (hj : j < C) : ∃ u, cs[j]? = some u ∧ (cs.drop j).take 1 = [u] := by
  have hj' : j < cs.length := by omega
  refine ⟨cs[j], List.getElem?_eq_getElem hj', ?_⟩
  rw [List.drop_eq_getElem_cons hj']
  rfl
/-- A list of one-cell elements, each of a kind. -/
theorem open_kind {α : Type} {f : α → Value} {Pp : α → Prop} {t e fuel : Nat} {v : Value} {x : DataW H × List MemPlace} (ht : P.underlying t = some (.slice e)) (hC : P.cellsOf e = 1)
    (hk : ∀ (N : Nat) (u : Value) (y : DataW H × List MemPlace), DataW.trod enc P w base spare held N e [u] = some y → (∀ q ∈ y.1.weights P e, q ≤ R) → ∃ a, u = f a ∧ Pp a)
    (h : DataW.trod enc P w base spare held fuel t [v] = some x) (hw : ∀ q ∈ x.1.weights P t, q ≤ R) :
    ∃ A n c, ∃ xs : List α, v = .slice A n c ∧ Sl w 1 A n (xs.map f) ∧ n ≤ c ∧ c ≤ 9223372036854775807 ∧ n * P.bytesOf e ≤ R ∧ ∀ a ∈ xs, Pp a := by
  obtain ⟨A, n, c, rfl, h1, h2, h3, h4⟩ := open_list ht hC (by omega) h hw
  rcases Nat.eq_zero_or_pos n with rfl | hn
  · exact ⟨A, 0, c, [], rfl, ⟨by simp, fun h => absurd h (by omega)⟩, h1, h2, h3, by simp⟩
  · obtain ⟨b, off, rfl, hb, hc⟩ := h4 hn
    have hall : ∀ k : Fin n, ∃ a, w.cell? ⟨b, off + k.val, none⟩ = some (f a) ∧ Pp a := by
      intro k
      obtain ⟨cs, N, y, hl, hcell, htr, hq⟩ := hc k.val k.isLt
      obtain ⟨u, hu, _⟩ := one_cell hl (show 0 < 1 by omega)
      have : cs = [u] := by
        match cs, hl, hu with
        | [z], _, hu => simpa using hu
      subst this
      obtain ⟨a, rfl, ha⟩ := hk N u y htr hq
      refine ⟨a, ?_, ha⟩
      have := hcell 0 (by omega)
      simpa using this
    let g : Fin n → α := fun k => (hall k).choose
    have hg : ∀ k, w.cell? ⟨b, off + k.val, none⟩ = some (f (g k)) ∧ Pp (g k) := fun k => (hall k).choose_spec
    refine ⟨_, n, c, List.ofFn g, rfl, ⟨by simp, fun _ => ⟨b, off, rfl, hb, fun j u hu => ?_⟩⟩, h1, h2, h3, fun a ha => ?_⟩
    · rw [List.getElem?_map, List.getElem?_ofFn] at hu
      split at hu
      · rename_i hj
        simp only [Option.map_some, Option.some.injEq] at hu
        rw [← hu]
        exact (hg ⟨j, hj⟩).1
      · simp at hu
    · obtain ⟨k, rfl⟩ := List.mem_ofFn.mp ha
      exact (hg k).2
theorem open_strs_w {t e fuel : Nat} {v : Value} {x : DataW H × List MemPlace} (ht : P.underlying t = some (.slice e)) (he : P.underlying e = some .string) (hC : P.cellsOf e = 1)
    (h : DataW.trod enc P w base spare held fuel t [v] = some x) (hw : ∀ q ∈ x.1.weights P t, q ≤ R) :
    ∃ A n c ls, v = .slice A n c ∧ Sl w 1 A n (strs ls) ∧ n ≤ c ∧ c ≤ 9223372036854775807 ∧ n * P.bytesOf e ≤ R ∧ ∀ s ∈ ls, s.size ≤ R := by
  refine open_kind (f := Value.string) (Pp := fun s : ByteArray => s.size ≤ R) ht hC ?_ h hw
  intro N u y htr hq
  obtain ⟨s, hs, rfl, _⟩ := DataW.trod_string he htr
  refine ⟨s, by simpa using hs, ?_⟩
  have := hq s.data.toList.length (by simp [DataW.weights])
  rw [Array.length_toList] at this
  exact this
theorem open_bytes_w {t e fuel : Nat} {v : Value} {x : DataW H × List MemPlace} (ht : P.underlying t = some (.slice e)) (he : P.underlying e = some (.int .u8)) (hC : P.cellsOf e = 1)
    (h : DataW.trod enc P w base spare held fuel t [v] = some x) (hw : ∀ q ∈ x.1.weights P t, q ≤ R) :
    ∃ A n c bs, v = .slice A n c ∧ Sl w 1 A n (bytes8 bs) ∧ n ≤ c ∧ c ≤ 9223372036854775807 ∧ n * P.bytesOf e ≤ R := by
  obtain ⟨A, n, c, bs, h1, h2, h3, h4, h5, _⟩ := open_kind (f := fun b : UInt8 => Value.int .u8 b.toNat) (Pp := fun _ : UInt8 => True) ht hC (by
    intro N u y htr hq
    obtain ⟨z, hz, _, hwf⟩ := DataW.trod_int he htr
    have hz' : 0 ≤ z ∧ z ≤ 255 := by simpa [Lit.wf, IntKind.min, IntKind.max, IntKind.signed, IntKind.bits] using hwf
    refine ⟨UInt8.ofNat z.toNat, ?_, trivial⟩
    have : (UInt8.ofNat z.toNat).toNat = z.toNat := by rw [UInt8.toNat_ofNat']; omega
    rw [this]
    simp only [List.cons.injEq, and_true] at hz
    rw [hz]
    congr 1
    omega) h hw
  exact ⟨A, n, c, bs, h1, h2, h3, h4, h5⟩
theorem open_ints_w {t e fuel : Nat} {v : Value} {x : DataW H × List MemPlace} (ht : P.underlying t = some (.slice e)) (he : P.underlying e = some (.int .i64)) (hC : P.cellsOf e = 1)
    (h : DataW.trod enc P w base spare held fuel t [v] = some x) (hw : ∀ q ∈ x.1.weights P t, q ≤ R) :
    ∃ A n c xs, v = .slice A n c ∧ Sl w 1 A n (ints xs) ∧ n ≤ c ∧ c ≤ 9223372036854775807 ∧ n * P.bytesOf e ≤ R ∧ ∀ z ∈ xs, -9223372036854775808 ≤ z ∧ z ≤ 9223372036854775807 := by
  refine open_kind (f := Value.int .i64) (Pp := fun z : Int => -9223372036854775808 ≤ z ∧ z ≤ 9223372036854775807) ht hC ?_ h hw
  intro N u y htr hq
  obtain ⟨z, hz, _, hwf⟩ := DataW.trod_int he htr
  refine ⟨z, by simpa using hz, ?_⟩
  simpa [Lit.wf, IntKind.min, IntKind.max, IntKind.signed, IntKind.bits] using hwf
end
end Go.Proofs.Ytflamhndmggiaaa
