/-
  Texts joined: words and contracts that later texts use; lemmas alone, no conditions of a statement.
-/
import Derived.Test.YtebaojcfmkobjaaGr02
import Derived.Test.YtebaojcfmkobjaaGr01
import Derived.StillTailTactics
import Derived.Deep.RegionHeld3
import Derived.Test.YtebaojcfmkobjaaGr00
set_option linter.unusedVariables false
set_option linter.unusedSimpArgs false
/-
  Contracts of the references' functions over lists of numbers: copies, comparisons.
-/
namespace Go.Proofs.Ytebaojcfmkobjaa
open Go.RowKit

end Go.Proofs.Ytebaojcfmkobjaa
/-
  Contracts of the references' functions over lists of bytes: copies, comparisons.
-/
namespace Go.Proofs.Ytebaojcfmkobjaa
open Go.RowKit

end Go.Proofs.Ytebaojcfmkobjaa
/-
  Contracts of reading numbers: wire's own: what bytes are read as, or none.
-/
namespace Go.Proofs.Ytebaojcfmkobjaa
open Go.RowKit


end Go.Proofs.Ytebaojcfmkobjaa
/-
  Contracts of the statements' spoilers (answers are written over), and of the references' lists of numbers.
-/
namespace Go.Proofs.Ytebaojcfmkobjaa
open Go.RowKit

end Go.Proofs.Ytebaojcfmkobjaa
/-
  Small words for the walks of the laws.
-/
namespace Go.Proofs.Ytebaojcfmkobjaa
open Go.RowKit

theorem below_then {w w1 w2 : World} (h : Below w.heap.size w w1) (h' : Below w1.heap.size w1 w2) : Below w.heap.size w w2 := h.trans (h'.mono h.size)
theorem own_drewN {w : World} {base size n : Nat} {e : TypeId} {v : Value} {xs : List Value} (h : w.ownsRow base e size v n xs) (q : Nat) : (w.drewN q).ownsRow base e size v n xs := h
theorem Sl.of_blk {w : World} {g size n : Nat} {t : TypeId} {cs : Array Value} (h : Blk w g t cs) (hs : cs.size = n * size) : Sl w size (some ⟨g, 0, none⟩) n cs.toList := by
  refine ⟨by simpa using hs, fun _ => ⟨g, 0, rfl, h.lt, fun j u hu => ?_⟩⟩
  rw [Nat.zero_add, h.cell]
  simpa using hu
theorem own_of_blk {w : World} {base g size n : Nat} {e : TypeId} {cs : Array Value} (h : Blk w g e cs) (hb : base ≤ g) (hs : cs.size = n * size) (hm : n ≤ 9223372036854775807) : w.ownsRow base e size (.slice (some ⟨g, 0, none⟩) n n) n cs.toList :=
  ⟨by simpa using hs, .inr ⟨g, n, cs, rfl, hb, h, Nat.le_refl _, by unfold maxLen; omega, hs, by rw [← hs, ← Array.length_toList, List.take_length]⟩⟩
theorem own_mono {w : World} {base base' size n : Nat} {e : TypeId} {v : Value} {xs : List Value} (h : w.ownsRow base e size v n xs) (hb : base' ≤ base) : w.ownsRow base' e size v n xs := by
  refine ⟨h.1, ?_⟩
  rcases h.2 with h0 | ⟨g, cap, cur, hv, hbg, hg, hr⟩
  · exact .inl h0
  · exact .inr ⟨g, cap, cur, hv, Nat.le_trans hb hbg, hg, hr⟩
theorem Blk.new2 (w : World) (o : Obj) (t : TypeId) (cs : Array Value) : Blk ((w.alloc o).alloc (.cells cs t)) (w.heap.size + 1) t cs := by
  have h := Blk.new (w.alloc o) t cs
  rwa [show (w.alloc o).heap.size = w.heap.size + 1 by simp] at h
theorem Sl.two {w : World} {g : Nat} {x y : Value} (h0 : w.cell? ⟨g, 0, none⟩ = some x) (h1 : w.cell? ⟨g, 1, none⟩ = some y) : Sl w 1 (some ⟨g, 0, none⟩) 2 [x, y] := by
  refine ⟨rfl, fun _ => ⟨g, 0, rfl, lt_of_cell h0, fun j u hu => ?_⟩⟩
  rw [Nat.zero_add]
  match j, hu with
  | 0, hu => simp at hu; subst hu; exact h0
  | 1, hu => simp at hu; subst hu; exact h1
theorem Sl.two_str {w : World} {g : Nat} {x y : ByteArray} (h0 : w.cell? ⟨g, 0, none⟩ = some (.string x)) (h1 : w.cell? ⟨g, 1, none⟩ = some (.string y)) : Sl w 1 (some ⟨g, 0, none⟩) 2 (strs [x, y]) := Sl.two h0 h1
theorem Sl.two_int {w : World} {g : Nat} {x y : Int} (h0 : w.cell? ⟨g, 0, none⟩ = some (.int .i64 x)) (h1 : w.cell? ⟨g, 1, none⟩ = some (.int .i64 y)) : Sl w 1 (some ⟨g, 0, none⟩) 2 (ints [x, y]) := Sl.two h0 h1
theorem Sl.grown_old {w w' : World} {size n B : Nat} {A : Option Addr} {cs : List Value} {row : Option Nat} (h : Sl w size A n cs) (hg : w.grownBy w' row) (hB : ∀ b off, A = some ⟨b, off, none⟩ → B ≤ b) (hr : ∀ g, row = some g → g < B) : Sl w' size A n cs := by
  refine ⟨h.1, fun hn => ?_⟩
  obtain ⟨b, off, e, hb, hc⟩ := h.2 hn
  refine ⟨b, off, e, Nat.lt_of_lt_of_le hb hg.size, fun j u hu => ?_⟩
  have hne : some b ≠ row := by
    intro e2
    have := hr b e2.symm
    have := hB b off e
    omega
  rw [World.cell?_of_block (a := ⟨b, off + j, none⟩) (hg.block b hb hne)]
  exact hc j u hu
theorem EndL.some_ {α : Type} {t : TypeId} {f : α → Value} {l : List α} {w w' : World} {e : Ending} (h : EndL t f (some l) w e w') : ∃ v, e = .returned (.tuple #[v, .bool true]) ∧ w'.ownsRow w.heap.size t 1 v l.length (l.map f) ∧ Below w.heap.size w w' := h
end Go.Proofs.Ytebaojcfmkobjaa
/-
  Contracts: texts that are numbers, read into variables: wire's; one: the reference's.
-/
namespace Go.Proofs.Ytebaojcfmkobjaa
open Go.RowKit

end Go.Proofs.Ytebaojcfmkobjaa
/-
  Messages: which may be, their bytes: plain facts, over no program.
-/
namespace Go.Proofs.Ytebaojcfmkobjaa
open Go.RowKit

/-- A batch. -/
structure BtD where
  a : Int
  n : Int
  l : List TxD
theorem BtD.ext_ {x y : BtD} (h1 : x.a = y.a) (h2 : x.n = y.n) (h3 : x.l = y.l) : x = y := by
  cases x; cases y; simp_all
instance : DecidableEq BtD := fun x y =>
  decidable_of_iff (x.a = y.a ∧ x.n = y.n ∧ x.l = y.l) ⟨fun ⟨h1, h2, h3⟩ => BtD.ext_ h1 h2 h3, fun h => by subst h; exact ⟨rfl, rfl, rfl⟩⟩
def zB : BtD := ⟨0, 0, []⟩
def zH : HdD := ⟨0, 0, [], []⟩
def zC : CtD := ⟨zH, 0, []⟩
/-- A message. -/
structure MsD where
  k : Int
  f : Int
  t : Int
  d : Int
  b : BtD
  h : HdD
  c : CtD
  s : List Int
theorem MsD.ext_ {x y : MsD} (h1 : x.k = y.k) (h2 : x.f = y.f) (h3 : x.t = y.t) (h4 : x.d = y.d) (h5 : x.b = y.b) (h6 : x.h = y.h) (h7 : x.c = y.c) (h8 : x.s = y.s) : x = y := by
  cases x; cases y; simp_all
theorem MsD.eq_iff {x y : MsD} : x = y ↔ x.k = y.k ∧ x.f = y.f ∧ x.t = y.t ∧ x.d = y.d ∧ x.b = y.b ∧ x.h = y.h ∧ x.c = y.c ∧ x.s = y.s :=
  ⟨fun h => by subst h; exact ⟨rfl, rfl, rfl, rfl, rfl, rfl, rfl, rfl⟩, fun ⟨h1, h2, h3, h4, h5, h6, h7, h8⟩ => MsD.ext_ h1 h2 h3 h4 h5 h6 h7 h8⟩
instance : DecidableEq MsD := fun _ _ => decidable_of_iff _ MsD.eq_iff.symm
def zM : MsD := ⟨0, 0, 0, 0, zB, zH, zC, []⟩

/-- What its kind names, of a message: the digest, the batch, the header, the certificate, digests. -/
def hasD (k : Int) : Bool := decide (1 ≤ k ∧ k ≤ 5)
def hasB (k : Int) : Bool := decide (k = 1 ∨ k = 3)
def hasH (k : Int) : Bool := decide (k = 4)
def hasC (k : Int) : Bool := decide (k = 6)
def hasS (k : Int) : Bool := decide (k = 7 ∨ k = 8)
def onlyM (x : MsD) : MsD := ⟨x.k, x.f, x.t, if hasD x.k then x.d else 0, if hasB x.k then x.b else zB, if hasH x.k then x.h else zH, if hasC x.k then x.c else zC, if hasS x.k then x.s else []⟩
/-- Is there such a kind, and may what it names be? -/
def okM (n : Int) (x : MsD) : Bool :=
  if hasB x.k then digO x.d && (mayB x.b.a x.b.n x.b.l && decide (x.b.a ≤ n))
  else if hasH x.k then digO x.d && (mayH n x.h && decide (x.h.a = x.f))
  else if hasD x.k then digO x.d
  else if hasC x.k then mayC n x.c
  else if hasS x.k then decide (1 ≤ x.s.length) && (decide (x.s.length ≤ 16) && digs x.s)
  else false
def pairM (n : Int) (x : MsD) : Bool := isC n && (decide (1 ≤ x.f ∧ x.f ≤ n) && (decide (1 ≤ x.t ∧ x.t ≤ n) && decide (x.f ≠ x.t)))
def mayM (n : Int) (x : MsD) : Bool := pairM n x && (okM n x && decide (onlyM x = x))
theorem pairM_iff {n : Int} {x : MsD} : pairM n x = true ↔ isC n = true ∧ (1 ≤ x.f ∧ x.f ≤ n) ∧ (1 ≤ x.t ∧ x.t ≤ n) ∧ x.f ≠ x.t := by simp [pairM]
theorem mayM_iff {n : Int} {x : MsD} : mayM n x = true ↔ pairM n x = true ∧ okM n x = true ∧ onlyM x = x := by simp [mayM]
/-- The kinds. -/
theorem okM_kinds {n : Int} {x : MsD} (h : okM n x = true) : x.k = 1 ∨ x.k = 2 ∨ x.k = 3 ∨ x.k = 4 ∨ x.k = 5 ∨ x.k = 6 ∨ x.k = 7 ∨ x.k = 8 := by
  unfold okM hasB hasH hasD hasC hasS at h
  split at h
  · rename_i h1; simp at h1; omega
  · split at h
    · rename_i h1; simp at h1; omega
    · split at h
      · rename_i h1; simp at h1; omega
      · split at h
        · rename_i h1; simp at h1; omega
        · split at h
          · rename_i h1; simp at h1; omega
          · cases h

/-- A batch's bytes, a header's, where it has some. -/
def btB (x : BtD) : List UInt8 := if mayB x.a x.n x.l then batchB x.a x.n x.l else []
def hdB (x : HdD) : List UInt8 := if formH 16 x then headerB x else []
theorem mayH_form {n : Int} {x : HdD} (h : mayH n x = true) : formH 16 x = true := by
  obtain ⟨h1, h2, _⟩ := mayH_iff.1 h
  obtain ⟨_, h3, _⟩ := isC_iff.1 h1
  obtain ⟨g1, g2, g3, g4, g5, g6, g7⟩ := formH_iff.1 h2
  exact formH_iff.2 ⟨by omega, g2, g3, g4, g5, by omega, g7⟩
/-- What holds of a message that may be, its kind set aside. -/
structure Good (x : MsD) : Prop where
  k : 0 ≤ x.k ∧ x.k ≤ 8
  f : 0 ≤ x.f ∧ x.f ≤ 16
  t : 0 ≤ x.t ∧ x.t ≤ 16
  d : 0 ≤ x.d ∧ x.d ≤ 65536
  cd : 0 ≤ x.c.d ∧ x.c.d ≤ 65536
  b : mayB x.b.a x.b.n x.b.l = true ∨ x.b = zB
  h : formH 16 x.h = true ∨ x.h = zH
  ch : formH 16 x.c.h = true ∨ x.c.h = zH
  ss : digs x.c.ss = true ∧ x.c.ss.length ≤ 16
  s : digs x.s = true ∧ x.s.length ≤ 16
theorem rises_len : ∀ (l : List Int) (lo hi : Int), rises lo hi l = true → lo ≤ hi + 1 → (l.length : Int) ≤ hi - lo + 1
  | [], lo, hi, _, h => by simp; omega
  | [a], lo, hi, h, _ => by
    have := (rises_iff.1 h).1 a (by simp)
    simp; omega
  | a :: b :: r, lo, hi, h, _ => by
    obtain ⟨h1, h2⟩ := rises_iff.1 h
    have ha := h1 a (by simp)
    rw [sortedI, Bool.and_eq_true, decide_eq_true_eq] at h2
    have hlow : ∀ (q : List Int) (z : Int), sortedI (z :: q) = true → ∀ y ∈ q, z < y := by
      intro q
      induction q with
      | nil => intro z _ y hy; simp at hy
      | cons c q ih =>
        intro z hz y hy
        rw [sortedI, Bool.and_eq_true, decide_eq_true_eq] at hz
        rcases List.mem_cons.1 hy with rfl | hy
        · exact hz.1
        · have := ih c hz.2 y hy; omega
    have hb : rises (a + 1) hi (b :: r) = true := rises_iff.2 ⟨fun x hx => by
      have h3 := h1 x (by simp [List.mem_cons.1 hx])
      have h4 : a < x := by
        rcases List.mem_cons.1 hx with rfl | hx
        · exact h2.1
        · have := hlow r b h2.2 x hx; omega
      omega, h2.2⟩
    have := rises_len (b :: r) (a + 1) hi hb (by omega)
    simp only [List.length_cons] at this ⊢
    omega
theorem good_of_may {n : Int} {x : MsD} (h : mayM n x = true) : Good x := by
  obtain ⟨h1, h2, h3⟩ := mayM_iff.1 h
  obtain ⟨g1, g2, g3, g4⟩ := pairM_iff.1 h1
  obtain ⟨_, g6, _⟩ := isC_iff.1 g1
  have hk := okM_kinds h2
  obtain ⟨_, _, _, e4, e5, e6, e7, e8⟩ := MsD.eq_iff.1 h3
  simp only [onlyM] at e4 e5 e6 e7 e8
  have zd : digs [] = true ∧ ([] : List Int).length ≤ 16 := by decide
  unfold okM at h2
  have cz : ∀ {c : CtD}, zC = c → (0 ≤ c.d ∧ c.d ≤ 65536) ∧ (formH 16 c.h = true ∨ c.h = zH) ∧ (digs c.ss = true ∧ c.ss.length ≤ 16) := by
    rintro c rfl; exact ⟨by decide, Or.inr rfl, zd⟩
  rcases hk with hk | hk | hk | hk | hk | hk | hk | hk
  all_goals
    rw [hk] at h2 e4 e5 e6 e7 e8
    simp [hasB, hasD, hasH, hasC, hasS] at h2 e4 e5 e6 e7 e8
  · obtain ⟨c1, c2, c3⟩ := cz e7
    exact ⟨by omega, by omega, by omega, by have := digO_iff.1 h2.1; omega, c1, Or.inl h2.2.1, Or.inr e6.symm, c2, c3, by rw [e8]; exact zd⟩
  · obtain ⟨c1, c2, c3⟩ := cz e7
    exact ⟨by omega, by omega, by omega, by have := digO_iff.1 h2; omega, c1, Or.inr e5.symm, Or.inr e6.symm, c2, c3, by rw [e8]; exact zd⟩
  · obtain ⟨c1, c2, c3⟩ := cz e7
    exact ⟨by omega, by omega, by omega, by have := digO_iff.1 h2.1; omega, c1, Or.inl h2.2.1, Or.inr e6.symm, c2, c3, by rw [e8]; exact zd⟩
  · obtain ⟨c1, c2, c3⟩ := cz e7
    exact ⟨by omega, by omega, by omega, by have := digO_iff.1 h2.1; omega, c1, Or.inr e5.symm, Or.inl (mayH_form h2.2.1), c2, c3, by rw [e8]; exact zd⟩
  · obtain ⟨c1, c2, c3⟩ := cz e7
    exact ⟨by omega, by omega, by omega, by have := digO_iff.1 h2; omega, c1, Or.inr e5.symm, Or.inr e6.symm, c2, c3, by rw [e8]; exact zd⟩
  · obtain ⟨m1, m2, m3, m4⟩ := mayC_iff.1 h2
    have hr := rises_iff.1 m3
    refine ⟨by omega, by omega, by omega, by omega, by have := digO_iff.1 m2; omega, Or.inr e5.symm, Or.inr e6.symm, Or.inl (mayH_form m1), ⟨digs_iff.2 ⟨fun y hy => by have := hr.1 y hy; omega, hr.2⟩, ?_⟩, by rw [e8]; exact zd⟩
    have := rises_len _ _ _ m3 (by omega)
    omega
  · obtain ⟨c1, c2, c3⟩ := cz e7
    exact ⟨by omega, by omega, by omega, by omega, c1, Or.inr e5.symm, Or.inr e6.symm, c2, c3, h2.2.2, h2.2.1⟩
  · obtain ⟨c1, c2, c3⟩ := cz e7
    exact ⟨by omega, by omega, by omega, by omega, c1, Or.inr e5.symm, Or.inr e6.symm, c2, c3, h2.2.2, h2.2.1⟩
theorem btB_le {x : BtD} : (btB x).length ≤ 2000 := by
  unfold btB
  split
  · rename_i h; exact (batch_size h).2
  · simp
theorem hdB_le {x : HdD} : (hdB x).length ≤ 300 := by
  unfold hdB
  split
  · rename_i h; exact (header_size h).2.1
  · simp
/-- Just what its kind names: told by numbers and lengths alone. -/
theorem only_iff {x : MsD} : onlyM x = x ↔ x.d = (onlyM x).d ∧ x.b.a = (onlyM x).b.a ∧ x.b.n = (onlyM x).b.n ∧ x.b.l.length = (onlyM x).b.l.length ∧
    (x.h.a = (onlyM x).h.a ∧ x.h.r = (onlyM x).h.r ∧ x.h.bs.length = (onlyM x).h.bs.length ∧ x.h.ps.length = (onlyM x).h.ps.length) ∧
    (x.c.h.a = (onlyM x).c.h.a ∧ x.c.h.r = (onlyM x).c.h.r ∧ x.c.h.bs.length = (onlyM x).c.h.bs.length ∧ x.c.h.ps.length = (onlyM x).c.h.ps.length) ∧
    x.c.d = (onlyM x).c.d ∧ x.c.ss.length = (onlyM x).c.ss.length ∧ x.s.length = (onlyM x).s.length := by
  constructor
  · intro h; rw [h]; simp
  · rintro ⟨h1, h2, h3, h4, ⟨h5, h6, h7, h8⟩, ⟨h9, g1, g2, g3⟩, g4, g5, g6⟩
    obtain ⟨k, f, t, d, ⟨ba, bn, l⟩, ⟨ha, hr, hbs, hps⟩, ⟨⟨ca, cr, cbs, cps⟩, cd, ss⟩, s⟩ := x
    unfold onlyM at *
    simp only at *
    rw [MsD.eq_iff]
    refine ⟨rfl, rfl, rfl, h1.symm, ?_, ?_, ?_, ?_⟩
    · by_cases h : hasB k = true
      · simp [h]
      · simp only [h, zB] at h2 h3 h4 ⊢
        simp at h2 h3 h4 ⊢
        subst h2; subst h3; subst h4; simp
    · by_cases h : hasH k = true
      · simp [h]
      · simp only [h, zH] at h5 h6 h7 h8 ⊢
        simp at h5 h6 h7 h8 ⊢
        subst h5; subst h6; subst h7; subst h8; simp
    · by_cases h : hasC k = true
      · simp [h]
      · simp only [h, zC, zH] at h9 g1 g2 g3 g4 g5 ⊢
        simp at h9 g1 g2 g3 g4 g5 ⊢
        subst h9; subst g1; subst g2; subst g3; subst g4; subst g5; simp
    · by_cases h : hasS k = true
      · simp [h]
      · simp only [h] at g6 ⊢
        simp at g6 ⊢
        exact g6
end Go.Proofs.Ytebaojcfmkobjaa
/-
  Contracts: which headers and certificates may be: the program's and the reference's.
-/
namespace Go.Proofs.Ytebaojcfmkobjaa
open Go.RowKit

theorem below_alloc' (w : World) (o : Obj) : Below w.heap.size w (w.alloc o) := (Below.refl _ _).alloc (Nat.le_refl _) o
set_option maxHeartbeats 400000 in
theorem com_Is (n : Int) (w : World) : Calls Try.prog 65 #[.int .i64 n] w fun e w' => e = .returned (.bool (isC n)) ∧ w = w' := by
  go_enter Try.func65, Try.ntmps65
  go_wp2
  all_goals go_ret
  all_goals exact ⟨ret_bool (by rw [Bool.eq_iff_iff]; simp [isC]; try omega), rfl⟩
set_option maxHeartbeats 400000 in
theorem com_F (n : Int) (w : World) (hn : 1 ≤ n) (hm : n ≤ 16) : Calls Try.prog 107 #[.int .i64 n] w fun e w' => e = .returned (.int .i64 ((n - 1) / 3)) ∧ w = w' := by
  go_enter Try.func107, Try.ntmps107
  go_wp2
  all_goals go_ret
  all_goals exact ⟨rfl, rfl⟩
set_option maxHeartbeats 400000 in
theorem com_Q (n : Int) (w : World) (hn : isC n = true) : Calls Try.prog 101 #[.int .i64 n] w fun e w' => e = .returned (.int .i64 (qC n)) ∧ w = w' := by
  obtain ⟨h1, h2, h3⟩ := isC_iff.1 hn
  have HQ : Hid (qC n = 2 * ((n - 1) / 3) + 1) := by unfold Hid qC; omega
  clear hn
  go_enter Try.func101, Try.ntmps101
  go_wp2_with (go_at_call 107; refine (com_F n _ h1 h2).mono ?_; rintro e w' ⟨rfl, rfl⟩)
  go_ret
  exact ⟨ret_int HQ.out.symm, rfl⟩
set_option maxHeartbeats 400000 in
theorem com_Digest (n : Int) (w : World) : Calls Try.prog 86 #[.int .i64 n] w fun e w' => e = .returned (.bool (digO n)) ∧ w = w' := by
  go_enter Try.func86, Try.ntmps86
  go_wp2
  all_goals go_ret
  all_goals exact ⟨ret_bool (by rw [Bool.eq_iff_iff]; simp [digO]; try omega), rfl⟩
set_option maxRecDepth 100000 in
set_option maxHeartbeats 1000000 in
theorem com_Rising {A : Option Addr} {n c : Nat} {l : List Int} (lo hi : Int) (w : World) (hs : Sl w 1 A n (ints l)) (hn : n ≤ 9223372036854775807) {r : Bool} (hr : Hid (rises lo hi l = r)) :
    Calls Try.prog 102 #[.slice A n c, .int .i64 lo, .int .i64 hi] w fun e w' => e = .returned (.bool r) ∧ w = w' := by
  have HL := hide hs.ilen
  go_enter Try.func102, Try.ntmps102
  go_wp2_with fail
  go_loop [11] (fun i => ∃ k : Nat, k ≤ n ∧ i = .int .i64 k ∧ Hid (∀ x ∈ l.take k, lo ≤ x ∧ x ≤ hi) ∧ Hid (sortedI (l.take k) = true)) (fun i => n - (intOf i).toNat)
  case atStart => exact ⟨0, Nat.zero_le _, rfl, by simp [Hid], by simp [Hid, sortedI]⟩
  case round =>
    obtain ⟨k, hk, rfl, HT, HS⟩ := hrel
    by_cases hlt : k < n
    · obtain ⟨b, off, u, rfl, HU, hc, _⟩ := hs.int hlt
      have HB : Hid (¬ (lo ≤ u ∧ u ≤ hi) → r = false) := fun h => by rw [← hr.out, rises, betw_bad HU.out h]; rfl
      by_cases hin : lo ≤ u ∧ u ≤ hi
      · have HT2 : Hid (∀ x ∈ l.take (k + 1), lo ≤ x ∧ x ≤ hi) := by
          intro x hx
          rw [take_at HU.out, List.mem_append] at hx
          rcases hx with hx | hx
          · exact HT.out x hx
          · simp at hx; subst hx; exact hin
        obtain ⟨h1, h2⟩ := hin
        cases k with
        | zero =>
          have HS2 : Hid (sortedI (l.take 1) = true) := sortedI_one l
          rw [Nat.add_zero] at hc
          clear hs
          go_wp2_with fail
          go_round
          case rel => exact ⟨1, by omega, by go_num, HT2, HS2⟩
          case measure => simp [intOf]; omega
        | succ j =>
          obtain ⟨b', off', y, e, HY, hy, _⟩ := hs.int (k := j) (by omega)
          injection e with e
          injection e with e1 e2
          subst e1; subst e2
          by_cases hyu : y < u
          · have HS2 : Hid (sortedI (l.take (j + 2)) = true) := sortedI_next HY.out HU.out HS.out hyu
            clear hs
            go_wp2_with fail
            go_round
            case rel => exact ⟨j + 2, by omega, by go_num, HT2, HS2⟩
            case measure => simp [intOf]; omega
          · have HR : Hid (r = false) := by rw [Hid, ← hr.out, rises, sortedI_bad HY.out HU.out hyu, Bool.and_false]
            clear hs
            go_wp2_with fail
            go_ret
            exact ⟨ret_bool HR.out.symm, rfl⟩
      · have HR := hide (HB.out hin)
        obtain ⟨y, hy⟩ : ∃ y, 0 < k → w.cell? ⟨b, off + (k - 1), none⟩ = some (.int .i64 y) := by
          rcases Nat.eq_zero_or_pos k with h0 | h0
          · exact ⟨0, fun h => by omega⟩
          · obtain ⟨b', off', y, e, _, hy, _⟩ := hs.int (k := k - 1) (by omega)
            injection e with e
            injection e with e1 e2
            subst e1; subst e2
            exact ⟨y, fun _ => hy⟩
        clear hs HB
        by_cases h1 : lo ≤ u
        · have h2 : hi < u := by omega
          clear hin
          go_wp2_with fail
          go_ret
          exact ⟨ret_bool HR.out.symm, rfl⟩
        · clear hin
          go_wp2_with fail
          go_ret
          exact ⟨ret_bool HR.out.symm, rfl⟩
    · obtain rfl : k = n := by omega
      have HR : Hid (r = true) := by
        have h1 := HT.out
        have h2 := HS.out
        rw [List.take_of_length_le (by rw [HL.out]; exact Nat.le_refl _)] at h1 h2
        rw [Hid, ← hr.out, rises_iff]; exact ⟨h1, h2⟩
      go_wp2_with fail
      go_ret
      exact ⟨ret_bool HR.out.symm, rfl⟩
set_option maxHeartbeats 400000 in
theorem com_Digests {A : Option Addr} {n c : Nat} {l : List Int} (w : World) (hs : Sl w 1 A n (ints l)) (hn : n ≤ 9223372036854775807) {r : Bool} (hr : Hid (digs l = r)) :
    Calls Try.prog 90 #[.slice A n c] w fun e w' => e = .returned (.bool r) ∧ w = w' := by
  go_enter Try.func90, Try.ntmps90
  go_wp2_with (go_at_call 102; refine (com_Rising 1 65536 _ hs hn hr).mono ?_; rintro e w' ⟨rfl, rfl⟩)
  go_ret
  exact ⟨rfl, rfl⟩
/-- A header's value, a certificate's. -/
def hdV (a r : Int) (A1 : Option Addr) (n1 c1 : Nat) (A2 : Option Addr) (n2 c2 : Nat) : Value := .agg #[.int .i64 a, .int .i64 r, .slice A1 n1 c1, .slice A2 n2 c2]
set_option maxRecDepth 100000 in
set_option maxHeartbeats 2000000 in
theorem header_form {A1 A2 : Option Addr} {n1 c1 n2 c2 : Nat} (n : Int) (x : HdD) (w : World) (hs : Sl w 1 A1 n1 (ints x.bs)) (ht : Sl w 1 A2 n2 (ints x.ps)) (hn1 : n1 ≤ 9223372036854775807) (hn2 : n2 ≤ 9223372036854775807) {r : Bool} (hr : Hid (formH n x = r)) :
    Calls Try.prog 96 #[hdV x.a x.r A1 n1 c1 A2 n2 c2, .int .i64 n] w fun e w' => e = .returned (.bool r) ∧ Below w.heap.size w w' := by
  have HL1 := hide hs.ilen
  have HL2 := hide ht.ilen
  have s1 := hs.alloc (.cells #[.int .i64 x.a, .int .i64 x.r, .slice A1 n1 c1, .slice A2 n2 c2] 38)
  have t1 := ht.alloc (.cells #[.int .i64 x.a, .int .i64 x.r, .slice A1 n1 c1, .slice A2 n2 c2] 38)
  have HB := hide (below_alloc' w (.cells #[.int .i64 x.a, .int .i64 x.r, .slice A1 n1 c1, .slice A2 n2 c2] 38))
  obtain ⟨p, HP⟩ : ∃ p, Hid (digs x.bs = p) := ⟨_, rfl⟩
  obtain ⟨q, HQ⟩ : ∃ p, Hid (digs x.ps = p) := ⟨_, rfl⟩
  obtain ⟨a, ra, bs, ps⟩ := x
  simp only at HL1 HL2 s1 t1 HP HQ HB hs ht ⊢
  have HALL : Hid (r = true ↔ (1 ≤ a ∧ a ≤ n) ∧ (1 ≤ ra ∧ ra ≤ 1099511627776) ∧ n1 ≤ 8 ∧ p = true ∧ q = true ∧ (n2 : Int) ≤ n ∧ (1 < ra ∨ n2 = 0)) := by
    rw [Hid, ← hr.out, formH_iff]
    simp only
    rw [HP.out, HQ.out, HL1.out, HL2.out]
  have C1 := hide (com_Digests (c := c1) _ s1 hn1 HP)
  have C2 := hide (com_Digests (c := c2) _ t1 hn2 HQ)
  clear hs ht hr s1 t1 HP HQ HL1 HL2
  unfold hdV
  go_enter Try.func96, Try.ntmps96
  go_wp2_with (first
    | (go_at_call 90; refine C1.out.mono ?_; rintro e w' ⟨rfl, rfl⟩)
    | (go_at_call 90; refine C2.out.mono ?_; rintro e w' ⟨rfl, rfl⟩))
  all_goals
    go_ret
    refine ⟨ret_bool ?_, HB.out⟩
    rw [Bool.eq_iff_iff, HALL.out]
    first
      | (simp [*]; done)
      | (simp [*]; omega)
      | omega

end Go.Proofs.Ytebaojcfmkobjaa
/-
  Contracts: which headers and certificates may be, asked by calls that make memory.
-/
namespace Go.Proofs.Ytebaojcfmkobjaa
open Go.RowKit


set_option maxRecDepth 100000 in
set_option maxHeartbeats 2000000 in
theorem header_May {A1 A2 : Option Addr} {n1 c1 n2 c2 : Nat} (n : Int) (x : HdD) (w : World) (hs : Sl w 1 A1 n1 (ints x.bs)) (ht : Sl w 1 A2 n2 (ints x.ps)) (hn1 : n1 ≤ 9223372036854775807) (hn2 : n2 ≤ 9223372036854775807) {r : Bool} (hr : Hid (mayH n x = r)) :
    Calls Try.prog 88 #[hdV x.a x.r A1 n1 c1 A2 n2 c2, .int .i64 n] w fun e w' => e = .returned (.bool r) ∧ Below w.heap.size w w' := by
  have HL2 := hide ht.ilen
  have s1 := hs.alloc (.cells #[.int .i64 x.a, .int .i64 x.r, .slice A1 n1 c1, .slice A2 n2 c2] 38)
  have t1 := ht.alloc (.cells #[.int .i64 x.a, .int .i64 x.r, .slice A1 n1 c1, .slice A2 n2 c2] 38)
  have hb0 := below_alloc' w (.cells #[.int .i64 x.a, .int .i64 x.r, .slice A1 n1 c1, .slice A2 n2 c2] 38)
  have kx := Blk.new w 38 #[.int .i64 x.a, .int .i64 x.r, .slice A1 n1 c1, .slice A2 n2 c2]
  have HR : Hid (r = (isC n && (formH n x && decide (x.r = 1 ∨ qC n ≤ (n2 : Int))))) := by rw [Hid, ← hr.out, mayH, HL2.out]
  obtain ⟨f, HF⟩ : ∃ p, Hid (formH n x = p) := ⟨_, rfl⟩
  have CF := fun w' (h : Below (w.heap.size + 1) (w.alloc (.cells #[.int .i64 x.a, .int .i64 x.r, .slice A1 n1 c1, .slice A2 n2 c2] 38)) w') => header_form (c1 := c1) (c2 := c2) n x w' (s1.below (by simpa using h)) (t1.below (by simpa using h)) hn1 hn2 HF
  rw [HF.out] at HR
  obtain ⟨a, ra, bs, ps⟩ := x
  unfold hdV at CF ⊢
  simp only at CF HR hb0 kx ⊢
  have HCF := hide CF
  have HB := hide hb0
  have HKX := hide kx
  clear CF hr HF hs ht s1 t1 HL2 hb0 kx
  cases hc : isC n with
  | false =>
    have CI := fun w => com_Is n w
    rw [hc] at CI HR
    have HCI := hide CI
    clear hc CI
    go_enter Try.func88, Try.ntmps88
    go_wp2_with fail
    go_quiet ((go_at_call 65; exact Calls.quiet_of_same ((HCI.out _).mono fun _ _ h => ⟨h.1, h.2.symm⟩)))
    go_wp2_with fail
    go_ret
    exact ⟨ret_bool (by rw [HR.out]; rfl), below_drewN HB.out _⟩
  | true =>
    have HCI := hide (fun w => com_Is n w)
    rw [hc] at HCI HR
    have HCQ := hide (fun w => com_Q n w hc)
    obtain ⟨q, HQ⟩ : ∃ q, Hid (qC n = q) := ⟨_, rfl⟩
    rw [HQ.out] at HCQ HR
    clear hc
    obtain ⟨w1, hw1⟩ : ∃ w1, w.alloc (.cells #[.int .i64 a, .int .i64 ra, .slice A1 n1 c1, .slice A2 n2 c2] 38) = w1 := ⟨_, rfl⟩
    have hz1 : w1.heap.size = w.heap.size + 1 := by rw [← hw1]; simp
    have HBC : Hid (∀ w', Below w1.heap.size w1 w' → Below w.heap.size w w') := fun w' h => by have h2 := HB.out; rw [hw1] at h2; exact h2.trans (h.mono (by omega))
    have hk1 := HKX.out
    rw [hw1] at hk1 HCF
    have HKX1 := hide hk1
    have HCF1 : Hid (∀ w', Below w1.heap.size w1 w' → Calls Try.prog 96 #[.agg #[.int .i64 a, .int .i64 ra, .slice A1 n1 c1, .slice A2 n2 c2], .int .i64 n] w' fun e w'' => e = .returned (.bool f) ∧ Below w'.heap.size w' w'') := fun w' h => HCF.out w' (by rw [← hz1]; exact h)
    have HW1 := hide hw1
    clear HCF HKX hk1 HB hw1
    go_enter Try.func88, Try.ntmps88
    go_wp2_with fail
    rw [HW1.out]
    clear HW1
    obtain ⟨g, hg⟩ : ∃ g, w.heap.size = g := ⟨_, rfl⟩
    rw [hg] at hz1 HKX1 ⊢
    have hbc := Below.refl w1.heap.size w1
    have f0 : ∀ n : Wd w1, n.w.cell? ⟨g, 0, none⟩ = some (.int .i64 a) := Wd.cell (HKX1.out.at_ rfl)
    have f1 : ∀ n : Wd w1, n.w.cell? ⟨g, 1, none⟩ = some (.int .i64 ra) := Wd.cell (HKX1.out.at_ rfl)
    have f2 : ∀ n : Wd w1, n.w.cell? ⟨g, 2, none⟩ = some (.slice A1 n1 c1) := Wd.cell (HKX1.out.at_ rfl)
    have f3 : ∀ n : Wd w1, n.w.cell? ⟨g, 3, none⟩ = some (.slice A2 n2 c2) := Wd.cell (HKX1.out.at_ rfl)
    cases f with
    | false =>
      refine wp_region_wd (by kernel_rfl) (by kernel_rfl) ?_
      repeat (go_big_quiet_step (first
        | (go_at_call 65; exact wd_same (HCI.out _))
        | (go_at_call 101; exact wd_same (HCQ.out _))
        | (go_at_call 96; exact wd_call (HCF1.out _ (Wd.below _)))))
      refine wpQuiet_nil (wd_end fun wq hbc => ?_)
      all_goals
        have HBB := hide hbc
        go_wp2_with fail
        go_ret
        exact ⟨ret_bool (by rw [HR.out]; rfl), HBC.out _ HBB.out⟩
    | true =>
      by_cases h1 : ra = 1
      · have hra : (ra == 1) = true := by simpa using h1
        have H1 := hide h1
        clear h1
        refine wp_region_wd (by kernel_rfl) (by kernel_rfl) ?_
        repeat (go_big_quiet_step (first
          | (go_at_call 65; exact wd_same (HCI.out _))
          | (go_at_call 101; exact wd_same (HCQ.out _))
          | (go_at_call 96; exact wd_call (HCF1.out _ (Wd.below _)))))
        refine wpQuiet_nil (wd_end fun wq hbc => ?_)
        all_goals
          have HBB := hide hbc
          go_wp2_with fail
          go_ret
          exact ⟨ret_bool (by rw [HR.out]; simp [H1.out]), HBC.out _ HBB.out⟩
      · have hra : (ra == 1) = false := by simpa using h1
        have H1 := hide h1
        clear h1
        refine wp_region_wd (by kernel_rfl) (by kernel_rfl) ?_
        repeat (go_big_quiet_step (first
          | (go_at_call 65; exact wd_same (HCI.out _))
          | (go_at_call 101; exact wd_same (HCQ.out _))
          | (go_at_call 96; exact wd_call (HCF1.out _ (Wd.below _)))))
        refine wpQuiet_nil (wd_end fun wq hbc => ?_)
        all_goals
          have HBB := hide hbc
          go_wp2_with fail
          go_ret
          exact ⟨ret_bool (by rw [HR.out]; simp [H1.out]), HBC.out _ HBB.out⟩

def ctV (a r : Int) (A1 : Option Addr) (n1 c1 : Nat) (A2 : Option Addr) (n2 c2 : Nat) (d : Int) (A3 : Option Addr) (n3 c3 : Nat) : Value := .agg #[.int .i64 a, .int .i64 r, .slice A1 n1 c1, .slice A2 n2 c2, .int .i64 d, .slice A3 n3 c3]
set_option maxRecDepth 100000 in
set_option maxHeartbeats 2000000 in
theorem header_MayCert {A1 A2 A3 : Option Addr} {n1 c1 n2 c2 n3 c3 : Nat} (n : Int) (x : CtD) (w : World) (hs : Sl w 1 A1 n1 (ints x.h.bs)) (ht : Sl w 1 A2 n2 (ints x.h.ps)) (hu : Sl w 1 A3 n3 (ints x.ss)) (hn1 : n1 ≤ 9223372036854775807) (hn2 : n2 ≤ 9223372036854775807) (hn3 : n3 ≤ 9223372036854775807)
    {r : Bool} (hr : Hid (mayC n x = r)) :
    Calls Try.prog 89 #[ctV x.h.a x.h.r A1 n1 c1 A2 n2 c2 x.d A3 n3 c3, .int .i64 n] w fun e w' => e = .returned (.bool r) ∧ Below w.heap.size w w' := by
  have HL3 := hide hu.ilen
  obtain ⟨f, HF⟩ : ∃ p, Hid (mayH n x.h = p) := ⟨_, rfl⟩
  obtain ⟨y, HY⟩ : ∃ p, Hid (digO x.d = p) := ⟨_, rfl⟩
  obtain ⟨z, HZ⟩ : ∃ p, Hid (rises 1 n x.ss = p) := ⟨_, rfl⟩
  obtain ⟨q, HQ⟩ : ∃ q, Hid (qC n = q) := ⟨_, rfl⟩
  have HR : Hid (r = (f && (y && (z && decide (q ≤ (n3 : Int)))))) := by rw [Hid, ← hr.out, mayC, HL3.out, HF.out, HY.out, HZ.out, HQ.out]
  have HISC : Hid (f = true → isC n = true) := fun h => (mayH_iff.1 (HF.out.trans h)).1
  obtain ⟨⟨a, ra, bs, ps⟩, d, ss⟩ := x
  simp only at hs ht hu HF HY HZ ⊢
  obtain ⟨w1, hw1⟩ : ∃ w1, w.alloc (.cells #[.int .i64 a, .int .i64 ra, .slice A1 n1 c1, .slice A2 n2 c2, .int .i64 d, .slice A3 n3 c3] 40) = w1 := ⟨_, rfl⟩
  have hb1 : Below w.heap.size w w1 := by rw [← hw1]; exact below_alloc' w _
  have hk1 : Blk w1 w.heap.size 40 #[.int .i64 a, .int .i64 ra, .slice A1 n1 c1, .slice A2 n2 c2, .int .i64 d, .slice A3 n3 c3] := by rw [← hw1]; exact Blk.new w _ _
  have s1 := hs.below hb1
  have s2 := ht.below hb1
  have s3 := hu.below hb1
  have HCF : Hid (∀ w', Below w1.heap.size w1 w' → Calls Try.prog 88 #[.agg #[.int .i64 a, .int .i64 ra, .slice A1 n1 c1, .slice A2 n2 c2], .int .i64 n] w' fun e w'' => e = .returned (.bool f) ∧ Below w'.heap.size w' w'') :=
    fun w' h => header_May n ⟨a, ra, bs, ps⟩ w' (s1.below h) (s2.below h) hn1 hn2 HF
  have HCR : Hid (∀ w', Below w1.heap.size w1 w' → Calls Try.prog 102 #[.slice A3 n3 c3, .int .i64 1, .int .i64 n] w' fun e w'' => e = .returned (.bool z) ∧ w' = w'') :=
    fun w' h => com_Rising 1 n w' (s3.below h) hn3 HZ
  have HCD : Hid (∀ w', Calls Try.prog 86 #[.int .i64 d] w' fun e w'' => e = .returned (.bool y) ∧ w' = w'') := fun w' => by rw [← HY.out]; exact com_Digest d w'
  have HCQ : Hid (isC n = true → ∀ w', Calls Try.prog 101 #[.int .i64 n] w' fun e w'' => e = .returned (.int .i64 q) ∧ w' = w'') := fun h w' => by rw [← HQ.out]; exact com_Q n w' h
  have HBC : Hid (∀ w', Below w1.heap.size w1 w' → Below w.heap.size w w') := fun w' h => hb1.trans (h.mono hb1.size)
  have HKX1 := hide hk1
  have HW1 := hide hw1
  clear hs ht hu s1 s2 s3 hb1 hk1 hw1 hr
  unfold ctV
  go_enter Try.func89, Try.ntmps89
  go_wp2_with fail
  rw [HW1.out]
  clear HW1
  obtain ⟨g, hg⟩ : ∃ g, w.heap.size = g := ⟨_, rfl⟩
  rw [hg] at HKX1 ⊢
  have f0 : ∀ n : Wd w1, n.w.cell? ⟨g, 0, none⟩ = some (.int .i64 a) := Wd.cell (HKX1.out.at_ rfl)
  have f1 : ∀ n : Wd w1, n.w.cell? ⟨g, 1, none⟩ = some (.int .i64 ra) := Wd.cell (HKX1.out.at_ rfl)
  have f2 : ∀ n : Wd w1, n.w.cell? ⟨g, 2, none⟩ = some (.slice A1 n1 c1) := Wd.cell (HKX1.out.at_ rfl)
  have f3 : ∀ n : Wd w1, n.w.cell? ⟨g, 3, none⟩ = some (.slice A2 n2 c2) := Wd.cell (HKX1.out.at_ rfl)
  have f4 : ∀ n : Wd w1, n.w.cell? ⟨g, 4, none⟩ = some (.int .i64 d) := Wd.cell (HKX1.out.at_ rfl)
  have f5 : ∀ n : Wd w1, n.w.cell? ⟨g, 5, none⟩ = some (.slice A3 n3 c3) := Wd.cell (HKX1.out.at_ rfl)
  clear hg
  cases f with
  | false =>
    refine wp_region_wd (by kernel_rfl) (by kernel_rfl) ?_
    repeat (go_big_quiet_step (first
      | (go_at_call 86; exact wd_same (HCD.out _))
      | (go_at_call 102; exact wd_same (HCR.out _ (Wd.below _)))
      | (go_at_call 101; exact wd_same (HCQ.out _))
      | (go_at_call 88; exact wd_call (HCF.out _ (Wd.below _)))))
    refine wpQuiet_nil (wd_end fun wq hbc => ?_)
    have HBB := hide hbc
    go_wp2_with fail
    go_ret
    exact ⟨ret_bool (by rw [HR.out]; rfl), HBC.out _ HBB.out⟩
  | true =>
    have HCQ := hide (HCQ.out (HISC.out rfl))
    cases y with
    | false =>
      refine wp_region_wd (by kernel_rfl) (by kernel_rfl) ?_
      repeat (go_big_quiet_step (first
        | (go_at_call 86; exact wd_same (HCD.out _))
        | (go_at_call 102; exact wd_same (HCR.out _ (Wd.below _)))
        | (go_at_call 101; exact wd_same (HCQ.out _))
        | (go_at_call 88; exact wd_call (HCF.out _ (Wd.below _)))))
      refine wpQuiet_nil (wd_end fun wq hbc => ?_)
      have HBB := hide hbc
      go_wp2_with fail
      go_ret
      exact ⟨ret_bool (by rw [HR.out]; rfl), HBC.out _ HBB.out⟩
    | true =>
      cases z with
      | false =>
        refine wp_region_wd (by kernel_rfl) (by kernel_rfl) ?_
        repeat (go_big_quiet_step (first
          | (go_at_call 86; exact wd_same (HCD.out _))
          | (go_at_call 102; exact wd_same (HCR.out _ (Wd.below _)))
          | (go_at_call 101; exact wd_same (HCQ.out _))
          | (go_at_call 88; exact wd_call (HCF.out _ (Wd.below _)))))
        refine wpQuiet_nil (wd_end fun wq hbc => ?_)
        have HBB := hide hbc
        go_wp2_with fail
        go_ret
        exact ⟨ret_bool (by rw [HR.out]; rfl), HBC.out _ HBB.out⟩
      | true =>
        refine wp_region_wd (by kernel_rfl) (by kernel_rfl) ?_
        repeat (go_big_quiet_step (first
          | (go_at_call 86; exact wd_same (HCD.out _))
          | (go_at_call 102; exact wd_same (HCR.out _ (Wd.below _)))
          | (go_at_call 101; exact wd_same (HCQ.out _))
          | (go_at_call 88; exact wd_call (HCF.out _ (Wd.below _)))))
        refine wpQuiet_nil (wd_end fun wq hbc => ?_)
        have HBB := hide hbc
        go_wp2_with fail
        go_ret
        exact ⟨ret_bool (by rw [HR.out]; simp), HBC.out _ HBB.out⟩
end Go.Proofs.Ytebaojcfmkobjaa
