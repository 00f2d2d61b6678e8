/-
  Texts joined: words and contracts that later texts use; lemmas alone, no conditions of a statement.
-/
import Derived.Test.YtmnogefpphonlaaGr02
import Derived.Test.YtmnogefpphonlaaGr00
import Derived.Test.YtmnogefpphonlaaGr01
set_option linter.unusedVariables false
set_option linter.unusedSimpArgs false
/-
  Headers and certificates: which may be, their bytes: plain facts, over no program.
-/
namespace Go.Proofs.Ytmnogefpphonlaa
open Go.RowKit

/-- Each above the one ahead? -/
def sortedI : List Int → Bool
  | a :: b :: r => decide (a < b) && sortedI (b :: r)
  | _ => true
/-- All from one number to another one? -/
def betw (lo hi : Int) (l : List Int) : Bool := l.all fun x => decide (lo ≤ x ∧ x ≤ hi)
def rises (lo hi : Int) (l : List Int) : Bool := betw lo hi l && sortedI l
def digs (l : List Int) : Bool := rises 1 65536 l
theorem sortedI_snoc : ∀ (l : List Int) (x : Int), sortedI (l ++ [x]) = (sortedI l && (match l.getLast? with | none => true | some y => decide (y < x)))
  | [], x => rfl
  | [a], x => by simp [sortedI]
  | a :: b :: r, x => by
    have h := sortedI_snoc (b :: r) x
    rw [List.cons_append, List.cons_append, sortedI, ← List.cons_append, h, sortedI, Bool.and_assoc, List.getLast?_cons_cons]
theorem last_take {l : List Int} {k : Nat} {y : Int} (h : l[k]? = some y) : (l.take (k + 1)).getLast? = some y := by
  rw [take_at h, List.getLast?_append]; rfl
theorem sortedI_take : ∀ (l : List Int) (k : Nat), sortedI l = true → sortedI (l.take k) = true
  | [], k, _ => by simp [sortedI]
  | [a], k, _ => by cases k <;> simp [sortedI]
  | a :: b :: r, 0, _ => by simp [sortedI]
  | a :: b :: r, 1, _ => by simp [sortedI]
  | a :: b :: r, k + 2, h => by
    rw [sortedI, Bool.and_eq_true] at h
    have := sortedI_take (b :: r) (k + 1) h.2
    rw [List.take_succ_cons, List.take_succ_cons, sortedI, Bool.and_eq_true]
    rw [List.take_succ_cons] at this
    exact ⟨h.1, this⟩
/-- One more, in order. -/
theorem sortedI_next {l : List Int} {k : Nat} {x y : Int} (hy : l[k]? = some y) (hx : l[k + 1]? = some x) (h : sortedI (l.take (k + 1)) = true) (hlt : y < x) : sortedI (l.take (k + 2)) = true := by
  rw [take_at hx, sortedI_snoc, h, last_take hy]; simpa using hlt
theorem sortedI_bad {l : List Int} {k : Nat} {x y : Int} (hy : l[k]? = some y) (hx : l[k + 1]? = some x) (hlt : ¬ y < x) : sortedI l = false := by
  cases hs : sortedI l with
  | false => rfl
  | true =>
    have := sortedI_take l (k + 2) hs
    rw [take_at hx, sortedI_snoc, last_take hy] at this
    simp [hlt] at this
theorem sortedI_one (l : List Int) : sortedI (l.take 1) = true := by
  match l with
  | [] => rfl
  | a :: r => rfl
theorem betw_snoc {lo hi : Int} (l : List Int) (x : Int) : betw lo hi (l ++ [x]) = (betw lo hi l && decide (lo ≤ x ∧ x ≤ hi)) := by simp [betw]
theorem betw_iff {lo hi : Int} {l : List Int} : betw lo hi l = true ↔ ∀ x ∈ l, lo ≤ x ∧ x ≤ hi := by simp [betw]
theorem betw_bad {lo hi : Int} {l : List Int} {k : Nat} {x : Int} (hx : l[k]? = some x) (h : ¬ (lo ≤ x ∧ x ≤ hi)) : betw lo hi l = false := by
  cases hb : betw lo hi l with
  | false => rfl
  | true => exact absurd (betw_iff.1 hb x (mem_of_at hx)) h
theorem rises_iff {lo hi : Int} {l : List Int} : rises lo hi l = true ↔ (∀ x ∈ l, lo ≤ x ∧ x ≤ hi) ∧ sortedI l = true := by rw [rises, Bool.and_eq_true, betw_iff]
theorem digs_iff {l : List Int} : digs l = true ↔ (∀ x ∈ l, 1 ≤ x ∧ x ≤ 65536) ∧ sortedI l = true := rises_iff

/-- A header; a certificate. -/
structure HdD where
  a : Int
  r : Int
  bs : List Int
  ps : List Int
theorem HdD.ext_ {x y : HdD} (h1 : x.a = y.a) (h2 : x.r = y.r) (h3 : x.bs = y.bs) (h4 : x.ps = y.ps) : x = y := by
  cases x; cases y; simp_all
instance : DecidableEq HdD := fun x y =>
  decidable_of_iff (x.a = y.a ∧ x.r = y.r ∧ x.bs = y.bs ∧ x.ps = y.ps) ⟨fun ⟨h1, h2, h3, h4⟩ => HdD.ext_ h1 h2 h3 h4, fun h => by subst h; exact ⟨rfl, rfl, rfl, rfl⟩⟩
structure CtD where
  h : HdD
  d : Int
  ss : List Int
theorem CtD.ext_ {x y : CtD} (h1 : x.h = y.h) (h2 : x.d = y.d) (h3 : x.ss = y.ss) : x = y := by
  cases x; cases y; simp_all
instance : DecidableEq CtD := fun x y =>
  decidable_of_iff (x.h = y.h ∧ x.d = y.d ∧ x.ss = y.ss) ⟨fun ⟨h1, h2, h3⟩ => CtD.ext_ h1 h2 h3, fun h => by subst h; exact ⟨rfl, rfl, rfl⟩⟩

/-- A committee of so many nodes; how many are enough of it. -/
def isC (n : Int) : Bool := decide (1 ≤ n ∧ n ≤ 16 ∧ n % 3 = 1)
def qC (n : Int) : Int := 2 * (n / 3) + 1
theorem isC_iff {n : Int} : isC n = true ↔ 1 ≤ n ∧ n ≤ 16 ∧ n % 3 = 1 := by simp [isC]
/-- Among n nodes, but for how many parents there are. -/
def formH (n : Int) (x : HdD) : Bool :=
  decide (1 ≤ x.a ∧ x.a ≤ n) && (decide (1 ≤ x.r ∧ x.r ≤ 1099511627776) && (decide (x.bs.length ≤ 8) && (digs x.bs && (digs x.ps && (decide ((x.ps.length : Int) ≤ n) && decide (1 < x.r ∨ x.ps.length = 0))))))
theorem formH_iff {n : Int} {x : HdD} : formH n x = true ↔ (1 ≤ x.a ∧ x.a ≤ n) ∧ (1 ≤ x.r ∧ x.r ≤ 1099511627776) ∧ x.bs.length ≤ 8 ∧ digs x.bs = true ∧ digs x.ps = true ∧ (x.ps.length : Int) ≤ n ∧ (1 < x.r ∨ x.ps.length = 0) := by
  simp [formH]
def mayH (n : Int) (x : HdD) : Bool := isC n && (formH n x && decide (x.r = 1 ∨ qC n ≤ (x.ps.length : Int)))
theorem mayH_iff {n : Int} {x : HdD} : mayH n x = true ↔ isC n = true ∧ formH n x = true ∧ (x.r = 1 ∨ qC n ≤ (x.ps.length : Int)) := by simp [mayH]
def digO (d : Int) : Bool := decide (1 ≤ d ∧ d ≤ 65536)
theorem digO_iff {d : Int} : digO d = true ↔ 1 ≤ d ∧ d ≤ 65536 := by simp [digO]
def mayC (n : Int) (x : CtD) : Bool := mayH n x.h && (digO x.d && (rises 1 n x.ss && decide (qC n ≤ (x.ss.length : Int))))
theorem mayC_iff {n : Int} {x : CtD} : mayC n x = true ↔ mayH n x.h = true ∧ digO x.d = true ∧ rises 1 n x.ss = true ∧ qC n ≤ (x.ss.length : Int) := by simp [mayC]

/-- A header's texts, its bytes. -/
def headerW : ByteArray := ⟨#[104, 101, 97, 100, 101, 114]⟩
theorem headerW_list : headerW.toList = [104, 101, 97, 100, 101, 114] := by rw [ByteArray.toList_eq]; rfl
def headerT (x : HdD) : List ByteArray := [headerW, numS x.a, numS x.r, tx (numsB x.bs), tx (numsB x.ps)]
def headerB (x : HdD) : List UInt8 := putB (headerT x)
theorem nums_le (l : List Int) (h : ∀ x ∈ l, x ≤ 65536) : (nums l).length ≤ 3 * l.length := by
  induction l with
  | nil => simp [nums]
  | cons a l ih =>
    have h1 := ih (fun x hx => h x (by simp [hx]))
    have h2 := h a (by simp)
    have h3 := enc_len_le 2 a.toNat (by omega)
    have e : nums (a :: l) = enc a.toNat ++ nums l := by simp [nums]
    rw [e, List.length_append, List.length_cons]; omega
theorem numsB_le {l : List Int} (h : ∀ x ∈ l, x ≤ 65536) (hl : l.length ≤ 16) : (numsB l).length ≤ 49 := by
  have h1 := nums_le l h
  have h2 := enc_len_le 0 l.length (by omega)
  rw [numsB, List.length_append]; omega
theorem header_size {x : HdD} (h : formH 16 x = true) : (∀ s ∈ headerT x, s.size ≤ 49) ∧ (headerB x).length ≤ 300 ∧ (numsB x.bs).length ≤ 49 ∧ (numsB x.ps).length ≤ 49 := by
  obtain ⟨h1, h2, h3, h4, h5, h6, h7⟩ := formH_iff.1 h
  have g1 := numsB_le (fun y hy => ((digs_iff.1 h4).1 y hy).2) (by omega)
  have g2 := numsB_le (fun y hy => ((digs_iff.1 h5).1 y hy).2) (by omega)
  have hs : ∀ s ∈ headerT x, s.size ≤ 49 := by
    intro s hs
    simp only [headerT, List.mem_cons, List.not_mem_nil, or_false] at hs
    rcases hs with rfl | rfl | rfl | rfl | rfl
    · decide
    · have := numS_size (n := x.a) (by omega); omega
    · have := numS_size (n := x.r) (by omega); omega
    · rw [tx_size]; exact g1
    · rw [tx_size]; exact g2
  have := putB_le hs (by omega) (by simp [headerT])
  refine ⟨hs, ?_, g1, g2⟩
  rw [headerB]
  simp [headerT] at this ⊢
  omega
/-- The header that texts are, that bytes are. -/
def rdH (ls : List ByteArray) : Option HdD :=
  match ls with
  | [w, a, r, x, y] =>
    if w = headerW then
      match wholeN a, wholeN r, getI x.data.toList, getI y.data.toList with
      | some a, some r, some x, some y => if formH 16 ⟨a, r, x, y⟩ = true then some ⟨a, r, x, y⟩ else none
      | _, _, _, _ => none
    else none
  | _ => none
def parseH (bs : List UInt8) : Option HdD :=
  match getT bs with
  | none => none
  | some ls => rdH ls
theorem getI_there {l : List Int} (h : digs l = true) (hl : l.length ≤ 16) : getI (numsB l) = some l := by
  have h0 := (digs_iff.1 h).1
  have h1 := numsB_le (fun y hy => (h0 y hy).2) hl
  exact getL_there codecI (fun x hx => by have := h0 x hx; omega) (by rw [putL_I]; omega)
theorem rdH_there {x : HdD} (h : formH 16 x = true) : rdH (headerT x) = some x := by
  obtain ⟨h1, h2, h3, h4, h5, h6, h7⟩ := formH_iff.1 h
  unfold rdH headerT
  simp only [if_true, tx_data]
  rw [wholeN_numS (by omega) (by omega), wholeN_numS (by omega) (by omega), getI_there h4 (by omega), getI_there h5 (by omega)]
  simp only
  rw [if_pos h]
theorem getI_tx {s : ByteArray} {l : List Int} (h : getI s.data.toList = some l) : s = tx (numsB l) := by
  have := (getL_back codecI h).1
  rw [putL_I] at this
  rw [← this, tx_of]
theorem rdH_back {ls : List ByteArray} {x : HdD} (h : rdH ls = some x) : ls = headerT x ∧ formH 16 x = true := by
  unfold rdH at h
  split at h
  · rename_i w a r s t
    by_cases hw : w = headerW
    · rw [if_pos hw] at h
      cases ha : wholeN a with
      | none => rw [ha] at h; simp at h
      | some a' =>
        cases hr : wholeN r with
        | none => rw [ha, hr] at h; simp at h
        | some r' =>
          cases hs : getI s.data.toList with
          | none => rw [ha, hr, hs] at h; simp at h
          | some s' =>
            cases ht : getI t.data.toList with
            | none => rw [ha, hr, hs, ht] at h; simp at h
            | some t' =>
              rw [ha, hr, hs, ht] at h
              simp only at h
              by_cases hm : formH 16 ⟨a', r', s', t'⟩ = true
              · rw [if_pos hm] at h
                simp only [Option.some.injEq] at h
                subst h
                refine ⟨?_, hm⟩
                rw [hw, (wholeN_some ha).1, (wholeN_some hr).1, getI_tx hs, getI_tx ht]
                rfl
              · rw [if_neg hm] at h; cases h
    · rw [if_neg hw] at h; cases h
  · cases h
section
variable {x y : HdD}
theorem header_dom (h : formH 16 x = true) : (∀ s ∈ headerT x, s.size ≤ 9223372036854775807) ∧ (putL encT (headerT x)).length ≤ 1048576 := by
  obtain ⟨h1, h2, _⟩ := header_size h
  exact ⟨fun s hs => by have := h1 s hs; omega, by rw [putL_T]; show (headerB x).length ≤ _; omega⟩
theorem parseH_there (h : formH 16 x = true) : parseH (headerB x) = some x := by
  obtain ⟨h1, h2⟩ := header_dom h
  unfold parseH
  rw [show getT (headerB x) = some (headerT x) from getL_there codecT h1 h2]
  exact rdH_there h
theorem parseH_back {bs : List UInt8} (h : parseH bs = some x) : bs = headerB x ∧ formH 16 x = true := by
  unfold parseH at h
  cases hg : getT bs with
  | none => rw [hg] at h; cases h
  | some ls =>
    rw [hg] at h
    obtain ⟨h1, h2⟩ := rdH_back h
    refine ⟨?_, h2⟩
    have := (getL_back codecT hg).1
    rw [this, h1]; rfl
theorem parseH_behind (h : formH 16 x = true) : parseH (headerB x ++ [0]) = none := by
  obtain ⟨h1, h2⟩ := header_dom h
  unfold parseH
  rw [show getT (headerB x ++ [0]) = none from getL_behind codecT h1 h2 (by simp)]
theorem parseH_begin (h : formH 16 x = true) {k : Nat} (hk : k < (headerB x).length) : parseH ((headerB x).take k) = none := by
  obtain ⟨h1, h2⟩ := header_dom h
  unfold parseH
  rw [show getT ((headerB x).take k) = none from getL_begin codecT h1 h2 (by rw [putL_T]; exact hk)]
theorem headerB_inj (h : formH 16 x = true) (h' : formH 16 y = true) : (headerB x == headerB y) = decide (x = y) := by
  rw [Bool.eq_iff_iff, beq_iff_eq, decide_eq_true_eq]
  constructor
  · intro e
    have h1 := parseH_there h
    rw [e, parseH_there h'] at h1
    injection h1 with h1
    exact h1.symm
  · rintro rfl; rfl
theorem turned_otherH {bs : List UInt8} (h : parseH bs = some y) (hne : bs ≠ headerB x) : decide (y = x) = false := by
  rw [decide_eq_false_iff_not]
  rintro rfl
  exact hne (parseH_back h).1
end
end Go.Proofs.Ytmnogefpphonlaa
/-
  A header, a certificate of the argument, opened.
-/
namespace Go.Proofs.Ytmnogefpphonlaa
open Go.ChangeShapes Go.WideShapes Go.ChangeAt Go.RowKit Go.Deep
theorem sub_cell' {cs : List Value} {o C j : Nat} {u : Value} (hj : j < C) (h : ((cs.drop o).take C)[j]? = some u) : cs[o + j]? = some u := by
  rw [List.getElem?_take, if_pos hj, List.getElem?_drop] at h; exact h
section
variable {H : Type} {enc : TypeId × Value → H} {w : World} {base : Nat} {spare : Nat → Bool} {held : Bool} {R : Nat}
theorem open_ints8_w {fuel : Nat} {v : Value} {x : DataW H × List MemPlace} (h : DataW.trod enc Try.prog w base spare held fuel 26 [v] = some x) (hw : ∀ q ∈ x.1.weights Try.prog 26, q ≤ R) :
    ∃ A n c xs, v = .slice A n c ∧ Sl w 1 A n (ints xs) ∧ n * 8 ≤ R ∧ n ≤ c ∧ c ≤ 9223372036854775807 := by
  obtain ⟨A, n, c, xs, h1, h2, h3, h4, h5, _⟩ := open_ints_w Try.underlying26 Try.underlying3 (by kernel_rfl) h hw
  rw [show Try.prog.bytesOf 3 = 8 by kernel_rfl] at h5
  exact ⟨A, n, c, xs, h1, h2, h5, h3, h4⟩
set_option maxRecDepth 100000 in
theorem open_hdr_w {N : Nat} {cs : List Value} {y : DataW H × List MemPlace} (hl : cs.length = 4) (h : DataW.trod enc Try.prog w base spare held N 28 cs = some y) (hw : ∀ q ∈ y.1.weights Try.prog 28, q ≤ R) :
    ∃ a r A1 n1 c1 bs A2 n2 c2 ps, cs[0]? = some (.int .i64 a) ∧ cs[1]? = some (.int .i64 r) ∧ cs[2]? = some (.slice A1 n1 c1) ∧ cs[3]? = some (.slice A2 n2 c2) ∧ (Sl w 1 A1 n1 (ints bs) ∧ n1 * 8 ≤ R) ∧ (Sl w 1 A2 n2 (ints ps) ∧ n2 * 8 ≤ R) := by
  obtain ⟨u0, hu0, e0⟩ := one_cell hl (show 0 < 4 by omega)
  obtain ⟨u1, hu1, e1⟩ := one_cell hl (show 1 < 4 by omega)
  obtain ⟨u2, hu2, e2⟩ := one_cell hl (show 2 < 4 by omega)
  obtain ⟨u3, hu3, e3⟩ := one_cell hl (show 3 < 4 by omega)
  obtain ⟨_, y0, t0, _⟩ := open_field (C := 1) (T := 3) (off := 0) Try.underlying28 h hw 0 rfl (by kernel_rfl)
  obtain ⟨_, y1, t1, _⟩ := open_field (C := 1) (T := 3) (off := 1) Try.underlying28 h hw 1 rfl (by kernel_rfl)
  obtain ⟨_, y2, t2, w2⟩ := open_field (C := 1) (T := 26) (off := 2) Try.underlying28 h hw 2 rfl (by kernel_rfl)
  obtain ⟨_, y3, t3, w3⟩ := open_field (C := 1) (T := 26) (off := 3) Try.underlying28 h hw 3 rfl (by kernel_rfl)
  rw [e0] at t0
  rw [e1] at t1
  rw [e2] at t2
  rw [e3] at t3
  obtain ⟨z0, rfl, _⟩ := trod_int64 Try.underlying3 t0
  obtain ⟨z1, rfl, _⟩ := trod_int64 Try.underlying3 t1
  obtain ⟨A1, n1, c1, xs, rfl, s1, m1, _, _⟩ := open_ints8_w t2 w2
  obtain ⟨A2, n2, c2, ys, rfl, s2, m2, _, _⟩ := open_ints8_w t3 w3
  exact ⟨z0, z1, A1, n1, c1, xs, A2, n2, c2, ys, hu0, hu1, hu2, hu3, ⟨s1, m1⟩, s2, m2⟩
set_option maxRecDepth 100000 in
theorem open_cert_w {N : Nat} {cs : List Value} {y : DataW H × List MemPlace} (hl : cs.length = 6) (h : DataW.trod enc Try.prog w base spare held N 30 cs = some y) (hw : ∀ q ∈ y.1.weights Try.prog 30, q ≤ R) :
    ∃ a r A1 n1 c1 bs A2 n2 c2 ps d A3 n3 c3 ss, cs[0]? = some (.int .i64 a) ∧ cs[1]? = some (.int .i64 r) ∧ cs[2]? = some (.slice A1 n1 c1) ∧ cs[3]? = some (.slice A2 n2 c2) ∧ cs[4]? = some (.int .i64 d) ∧ cs[5]? = some (.slice A3 n3 c3) ∧
      (Sl w 1 A1 n1 (ints bs) ∧ n1 * 8 ≤ R) ∧ (Sl w 1 A2 n2 (ints ps) ∧ n2 * 8 ≤ R) ∧ (Sl w 1 A3 n3 (ints ss) ∧ n3 * 8 ≤ R) := by
  obtain ⟨_, y0, t0, w0⟩ := open_field (C := 4) (T := 28) (off := 0) Try.underlying30 h hw 0 rfl (by kernel_rfl)
  obtain ⟨u4, hu4, e4⟩ := one_cell hl (show 4 < 6 by omega)
  obtain ⟨u5, hu5, e5⟩ := one_cell hl (show 5 < 6 by omega)
  obtain ⟨_, y1, t1, _⟩ := open_field (C := 1) (T := 3) (off := 4) Try.underlying30 h hw 1 rfl (by kernel_rfl)
  obtain ⟨_, y2, t2, w2⟩ := open_field (C := 1) (T := 26) (off := 5) Try.underlying30 h hw 2 rfl (by kernel_rfl)
  obtain ⟨a, r, A1, n1, c1, bs, A2, n2, c2, ps, k0, k1, k2, k3, s1, s2⟩ := open_hdr_w (by simp [hl]) t0 w0
  rw [e4] at t1
  rw [e5] at t2
  obtain ⟨z1, rfl, _⟩ := trod_int64 Try.underlying3 t1
  obtain ⟨A3, n3, c3, xs, rfl, s3, m3, _, _⟩ := open_ints8_w t2 w2
  exact ⟨a, r, A1, n1, c1, bs, A2, n2, c2, ps, z1, A3, n3, c3, xs, sub_cell' (o := 0) (by omega) k0, sub_cell' (o := 0) (by omega) k1, sub_cell' (o := 0) (by omega) k2, sub_cell' (o := 0) (by omega) k3, hu4, hu5, s1, s2, s3, m3⟩
end
end Go.Proofs.Ytmnogefpphonlaa
/-
  Contracts of the reference's laying of numbers and texts as bytes.
-/
namespace Go.Proofs.Ytmnogefpphonlaa
open Go.RowKit

end Go.Proofs.Ytmnogefpphonlaa
/-
  Contract of the reference's laying of numbers of which one is below 0.
-/
namespace Go.Proofs.Ytmnogefpphonlaa
open Go.RowKit

end Go.Proofs.Ytmnogefpphonlaa
/-
  Contracts of wire's reader: a number, a count, a text.
-/
namespace Go.Proofs.Ytmnogefpphonlaa
open Go.RowKit

theorem Sl.ne_cells {w : World} {A : Option Addr} {n g : Nat} {t : TypeId} {cs : Array Value} {bs : List UInt8} (h : Sl w 1 A n (bytes8 bs)) (hb : Blk w g t cs) (hc : ∀ (i : Nat) (k : IntKind) (z : Int), cs[i]? ≠ some (Value.int k z)) :
    ∀ b off, 0 < n → A = some ⟨b, off, none⟩ → b ≠ g := by
  rintro b off hn rfl rfl
  obtain ⟨b', off', u, e, _, hcell, _⟩ := h.byte (k := 0) hn
  injection e with e
  injection e with e1 e2
  subst e1
  rw [hb.cell] at hcell
  exact hc _ _ _ hcell
theorem Sl.set_ne {w : World} {A : Option Addr} {n size : Nat} {cs : List Value} (h : Sl w size A n cs) {p : Addr} (hne : ∀ b off, 0 < n → A = some ⟨b, off, none⟩ → b ≠ p.block) (u : Value) : Sl (w.setCell p u) size A n cs := by
  refine ⟨h.1, fun hn => ?_⟩
  obtain ⟨b, off, e, hb, hc⟩ := h.2 hn
  refine ⟨b, off, e, by simpa [World.setCell] using hb, fun j v hv => ?_⟩
  have h1 : (w.setCell p u).heap[b]? = w.heap[b]? := Below.heap_setCell w p u b (hne b off hn e)
  rw [World.cell?_of_block (a := ⟨b, off + j, none⟩) h1]
  exact hc j v hv
theorem grown_set (w : World) (g i : Nat) (u : Value) : w.grownBy (w.setCell ⟨g, i, none⟩ u) (some g) :=
  ⟨rfl, rfl, rfl, by simp [World.setCell], fun k _ hk => Below.heap_setCell w ⟨g, i, none⟩ u k (by rintro rfl; exact hk rfl)⟩
theorem grown_trans {w w1 w2 : World} {row : Option Nat} (h : w.grownBy w1 row) (h' : w1.grownBy w2 row) : w.grownBy w2 row :=
  ⟨h'.os.trans h.os, h'.tape.trans h.tape, h'.output.trans h.output, Nat.le_trans h.size h'.size, fun k hk hr => (h'.block k (Nat.lt_of_lt_of_le hk h.size) hr).trans (h.block k hk hr)⟩
theorem grown_refl (w : World) (row : Option Nat) : w.grownBy w row := ⟨rfl, rfl, rfl, Nat.le_refl _, fun _ _ _ => rfl⟩
theorem drop_bytes (bs : List UInt8) (k : Nat) : (bytes8 bs).drop (k * 1) = bytes8 (bs.drop k) := by rw [Nat.mul_one, bytes8, bytes8, List.map_drop]
theorem take_bytes (bs : List UInt8) (k : Nat) : (bytes8 bs).take (k * 1) = bytes8 (bs.take k) := by rw [Nat.mul_one, bytes8, bytes8, List.map_take]

/-- A slice whose block is older than block g. -/
def Old (A : Option Addr) (n g : Nat) : Prop := 0 < n → ∃ b off, A = some ⟨b, off, none⟩ ∧ b < g
/-- A reader: the bytes that are left; is something wrong? -/
def Rd (w : World) (g : Nat) (bs : List UInt8) (bad : Bool) : Prop :=
  ∃ A n c, Blk w g 108 #[.slice A n c, .bool bad] ∧ Sl w 1 A n (bytes8 bs) ∧ n ≤ c ∧ c ≤ 9223372036854775807 ∧ Old A n g
theorem old_ne {A : Option Addr} {n g : Nat} (h : Old A n g) : ∀ b off, 0 < n → A = some ⟨b, off, none⟩ → b ≠ g := by
  intro b off hn e
  obtain ⟨b', off', e', hb⟩ := h hn
  rw [e] at e'
  injection e' with e'
  injection e' with e1 e2
  omega
theorem old_cut {A : Option Addr} {n g k : Nat} (h : Old A n g) : Old (A.map (·.add k)) (n - k) g := by
  intro hn
  obtain ⟨b, off, rfl, hb⟩ := h (by omega)
  exact ⟨b, off + k, by simp [add_lit], hb⟩
theorem old_sub {A : Option Addr} {n g k : Nat} (h : Old A n g) : Old A (n - k) g := fun hn => h (by omega)
theorem Rd.lt {w : World} {g : Nat} {bs : List UInt8} {bad : Bool} (h : Rd w g bs bad) : g < w.heap.size := by
  obtain ⟨A, n, c, hb, _⟩ := h
  exact hb.lt
theorem Rd.below {w w' : World} {g : Nat} {bs : List UInt8} {bad : Bool} (h : Rd w g bs bad) (hb : Below w.heap.size w w') : Rd w' g bs bad := by
  obtain ⟨A, n, c, h1, h2, h3⟩ := h
  exact ⟨A, n, c, h1.later hb, h2.below hb, h3⟩
theorem Rd.grown {w w' : World} {g g' : Nat} {bs : List UInt8} {bad : Bool} (h : Rd w g bs bad) (hb : w.grownBy w' (some g')) (hg : g < g') : Rd w' g bs bad := by
  obtain ⟨A, n, c, h1, h2, h3, h4, h5⟩ := h
  refine ⟨A, n, c, h1.grown hb (by intro e; injection e with e; omega), ⟨h2.1, fun hn => ?_⟩, h3, h4, h5⟩
  obtain ⟨b, off, e, hlt, hc⟩ := h2.2 hn
  obtain ⟨b', off', e', hlt'⟩ := h5 hn
  rw [e] at e'
  injection e' with e'
  injection e' with e1 e2
  subst e1
  refine ⟨b, off, e, Nat.lt_of_lt_of_le hlt hb.size, fun j u hu => ?_⟩
  rw [World.cell?_of_block (a := ⟨b, off + j, none⟩) (hb.block b hlt (by intro e; injection e with e; omega))]
  exact hc j u hu
theorem Rd.alloc {w : World} {g : Nat} {bs : List UInt8} {bad : Bool} (h : Rd w g bs bad) (o : Obj) : Rd (w.alloc o) g bs bad := h.below ((Below.refl _ _).alloc (Nat.le_refl _) o)

set_option maxRecDepth 100000 in
set_option maxHeartbeats 400000 in
theorem rd_number_yes {g : Nat} {bs : List UInt8} {m k : Nat} (w : World) (h : Rd w g bs false) (hg : getN bs = some (m, k)) :
    Calls Try.prog 56 #[.pointer (some ⟨g, 0, none⟩)] w fun e w' => e = .returned (.int .i64 m) ∧ Rd w' g (bs.drop k) false ∧ w.grownBy w' (some g) := by
  obtain ⟨A, n, c, hb, hs, hnc, hc, hold⟩ := h
  have h0 : w.cell? ⟨g, 0, none⟩ = some (.slice A n c) := hb.at_ rfl
  have h1 : w.cell? ⟨g, 1, none⟩ = some (.bool false) := hb.at_ rfl
  have f0 := hb.frozen 0
  have f1 := hb.frozen 1
  have hk : k ≤ n := by
    have := (getN_some hg).2.2.2.2
    rw [hs.blen] at this
    exact this
  have HF1 : Hid (c = k → Rd (w.setCell ⟨g, 0, none⟩ (.slice A (n - k) 0)) g (bs.drop k) false) := fun e => by
    have h2 := hs.cut hk hnc
    rw [drop_bytes, if_pos e] at h2
    exact ⟨_, _, _, hb.set_ 0 _, h2.set_ne (old_ne (old_sub hold)) _, by omega, by omega, (old_sub hold)⟩
  have HF2 : Hid (¬ c = k → Rd (w.setCell ⟨g, 0, none⟩ (.slice (A.map (·.add k)) (n - k) (c - k))) g (bs.drop k) false) := fun e => by
    have h2 := hs.cut hk hnc
    rw [drop_bytes, if_neg e, Nat.mul_one] at h2
    exact ⟨_, _, _, hb.set_ 0 _, h2.set_ne (old_ne (old_cut hold)) _, by omega, by omega, (old_cut hold)⟩
  have HG : Hid (∀ u, w.grownBy (w.setCell ⟨g, 0, none⟩ u) (some g)) := grown_set w g 0
  have HS := hide hs
  have hg' := hide hg
  clear hs hb hg
  have hn : n ≤ 9223372036854775807 := by omega
  go_enter Try.func56, Try.ntmps56
  go_wp2_with (go_at_call 52; refine (wire_GetNum_yes _ HS.out hn hg'.out).mono ?_; rintro e w' ⟨rfl, rfl⟩)
  all_goals
    go_ret
    first
      | exact ⟨rfl, HF1.out (by assumption), HG.out _⟩
      | exact ⟨rfl, HF2.out (by assumption), HG.out _⟩

set_option maxRecDepth 100000 in
set_option maxHeartbeats 400000 in
theorem rd_number_no {g : Nat} {bs : List UInt8} {bad : Bool} (w : World) (h : Rd w g bs bad) (hg : bad = true ∨ getN bs = none) :
    Calls Try.prog 56 #[.pointer (some ⟨g, 0, none⟩)] w fun e w' => e = .returned (.int .i64 0) ∧ Rd w' g bs true ∧ w.grownBy w' (some g) := by
  obtain ⟨A, n, c, hb, hs, hnc, hc, hold⟩ := h
  have h0 : w.cell? ⟨g, 0, none⟩ = some (.slice A n c) := hb.at_ rfl
  have h1 : w.cell? ⟨g, 1, none⟩ = some (.bool bad) := hb.at_ rfl
  have f0 := hb.frozen 0
  have f1 := hb.frozen 1
  have HF : Hid (Rd (w.setCell ⟨g, 1, none⟩ (.bool true)) g bs true) := ⟨_, _, _, hb.set_ 1 _, hs.set_ne (old_ne hold) _, hnc, hc, hold⟩
  have HG := hide (grown_set w g 1 (.bool true))
  have HS := hide hs
  clear hs hb
  have hn : n ≤ 9223372036854775807 := by omega
  cases bad with
  | true =>
    clear hg
    cases hg : getN bs with
    | none =>
      have hg' := hide hg
      clear hg
      go_enter Try.func56, Try.ntmps56
      go_wp2_with (go_at_call 52; refine (wire_GetNum_no _ HS.out hn hg'.out).mono ?_; rintro e w' ⟨rfl, rfl⟩)
      go_ret
      exact ⟨rfl, HF.out, HG.out⟩
    | some p =>
      obtain ⟨m, k⟩ := p
      have hg' := hide hg
      clear hg
      go_enter Try.func56, Try.ntmps56
      go_wp2_with (go_at_call 52; refine (wire_GetNum_yes _ HS.out hn hg'.out).mono ?_; rintro e w' ⟨rfl, rfl⟩)
      go_ret
      exact ⟨rfl, HF.out, HG.out⟩
  | false =>
    have hg' : Hid (getN bs = none) := by
      rcases hg with h | h
      · cases h
      · exact h
    clear hg
    go_enter Try.func56, Try.ntmps56
    go_wp2_with (go_at_call 52; refine (wire_GetNum_no _ HS.out hn hg'.out).mono ?_; rintro e w' ⟨rfl, rfl⟩)
    go_ret
    exact ⟨rfl, HF.out, HG.out⟩

/-- What is counted. -/
def cntN (bs : List UInt8) : Option (Nat × Nat) :=
  match getN bs with
  | none => none
  | some (m, k) => if m ≤ (bs.drop k).length then some (m, k) else none
theorem cntN_some {bs : List UInt8} {m k : Nat} (h : cntN bs = some (m, k)) : getN bs = some (m, k) ∧ m ≤ (bs.drop k).length := by
  unfold cntN at h
  cases hg : getN bs with
  | none => rw [hg] at h; cases h
  | some p =>
    obtain ⟨m', k'⟩ := p
    rw [hg] at h
    simp only at h
    split at h
    · rename_i hm
      injection h with h
      injection h with e1 e2
      subst e1; subst e2
      exact ⟨rfl, hm⟩
    · cases h
set_option maxRecDepth 100000 in
set_option maxHeartbeats 400000 in
theorem rd_count_yes {g : Nat} {bs : List UInt8} {m k : Nat} (w : World) (h : Rd w g bs false) (hg : cntN bs = some (m, k)) :
    Calls Try.prog 76 #[.pointer (some ⟨g, 0, none⟩)] w fun e w' => e = .returned (.int .i64 m) ∧ Rd w' g (bs.drop k) false ∧ w.grownBy w' (some g) := by
  obtain ⟨hg1, hm1⟩ := cntN_some hg
  have hg' := hide hg1
  have hm := hide hm1
  clear hg hg1 hm1
  go_enter Try.func76, Try.ntmps76
  go_wp2_with fail
  refine (rd_number_yes _ h hg'.out).mono ?_
  rintro e w1 ⟨rfl, hr, hgr⟩
  obtain ⟨A, n, c, hb, hs, hnc, hc, hold⟩ := hr
  have h0 : w1.cell? ⟨g, 0, none⟩ = some (.slice A n c) := hb.at_ rfl
  have h1 : w1.cell? ⟨g, 1, none⟩ = some (.bool false) := hb.at_ rfl
  have f0 := hb.frozen 0
  have f1 := hb.frozen 1
  have hm2 : decide (n < m) = false := by
    have := hm.out
    rw [hs.blen] at this
    rw [decide_eq_false_iff_not]; omega
  have HF : Hid (Rd (w1.setCell ⟨g, 1, none⟩ (.bool false)) g (bs.drop k) false) := ⟨_, _, _, hb.set_ 1 _, hs.set_ne (old_ne hold) _, hnc, hc, hold⟩
  have HG := hide (grown_trans hgr (grown_set w1 g 1 (.bool false)))
  clear hs hb hgr h
  go_wp2_with fail
  go_ret
  exact ⟨rfl, HF.out, HG.out⟩
set_option maxRecDepth 100000 in
set_option maxHeartbeats 400000 in
theorem rd_count_no {g : Nat} {bs : List UInt8} {bad : Bool} (w : World) (h : Rd w g bs bad) (hg : bad = true ∨ cntN bs = none) :
    Calls Try.prog 76 #[.pointer (some ⟨g, 0, none⟩)] w fun e w' => e = .returned (.int .i64 0) ∧ (∃ bs', Rd w' g bs' true) ∧ w.grownBy w' (some g) := by
  have two : (bad = true ∨ getN bs = none) ∨ (bad = false ∧ ∃ m k, getN bs = some (m, k) ∧ (bs.drop k).length < m) := by
    rcases hg with hg | hg
    · exact .inl (.inl hg)
    · cases bad with
      | true => exact .inl (.inl rfl)
      | false =>
        unfold cntN at hg
        cases h1 : getN bs with
        | none => exact .inl (.inr rfl)
        | some p =>
          obtain ⟨m, k⟩ := p
          rw [h1] at hg
          simp only at hg
          by_cases hm : m ≤ (bs.drop k).length
          · rw [if_pos hm] at hg; cases hg
          · exact .inr ⟨rfl, m, k, rfl, by omega⟩
  rcases two with hg | ⟨rfl, m, k, hg, hm⟩
  · go_enter Try.func76, Try.ntmps76
    go_wp2_with fail
    refine (rd_number_no _ h hg).mono ?_
    rintro e w1 ⟨rfl, hr, hgr⟩
    obtain ⟨A, n, c, hb, hs, hnc, hc, hold⟩ := hr
    have h0 : w1.cell? ⟨g, 0, none⟩ = some (.slice A n c) := hb.at_ rfl
    have h1 : w1.cell? ⟨g, 1, none⟩ = some (.bool true) := hb.at_ rfl
    have f0 := hb.frozen 0
    have f1 := hb.frozen 1
    have HF : Hid (∃ bs', Rd (w1.setCell ⟨g, 1, none⟩ (.bool true)) g bs' true) := ⟨_, _, _, _, hb.set_ 1 _, hs.set_ne (old_ne hold) _, hnc, hc, hold⟩
    have HG := hide (grown_trans hgr (grown_set w1 g 1 (.bool true)))
    clear hs hb hgr h hg
    go_wp2_with fail
    go_ret
    exact ⟨rfl, HF.out, HG.out⟩
  · have hg' := hide hg
    have hm' := hide hm
    clear hg hm
    go_enter Try.func76, Try.ntmps76
    go_wp2_with fail
    refine (rd_number_yes _ h hg'.out).mono ?_
    rintro e w1 ⟨rfl, hr, hgr⟩
    obtain ⟨A, n, c, hb, hs, hnc, hc, hold⟩ := hr
    have h0 : w1.cell? ⟨g, 0, none⟩ = some (.slice A n c) := hb.at_ rfl
    have h1 : w1.cell? ⟨g, 1, none⟩ = some (.bool false) := hb.at_ rfl
    have f0 := hb.frozen 0
    have f1 := hb.frozen 1
    have hm2 : decide (n < m) = true := by
      have := hm'.out
      rw [hs.blen] at this
      rw [decide_eq_true_eq]; omega
    have HF : Hid (∃ bs', Rd (w1.setCell ⟨g, 1, none⟩ (.bool true)) g bs' true) := ⟨_, _, _, _, hb.set_ 1 _, hs.set_ne (old_ne hold) _, hnc, hc, hold⟩
    have HG := hide (grown_trans hgr (grown_set w1 g 1 (.bool true)))
    clear hs hb hgr h
    go_wp2_with fail
    go_ret
    exact ⟨rfl, HF.out, HG.out⟩

set_option maxRecDepth 100000 in
set_option maxHeartbeats 400000 in
theorem rd_text_yes {g : Nat} {bs : List UInt8} {m k : Nat} (w : World) (h : Rd w g bs false) (hg : cntN bs = some (m, k)) :
    Calls Try.prog 51 #[.pointer (some ⟨g, 0, none⟩)] w fun e w' => e = .returned (.string (tx ((bs.drop k).take m))) ∧ Rd w' g (bs.drop (k + m)) false ∧ w.grownBy w' (some g) := by
  have hm := hide (cntN_some hg).2
  have hg' := hide hg
  clear hg
  go_enter Try.func51, Try.ntmps51
  go_wp2_with fail
  refine (rd_count_yes _ h hg'.out).mono ?_
  rintro e w1 ⟨rfl, hr, hgr⟩
  obtain ⟨A, n, c, hb, hs, hnc, hc, hold⟩ := hr
  have h0 : w1.cell? ⟨g, 0, none⟩ = some (.slice A n c) := hb.at_ rfl
  have h1 : w1.cell? ⟨g, 1, none⟩ = some (.bool false) := hb.at_ rfl
  have f0 := hb.frozen 0
  have f1 := hb.frozen 1
  have hmn : m ≤ n := by
    have := hm.out
    rw [hs.blen] at this
    exact this
  have hmc : m ≤ c := by omega
  have hcv : (convert 33 9 (.slice A m c)).run Try.prog w1 = .ok (.string (tx ((bs.drop k).take m))) w1 := by
    have h2 := hs.take hmn
    rw [take_bytes] at h2
    exact run_str_of_bytes w1 _ _ _ Try.underlying33 Try.underlying5 Try.underlying9 h2
  have HF1 : Hid (c = m → Rd (w1.setCell ⟨g, 0, none⟩ (.slice A (n - m) 0)) g (bs.drop (k + m)) false) := fun e => by
    have h2 := hs.cut hmn hnc
    rw [drop_bytes, if_pos e, List.drop_drop] at h2
    exact ⟨_, _, _, hb.set_ 0 _, h2.set_ne (old_ne (old_sub hold)) _, by omega, by omega, (old_sub hold)⟩
  have HF2 : Hid (¬ c = m → Rd (w1.setCell ⟨g, 0, none⟩ (.slice (A.map (·.add m)) (n - m) (c - m))) g (bs.drop (k + m)) false) := fun e => by
    have h2 := hs.cut hmn hnc
    rw [drop_bytes, if_neg e, Nat.mul_one, List.drop_drop] at h2
    exact ⟨_, _, _, hb.set_ 0 _, h2.set_ne (old_ne (old_cut hold)) _, by omega, by omega, (old_cut hold)⟩
  have HG : Hid (∀ u, w.grownBy (w1.setCell ⟨g, 0, none⟩ u) (some g)) := fun u => grown_trans hgr (grown_set w1 g 0 u)
  clear hs hb hgr h
  go_wp2_with fail
  all_goals
    go_ret
    first
      | exact ⟨rfl, HF1.out (by assumption), HG.out _⟩
      | exact ⟨rfl, HF2.out (by assumption), HG.out _⟩
set_option maxRecDepth 100000 in
set_option maxHeartbeats 400000 in
theorem rd_text_no {g : Nat} {bs : List UInt8} {bad : Bool} (w : World) (h : Rd w g bs bad) (hg : bad = true ∨ cntN bs = none) :
    Calls Try.prog 51 #[.pointer (some ⟨g, 0, none⟩)] w fun e w' => (∃ s, e = .returned (.string s)) ∧ (∃ bs', Rd w' g bs' true) ∧ w.grownBy w' (some g) := by
  go_enter Try.func51, Try.ntmps51
  go_wp2_with fail
  refine (rd_count_no _ h hg).mono ?_
  rintro e w1 ⟨rfl, hr, hgr⟩
  obtain ⟨bs', A, n, c, hb, hs, hnc, hc, hold⟩ := hr
  have h0 : w1.cell? ⟨g, 0, none⟩ = some (.slice A n c) := hb.at_ rfl
  have h1 : w1.cell? ⟨g, 1, none⟩ = some (.bool true) := hb.at_ rfl
  have f0 := hb.frozen 0
  have f1 := hb.frozen 1
  have hcv : (convert 33 9 (.slice A 0 c)).run Try.prog w1 = .ok (.string (tx (bs'.take 0))) w1 := by
    have h2 := hs.take (Nat.zero_le n)
    rw [take_bytes] at h2
    exact run_str_of_bytes w1 _ _ _ Try.underlying33 Try.underlying5 Try.underlying9 h2
  have HF : ∀ A' c', (A' = A ∨ 0 < n ∧ A' = A.map (·.add 0)) → c' = c → Hid (Rd (w1.setCell ⟨g, 0, none⟩ (.slice A' n c')) g bs' true) := by
    rintro A' c' hA rfl
    have hA' : A' = A ∨ A' = A.map (·.add 0) := by rcases hA with h | h; exact .inl h; exact .inr h.2
    have e : A.map (·.add 0) = A := by cases A <;> simp [Addr.add]
    rw [e] at hA'
    obtain rfl : A' = A := by rcases hA' with h | h <;> exact h
    exact ⟨_, _, _, hb.set_ 0 _, hs.set_ne (old_ne hold) _, hnc, hc, hold⟩
  have HG := fun u => hide (grown_trans hgr (grown_set w1 g 0 u))
  have HF2 := hide HF
  have HG2 := hide HG
  clear hs hb hgr h HF HG hg
  go_wp2_with fail
  go_ret
  refine ⟨⟨_, rfl⟩, ⟨bs', ?_⟩, HG2.out _⟩
  first
    | exact HF2.out _ _ (.inl rfl) rfl
    | (simp only [Nat.sub_zero]; exact HF2.out _ _ (by split <;> simp [Addr.add]) rfl)
end Go.Proofs.Ytmnogefpphonlaa
/-
  Small words on texts as cells.
-/
namespace Go.Proofs.Ytmnogefpphonlaa
open Go.RowKit

theorem one_str (s : ByteArray) : ∀ u ∈ [Value.string s], u.oneCell' = true := by intro u hu; simp at hu; subst hu; rfl
theorem toList_inj' {a b : ByteArray} (h : a.toList = b.toList) : a = b := by
  rw [ByteArray.toList_eq, ByteArray.toList_eq] at h
  cases a; cases b
  congr
  exact Array.toList_inj.mp h
theorem toList_ne {a b : ByteArray} (h : ¬ a = b) : (a.toList == b.toList) = false := by
  rw [beq_eq_false_iff_ne]
  exact fun e => h (toList_inj' e)
theorem Try.infoStr : (Try.prog.info? 9).map (fun i => (i.zero, i.size, i.bytes)) = some (some (.string ByteArray.empty), 1, 16) := by kernel_rfl
end Go.Proofs.Ytmnogefpphonlaa
