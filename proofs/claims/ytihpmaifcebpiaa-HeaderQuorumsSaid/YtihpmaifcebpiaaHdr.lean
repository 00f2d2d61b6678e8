/-
  Headers and certificates: which may be, their bytes: plain facts, over no program.
-/
import Derived.Test.YtihpmaifcebpiaaBat
namespace Go.Proofs.Ytihpmaifcebpiaa
open Go.RowKit

/-- Each above the one ahead? -/
def sortedI : List Int → Bool
  | a :: b :: r => decide (a < b) && sortedI (b :: r)
  | _ => true
/-- All from one number to another one? -/
def betw (lo hi : Int) (l : List Int) : Bool := l.all fun x => decide (lo ≤ x ∧ x ≤ hi)
def rises (lo hi : Int) (l : List Int) : Bool := betw lo hi l && sortedI l
def digs (l : List Int) : Bool := rises 1 65536 l
theorem sortedI_snoc : ∀ (l : List Int) (x : Int), sortedI (l ++ [x]) = (sortedI l && (match l.getLast? with | none => true | some y => decide (y < x)))
  | [], x => rfl
  | [a], x => by simp [sortedI]
  | a :: b :: r, x => by
    have h := sortedI_snoc (b :: r) x
    rw [List.cons_append, List.cons_append, sortedI, ← List.cons_append, h, sortedI, Bool.and_assoc, List.getLast?_cons_cons]
theorem last_take {l : List Int} {k : Nat} {y : Int} (h : l[k]? = some y) : (l.take (k + 1)).getLast? = some y := by
  rw [take_at h, List.getLast?_append]; rfl
theorem sortedI_take : ∀ (l : List Int) (k : Nat), sortedI l = true → sortedI (l.take k) = true
  | [], k, _ => by simp [sortedI]
  | [a], k, _ => by cases k <;> simp [sortedI]
  | a :: b :: r, 0, _ => by simp [sortedI]
  | a :: b :: r, 1, _ => by simp [sortedI]
  | a :: b :: r, k + 2, h => by
    rw [sortedI, Bool.and_eq_true] at h
    have := sortedI_take (b :: r) (k + 1) h.2
    rw [List.take_succ_cons, List.take_succ_cons, sortedI, Bool.and_eq_true]
    rw [List.take_succ_cons] at this
    exact ⟨h.1, this⟩
/-- One more, in order. -/
theorem sortedI_next {l : List Int} {k : Nat} {x y : Int} (hy : l[k]? = some y) (hx : l[k + 1]? = some x) (h : sortedI (l.take (k + 1)) = true) (hlt : y < x) : sortedI (l.take (k + 2)) = true := by
  rw [take_at hx, sortedI_snoc, h, last_take hy]; simpa using hlt
theorem sortedI_bad {l : List Int} {k : Nat} {x y : Int} (hy : l[k]? = some y) (hx : l[k + 1]? = some x) (hlt : ¬ y < x) : sortedI l = false := by
  cases hs : sortedI l with
  | false => rfl
  | true =>
    have := sortedI_take l (k + 2) hs
    rw [take_at hx, sortedI_snoc, last_take hy] at this
    simp [hlt] at this
theorem sortedI_one (l : List Int) : sortedI (l.take 1) = true := by
  match l with
  | [] => rfl
  | a :: r => rfl
theorem betw_snoc {lo hi : Int} (l : List Int) (x : Int) : betw lo hi (l ++ [x]) = (betw lo hi l && decide (lo ≤ x ∧ x ≤ hi)) := by simp [betw]
theorem betw_iff {lo hi : Int} {l : List Int} : betw lo hi l = true ↔ ∀ x ∈ l, lo ≤ x ∧ x ≤ hi := by simp [betw]
theorem betw_bad {lo hi : Int} {l : List Int} {k : Nat} {x : Int} (hx : l[k]? = some x) (h : ¬ (lo ≤ x ∧ x ≤ hi)) : betw lo hi l = false := by
  cases hb : betw lo hi l with
  | false => rfl
  | true => exact absurd (betw_iff.1 hb x (mem_of_at hx)) h
theorem rises_iff {lo hi : Int} {l : List Int} : rises lo hi l = true ↔ (∀ x ∈ l, lo ≤ x ∧ x ≤ hi) ∧ sortedI l = true := by rw [rises, Bool.and_eq_true, betw_iff]
theorem digs_iff {l : List Int} : digs l = true ↔ (∀ x ∈ l, 1 ≤ x ∧ x ≤ 65536) ∧ sortedI l = true := rises_iff

/-- A header; a certificate. -/
structure HdD where
  a : Int
  r : Int
  bs : List Int
  ps : List Int
theorem HdD.ext_ {x y : HdD} (h1 : x.a = y.a) (h2 : x.r = y.r) (h3 : x.bs = y.bs) (h4 : x.ps = y.ps) : x = y := by
  cases x; cases y; simp_all
instance : DecidableEq HdD := fun x y =>
  decidable_of_iff (x.a = y.a ∧ x.r = y.r ∧ x.bs = y.bs ∧ x.ps = y.ps) ⟨fun ⟨h1, h2, h3, h4⟩ => HdD.ext_ h1 h2 h3 h4, fun h => by subst h; exact ⟨rfl, rfl, rfl, rfl⟩⟩
structure CtD where
  h : HdD
  d : Int
  ss : List Int
theorem CtD.ext_ {x y : CtD} (h1 : x.h = y.h) (h2 : x.d = y.d) (h3 : x.ss = y.ss) : x = y := by
  cases x; cases y; simp_all
instance : DecidableEq CtD := fun x y =>
  decidable_of_iff (x.h = y.h ∧ x.d = y.d ∧ x.ss = y.ss) ⟨fun ⟨h1, h2, h3⟩ => CtD.ext_ h1 h2 h3, fun h => by subst h; exact ⟨rfl, rfl, rfl⟩⟩

/-- A committee of so many nodes; how many are enough of it. -/
def isC (n : Int) : Bool := decide (1 ≤ n ∧ n ≤ 16 ∧ n % 3 = 1)
def qC (n : Int) : Int := 2 * (n / 3) + 1
theorem isC_iff {n : Int} : isC n = true ↔ 1 ≤ n ∧ n ≤ 16 ∧ n % 3 = 1 := by simp [isC]
/-- Among n nodes, but for how many parents there are. -/
def formH (n : Int) (x : HdD) : Bool :=
  decide (1 ≤ x.a ∧ x.a ≤ n) && (decide (1 ≤ x.r ∧ x.r ≤ 1099511627776) && (decide (x.bs.length ≤ 8) && (digs x.bs && (digs x.ps && (decide ((x.ps.length : Int) ≤ n) && decide (1 < x.r ∨ x.ps.length = 0))))))
theorem formH_iff {n : Int} {x : HdD} : formH n x = true ↔ (1 ≤ x.a ∧ x.a ≤ n) ∧ (1 ≤ x.r ∧ x.r ≤ 1099511627776) ∧ x.bs.length ≤ 8 ∧ digs x.bs = true ∧ digs x.ps = true ∧ (x.ps.length : Int) ≤ n ∧ (1 < x.r ∨ x.ps.length = 0) := by
  simp [formH]
def mayH (n : Int) (x : HdD) : Bool := isC n && (formH n x && decide (x.r = 1 ∨ qC n ≤ (x.ps.length : Int)))
theorem mayH_iff {n : Int} {x : HdD} : mayH n x = true ↔ isC n = true ∧ formH n x = true ∧ (x.r = 1 ∨ qC n ≤ (x.ps.length : Int)) := by simp [mayH]
def digO (d : Int) : Bool := decide (1 ≤ d ∧ d ≤ 65536)
theorem digO_iff {d : Int} : digO d = true ↔ 1 ≤ d ∧ d ≤ 65536 := by simp [digO]
def mayC (n : Int) (x : CtD) : Bool := mayH n x.h && (digO x.d && (rises 1 n x.ss && decide (qC n ≤ (x.ss.length : Int))))
theorem mayC_iff {n : Int} {x : CtD} : mayC n x = true ↔ mayH n x.h = true ∧ digO x.d = true ∧ rises 1 n x.ss = true ∧ qC n ≤ (x.ss.length : Int) := by simp [mayC]

/-- A header's texts, its bytes. -/
def headerW : ByteArray := ⟨#[104, 101, 97, 100, 101, 114]⟩
theorem headerW_list : headerW.toList = [104, 101, 97, 100, 101, 114] := by rw [ByteArray.toList_eq]; rfl
def headerT (x : HdD) : List ByteArray := [headerW, numS x.a, numS x.r, tx (numsB x.bs), tx (numsB x.ps)]
def headerB (x : HdD) : List UInt8 := putB (headerT x)
theorem nums_le (l : List Int) (h : ∀ x ∈ l, x ≤ 65536) : (nums l).length ≤ 3 * l.length := by
  induction l with
  | nil => simp [nums]
  | cons a l ih =>
    have h1 := ih (fun x hx => h x (by simp [hx]))
    have h2 := h a (by simp)
    have h3 := enc_len_le 2 a.toNat (by omega)
    have e : nums (a :: l) = enc a.toNat ++ nums l := by simp [nums]
    rw [e, List.length_append, List.length_cons]; omega
theorem numsB_le {l : List Int} (h : ∀ x ∈ l, x ≤ 65536) (hl : l.length ≤ 16) : (numsB l).length ≤ 49 := by
  have h1 := nums_le l h
  have h2 := enc_len_le 0 l.length (by omega)
  rw [numsB, List.length_append]; omega
theorem header_size {x : HdD} (h : formH 16 x = true) : (∀ s ∈ headerT x, s.size ≤ 49) ∧ (headerB x).length ≤ 300 ∧ (numsB x.bs).length ≤ 49 ∧ (numsB x.ps).length ≤ 49 := by
  obtain ⟨h1, h2, h3, h4, h5, h6, h7⟩ := formH_iff.1 h
  have g1 := numsB_le (fun y hy => ((digs_iff.1 h4).1 y hy).2) (by omega)
  have g2 := numsB_le (fun y hy => ((digs_iff.1 h5).1 y hy).2) (by omega)
  have hs : ∀ s ∈ headerT x, s.size ≤ 49 := by
    intro s hs
    simp only [headerT, List.mem_cons, List.not_mem_nil, or_false] at hs
    rcases hs with rfl | rfl | rfl | rfl | rfl
    · decide
    · have := numS_size (n := x.a) (by omega); omega
    · have := numS_size (n := x.r) (by omega); omega
    · rw [tx_size]; exact g1
    · rw [tx_size]; exact g2
  have := putB_le hs (by omega) (by simp [headerT])
  refine ⟨hs, ?_, g1, g2⟩
  rw [headerB]
  simp [headerT] at this ⊢
  omega
/-- The header that texts are, that bytes are. -/
def rdH (ls : List ByteArray) : Option HdD :=
  match ls with
  | [w, a, r, x, y] =>
    if w = headerW then
      match wholeN a, wholeN r, getI x.data.toList, getI y.data.toList with
      | some a, some r, some x, some y => if formH 16 ⟨a, r, x, y⟩ = true then some ⟨a, r, x, y⟩ else none
      | _, _, _, _ => none
    else none
  | _ => none
def parseH (bs : List UInt8) : Option HdD :=
  match getT bs with
  | none => none
  | some ls => rdH ls
theorem getI_there {l : List Int} (h : digs l = true) (hl : l.length ≤ 16) : getI (numsB l) = some l := by
  have h0 := (digs_iff.1 h).1
  have h1 := numsB_le (fun y hy => (h0 y hy).2) hl
  exact getL_there codecI (fun x hx => by have := h0 x hx; omega) (by rw [putL_I]; omega)
theorem rdH_there {x : HdD} (h : formH 16 x = true) : rdH (headerT x) = some x := by
  obtain ⟨h1, h2, h3, h4, h5, h6, h7⟩ := formH_iff.1 h
  unfold rdH headerT
  simp only [if_true, tx_data]
  rw [wholeN_numS (by omega) (by omega), wholeN_numS (by omega) (by omega), getI_there h4 (by omega), getI_there h5 (by omega)]
  simp only
  rw [if_pos h]
theorem getI_tx {s : ByteArray} {l : List Int} (h : getI s.data.toList = some l) : s = tx (numsB l) := by
  have := (getL_back codecI h).1
  rw [putL_I] at this
  rw [← this, tx_of]
theorem rdH_back {ls : List ByteArray} {x : HdD} (h : rdH ls = some x) : ls = headerT x ∧ formH 16 x = true := by
  unfold rdH at h
  split at h
  · rename_i w a r s t
    by_cases hw : w = headerW
    · rw [if_pos hw] at h
      cases ha : wholeN a with
      | none => rw [ha] at h; simp at h
      | some a' =>
        cases hr : wholeN r with
        | none => rw [ha, hr] at h; simp at h
        | some r' =>
          cases hs : getI s.data.toList with
          | none => rw [ha, hr, hs] at h; simp at h
          | some s' =>
            cases ht : getI t.data.toList with
            | none => rw [ha, hr, hs, ht] at h; simp at h
            | some t' =>
              rw [ha, hr, hs, ht] at h
              simp only at h
              by_cases hm : formH 16 ⟨a', r', s', t'⟩ = true
              · rw [if_pos hm] at h
                simp only [Option.some.injEq] at h
                subst h
                refine ⟨?_, hm⟩
                rw [hw, (wholeN_some ha).1, (wholeN_some hr).1, getI_tx hs, getI_tx ht]
                rfl
              · rw [if_neg hm] at h; cases h
    · rw [if_neg hw] at h; cases h
  · cases h
section
variable {x y : HdD}
theorem header_dom (h : formH 16 x = true) : (∀ s ∈ headerT x, s.size ≤ 9223372036854775807) ∧ (putL encT (headerT x)).length ≤ 1048576 := by
  obtain ⟨h1, h2, _⟩ := header_size h
  exact ⟨fun s hs => by have := h1 s hs; omega, by rw [putL_T]; show (headerB x).length ≤ _; omega⟩
theorem parseH_there (h : formH 16 x = true) : parseH (headerB x) = some x := by
  obtain ⟨h1, h2⟩ := header_dom h
  unfold parseH
  rw [show getT (headerB x) = some (headerT x) from getL_there codecT h1 h2]
  exact rdH_there h
theorem parseH_back {bs : List UInt8} (h : parseH bs = some x) : bs = headerB x ∧ formH 16 x = true := by
  unfold parseH at h
  cases hg : getT bs with
  | none => rw [hg] at h; cases h
  | some ls =>
    rw [hg] at h
    obtain ⟨h1, h2⟩ := rdH_back h
    refine ⟨?_, h2⟩
    have := (getL_back codecT hg).1
    rw [this, h1]; rfl
theorem parseH_behind (h : formH 16 x = true) : parseH (headerB x ++ [0]) = none := by
  obtain ⟨h1, h2⟩ := header_dom h
  unfold parseH
  rw [show getT (headerB x ++ [0]) = none from getL_behind codecT h1 h2 (by simp)]
theorem parseH_begin (h : formH 16 x = true) {k : Nat} (hk : k < (headerB x).length) : parseH ((headerB x).take k) = none := by
  obtain ⟨h1, h2⟩ := header_dom h
  unfold parseH
  rw [show getT ((headerB x).take k) = none from getL_begin codecT h1 h2 (by rw [putL_T]; exact hk)]
theorem headerB_inj (h : formH 16 x = true) (h' : formH 16 y = true) : (headerB x == headerB y) = decide (x = y) := by
  rw [Bool.eq_iff_iff, beq_iff_eq, decide_eq_true_eq]
  constructor
  · intro e
    have h1 := parseH_there h
    rw [e, parseH_there h'] at h1
    injection h1 with h1
    exact h1.symm
  · rintro rfl; rfl
theorem turned_otherH {bs : List UInt8} (h : parseH bs = some y) (hne : bs ≠ headerB x) : decide (y = x) = false := by
  rw [decide_eq_false_iff_not]
  rintro rfl
  exact hne (parseH_back h).1
end
end Go.Proofs.Ytihpmaifcebpiaa
