/-
  Transactions and batches: what they are in memory, which may be, their bytes: plain facts, over no program.
-/
import Derived.Test.YtihpmaifcebpiaaConv
namespace Go.Proofs.Ytihpmaifcebpiaa
open Go.RowKit

/-- A transaction. -/
structure TxD where
  s : Int
  q : Int
  k : ByteArray
  v : ByteArray
theorem TxD.ext_ {a b : TxD} (h1 : a.s = b.s) (h2 : a.q = b.q) (h3 : a.k = b.k) (h4 : a.v = b.v) : a = b := by
  cases a; cases b; simp_all
instance : DecidableEq TxD := fun a b =>
  decidable_of_iff (a.s = b.s ∧ a.q = b.q ∧ a.k = b.k ∧ a.v = b.v) ⟨fun ⟨h1, h2, h3, h4⟩ => TxD.ext_ h1 h2 h3 h4, fun h => by subst h; exact ⟨rfl, rfl, rfl, rfl⟩⟩
def txC (t : TxD) : List Value := [.int .i64 t.s, .int .i64 t.q, .string t.k, .string t.v]
def txsC (l : List TxD) : List Value := l.flatMap txC
def txV (t : TxD) : Value := .agg #[.int .i64 t.s, .int .i64 t.q, .string t.k, .string t.v]
theorem txsC_len : ∀ l : List TxD, (txsC l).length = l.length * 4
  | [] => rfl
  | t :: l => by
    have := txsC_len l
    rw [txsC, List.flatMap_cons, List.length_append, List.length_cons]
    rw [txsC] at this
    rw [this]; simp [txC]; omega
theorem txsC_append (a b : List TxD) : txsC (a ++ b) = txsC a ++ txsC b := by simp [txsC]
theorem txsC_at : ∀ (l : List TxD) (k : Nat) (t : TxD), l[k]? = some t → ∀ j v, j < 4 → (txC t)[j]? = some v → (txsC l)[k * 4 + j]? = some v
  | [], k, t, h, _, _, _, _ => by simp at h
  | a :: l, 0, t, h, j, v, hj, hv => by
    simp at h; subst h
    rw [txsC, List.flatMap_cons, Nat.zero_mul, Nat.zero_add, List.getElem?_append_left (by simpa [txC] using hj)]
    exact hv
  | a :: l, k + 1, t, h, j, v, hj, hv => by
    have := txsC_at l k t (by simpa using h) j v hj hv
    rw [txsC, List.flatMap_cons, List.getElem?_append_right (by simp [txC]; omega)]
    rw [show (k + 1) * 4 + j - (txC a).length = k * 4 + j by simp [txC]; omega]
    exact this
section
variable {w w' : World} {n : Nat} {A : Option Addr} {l : List TxD}
theorem Sl.txlen (h : Sl w 4 A n (txsC l)) : l.length = n := by have := h.1; rw [txsC_len] at this; omega
theorem Sl.tx (h : Sl w 4 A n (txsC l)) {k : Nat} (hk : k < n) : ∃ b off t, A = some ⟨b, off, none⟩ ∧ Hid (l[k]? = some t) ∧ w.cell? ⟨b, off + k * 4, none⟩ = some (.int .i64 t.s) ∧ w.cell? ⟨b, off + k * 4 + 1, none⟩ = some (.int .i64 t.q) ∧
    w.cell? ⟨b, off + k * 4 + 2, none⟩ = some (.string t.k) ∧ w.cell? ⟨b, off + k * 4 + 3, none⟩ = some (.string t.v) ∧ b < w.heap.size := by
  obtain ⟨b, off, e, hb, hc⟩ := h.2 (by omega)
  have hl : k < l.length := by rw [h.txlen]; exact hk
  have ht : l[k]? = some l[k] := List.getElem?_eq_getElem hl
  have c := fun j v hj hv => hc (k * 4 + j) v (txsC_at l k _ ht j v hj hv)
  refine ⟨b, off, l[k], e, ht, ?_, ?_, ?_, ?_, hb⟩
  · exact c 0 _ (by omega) rfl
  · exact c 1 _ (by omega) rfl
  · exact c 2 _ (by omega) rfl
  · exact c 3 _ (by omega) rfl
end

/-- Which may be. -/
def idOk (n : Int) : Bool := decide (1 ≤ n ∧ n ≤ 1099511627776)
def mayTx (t : TxD) : Bool := idOk t.s && (idOk t.q && (decide (1 ≤ t.k.size ∧ t.k.size ≤ 16) && decide (t.v.size ≤ 32)))
def mayB (a n : Int) (l : List TxD) : Bool := decide (1 ≤ a ∧ a ≤ 16) && (idOk n && (decide (1 ≤ l.length ∧ l.length ≤ 8) && l.all mayTx))
theorem idOk_iff {n : Int} : idOk n = true ↔ 1 ≤ n ∧ n ≤ 1099511627776 := by simp [idOk]
theorem mayTx_iff {t : TxD} : mayTx t = true ↔ (1 ≤ t.s ∧ t.s ≤ 1099511627776) ∧ (1 ≤ t.q ∧ t.q ≤ 1099511627776) ∧ (1 ≤ t.k.size ∧ t.k.size ≤ 16) ∧ t.v.size ≤ 32 := by simp [mayTx, idOk]
theorem mayB_iff {a n : Int} {l : List TxD} : mayB a n l = true ↔ (1 ≤ a ∧ a ≤ 16) ∧ (1 ≤ n ∧ n ≤ 1099511627776) ∧ (1 ≤ l.length ∧ l.length ≤ 8) ∧ ∀ t ∈ l, mayTx t = true := by simp [mayB, idOk]

/-- A number as a text. -/
def numS (n : Int) : ByteArray := tx (enc n.toNat)
def batchW : ByteArray := ⟨#[98, 97, 116, 99, 104]⟩
def txT (t : TxD) : List ByteArray := [numS t.s, numS t.q, t.k, t.v]
/-- A batch's texts, its bytes. -/
def batchT (a n : Int) (l : List TxD) : List ByteArray := batchW :: numS a :: numS n :: l.flatMap txT
def batchB (a n : Int) (l : List TxD) : List UInt8 := putB (batchT a n l)
theorem numS_size {n : Int} (h : n ≤ 9223372036854775807) : (numS n).size ≤ 9 := by
  rw [numS, tx_size]; exact enc_len_63 (by omega)
theorem txt_le9 : ∀ (ls : List ByteArray) (B : Nat), (∀ s ∈ ls, s.size ≤ B) → B ≤ 9223372036854775807 → (txt ls).length ≤ ls.length * (9 + B)
  | [], _, _, _ => by simp [txt]
  | s :: r, B, h, hB => by
    have h1 := txt_le9 r B (fun x hx => h x (by simp [hx])) hB
    have h0 := h s (by simp)
    have h2 := enc_len_63 (n := s.size) (by omega)
    have h3 : txt (s :: r) = enc s.size ++ s.data.toList ++ txt r := by simp [txt]
    rw [h3, List.length_append, List.length_append, bytes_len, List.length_cons, Nat.add_mul]
    omega
theorem putB_le {ls : List ByteArray} {B : Nat} (h : ∀ s ∈ ls, s.size ≤ B) (hB : B ≤ 9223372036854775807) (hl : ls.length ≤ 9223372036854775807) : (putB ls).length ≤ 9 + ls.length * (9 + B) := by
  have h1 := txt_le9 ls B h hB
  have h2 := enc_len_63 (n := ls.length) (by omega)
  rw [putB, List.length_append]; omega
theorem txT_len (l : List TxD) : (l.flatMap txT).length = l.length * 4 := by
  induction l with
  | nil => rfl
  | cons t l ih => rw [List.flatMap_cons, List.length_append, ih, List.length_cons]; simp [txT]; omega
theorem batchT_len (a n : Int) (l : List TxD) : (batchT a n l).length = 3 + l.length * 4 := by
  simp only [batchT, List.length_cons, txT_len]; omega
theorem batch_size {a n : Int} {l : List TxD} (h : mayB a n l = true) : (∀ s ∈ batchT a n l, s.size ≤ 32) ∧ (batchB a n l).length ≤ 2000 := by
  obtain ⟨h1, h2, h3, h4⟩ := mayB_iff.1 h
  have hs : ∀ s ∈ batchT a n l, s.size ≤ 32 := by
    intro s hs
    simp only [batchT, List.mem_cons, List.mem_flatMap] at hs
    rcases hs with rfl | rfl | rfl | ⟨t, ht, hs⟩
    · decide
    · have := numS_size (n := a) (by omega); omega
    · have := numS_size (n := n) (by omega); omega
    · obtain ⟨g1, g2, g3, g4⟩ := mayTx_iff.1 (h4 t ht)
      simp only [txT, List.mem_cons, List.not_mem_nil, or_false] at hs
      rcases hs with rfl | rfl | rfl | rfl
      · have := numS_size (n := t.s) (by omega); omega
      · have := numS_size (n := t.q) (by omega); omega
      · omega
      · omega
  refine ⟨hs, ?_⟩
  have := putB_le hs (by omega) (by rw [batchT_len]; omega)
  rw [batchT_len] at this
  rw [batchB]; omega

/-- The number that a text is. -/
def wholeN (s : ByteArray) : Option Int :=
  match getN s.data.toList with
  | none => none
  | some (m, k) => if k = s.size then some (m : Int) else none
theorem wholeN_numS {n : Int} (h0 : 0 ≤ n) (h : n ≤ 9223372036854775807) : wholeN (numS n) = some n := by
  have h1 := getN_of n.toNat (by omega) []
  rw [List.append_nil] at h1
  unfold wholeN
  rw [numS, tx_data, h1]
  simp only [tx_size, if_true]
  congr 1; omega
theorem wholeN_some {s : ByteArray} {n : Int} (h : wholeN s = some n) : s = numS n ∧ 0 ≤ n ∧ n ≤ 9223372036854775807 := by
  unfold wholeN at h
  cases hg : getN s.data.toList with
  | none => rw [hg] at h; cases h
  | some p =>
    obtain ⟨m, k⟩ := p
    rw [hg] at h
    simp only at h
    by_cases hk : k = s.size
    · rw [if_pos hk] at h
      injection h with h
      subst h
      obtain ⟨h1, h2, h3, _, _⟩ := getN_some hg
      refine ⟨?_, by omega, by omega⟩
      have h4 : s.data.toList.drop k = [] := List.drop_eq_nil_of_le (by rw [bytes_len]; omega)
      rw [h4, List.append_nil] at h3
      rw [numS, Int.toNat_natCast, ← h3, tx_of]
    · rw [if_neg hk] at h; cases h
theorem wholeN_bounds {s : ByteArray} {n : Int} (h : wholeN s = some n) : 0 ≤ n ∧ n ≤ 9223372036854775807 := (wholeN_some h).2

/-- Transactions out of texts, four by four. -/
def rdTxs : List ByteArray → Option (List TxD)
  | [] => some []
  | a :: b :: k :: v :: r =>
    match wholeN a, wholeN b, rdTxs r with
    | some s, some q, some l => some (⟨s, q, k, v⟩ :: l)
    | _, _, _ => none
  | _ => none
/-- The batch that texts are, that bytes are. -/
def rdB (ls : List ByteArray) : Option (Int × Int × List TxD) :=
  match ls with
  | w :: a :: n :: r =>
    if w = batchW then
      match wholeN a, wholeN n, rdTxs r with
      | some a, some n, some l => if mayB a n l = true then some (a, n, l) else none
      | _, _, _ => none
    else none
  | _ => none
def parseB (bs : List UInt8) : Option (Int × Int × List TxD) :=
  match getT bs with
  | none => none
  | some ls => rdB ls
theorem rdTxs_there : ∀ l : List TxD, (∀ t ∈ l, mayTx t = true) → rdTxs (l.flatMap txT) = some l
  | [], _ => rfl
  | t :: l, h => by
    obtain ⟨g1, g2, _, _⟩ := mayTx_iff.1 (h t (by simp))
    have ih := rdTxs_there l (fun x hx => h x (by simp [hx]))
    rw [List.flatMap_cons]
    show rdTxs (numS t.s :: numS t.q :: t.k :: t.v :: l.flatMap txT) = _
    rw [rdTxs, wholeN_numS (by omega) (by omega), wholeN_numS (by omega) (by omega), ih]
theorem rdTxs_back : ∀ (ls : List ByteArray) (l : List TxD), rdTxs ls = some l → ls = l.flatMap txT
  | [], l, h => by
    rw [rdTxs] at h; injection h with h; subst h; rfl
  | [_], l, h => by simp [rdTxs] at h
  | [_, _], l, h => by simp [rdTxs] at h
  | [_, _, _], l, h => by simp [rdTxs] at h
  | a :: b :: k :: v :: r, l, h => by
    rw [rdTxs] at h
    cases ha : wholeN a with
    | none => rw [ha] at h; simp at h
    | some s =>
      cases hb : wholeN b with
      | none => rw [ha, hb] at h; simp at h
      | some q =>
        cases hr : rdTxs r with
        | none => rw [ha, hb, hr] at h; simp at h
        | some l' =>
          rw [ha, hb, hr] at h
          simp only [Option.some.injEq] at h
          subst h
          have := rdTxs_back r l' hr
          rw [List.flatMap_cons, ← this, (wholeN_some ha).1, (wholeN_some hb).1]
          rfl
theorem rdB_there {a n : Int} {l : List TxD} (h : mayB a n l = true) : rdB (batchT a n l) = some (a, n, l) := by
  obtain ⟨h1, h2, h3, h4⟩ := mayB_iff.1 h
  unfold rdB batchT
  simp only [if_true]
  rw [wholeN_numS (by omega) (by omega), wholeN_numS (by omega) (by omega), rdTxs_there l h4]
  simp only
  rw [if_pos h]
theorem rdB_back {ls : List ByteArray} {a n : Int} {l : List TxD} (h : rdB ls = some (a, n, l)) : ls = batchT a n l ∧ mayB a n l = true := by
  unfold rdB at h
  split at h
  · rename_i w x y r
    by_cases hw : w = batchW
    · rw [if_pos hw] at h
      cases hx : wholeN x with
      | none => rw [hx] at h; simp at h
      | some a' =>
        cases hy : wholeN y with
        | none => rw [hx, hy] at h; simp at h
        | some n' =>
          cases hr : rdTxs r with
          | none => rw [hx, hy, hr] at h; simp at h
          | some l' =>
            rw [hx, hy, hr] at h
            simp only at h
            by_cases hm : mayB a' n' l' = true
            · rw [if_pos hm] at h
              simp only [Option.some.injEq, Prod.mk.injEq] at h
              obtain ⟨rfl, rfl, rfl⟩ := h
              refine ⟨?_, hm⟩
              rw [hw, (wholeN_some hx).1, (wholeN_some hy).1, rdTxs_back r l' hr]
              rfl
            · rw [if_neg hm] at h; cases h
    · rw [if_neg hw] at h; cases h
  · cases h
theorem parseB_there {a n : Int} {l : List TxD} (h : mayB a n l = true) : parseB (batchB a n l) = some (a, n, l) := by
  obtain ⟨h1, h2⟩ := batch_size h
  unfold parseB
  rw [show getT (batchB a n l) = some (batchT a n l) from getL_there codecT (fun s hs => by have := h1 s hs; omega) (by rw [putL_T]; show (batchB a n l).length ≤ _; omega)]
  exact rdB_there h
theorem parseB_back {bs : List UInt8} {a n : Int} {l : List TxD} (h : parseB bs = some (a, n, l)) : bs = batchB a n l ∧ mayB a n l = true := by
  unfold parseB at h
  cases hg : getT bs with
  | none => rw [hg] at h; cases h
  | some ls =>
    rw [hg] at h
    obtain ⟨h1, h2⟩ := rdB_back h
    refine ⟨?_, h2⟩
    have := (getL_back codecT hg).1
    rw [this, h1]; rfl
end Go.Proofs.Ytihpmaifcebpiaa
