/-
  Texts joined: words and contracts that later texts use; lemmas alone, no conditions of a statement.
-/
import Derived.Test.YtihpmaifcebpiaaGr01
import Derived.Test.YtihpmaifcebpiaaGr00
import Derived.Maps.AppendAt
import Derived.Laws.IdiomStrings
import Derived.Laws.BytesArg
set_option linter.unusedVariables false
set_option linter.unusedSimpArgs false
/-
  What bytes are read as: texts, numbers: plain facts, over no program.
-/
namespace Go.Proofs.Ytihpmaifcebpiaa

/-- A text of bytes. -/
def tx (bs : List UInt8) : ByteArray := ⟨bs.toArray⟩
theorem tx_size (bs : List UInt8) : (tx bs).size = bs.length := by show bs.toArray.size = _; simp
theorem tx_data (bs : List UInt8) : (tx bs).data.toList = bs := by simp [tx]
theorem tx_of (s : ByteArray) : tx s.data.toList = s := by cases s; simp [tx]

/-- Things, so many, to the end. -/
def rdL {α : Type} (one : List UInt8 → Option (α × List UInt8)) : Nat → List UInt8 → Option (List α)
  | 0, r => if r = [] then some [] else none
  | n + 1, r =>
    match one r with
    | none => none
    | some (a, r') =>
      match rdL one n r' with
      | none => none
      | some l => some (a :: l)
/-- Things, of whole bytes. -/
def getL {α : Type} (one : List UInt8 → Option (α × List UInt8)) (bs : List UInt8) : Option (List α) :=
  if 1048576 < bs.length then none else
  match getN bs with
  | none => none
  | some (m, k) => if m ≤ (bs.drop k).length then rdL one m (bs.drop k) else none
def oneT (r : List UInt8) : Option (ByteArray × List UInt8) :=
  match getN r with
  | none => none
  | some (m, k) => if m ≤ (r.drop k).length then some (tx ((r.drop k).take m), (r.drop k).drop m) else none
def oneI (r : List UInt8) : Option (Int × List UInt8) :=
  match getN r with
  | none => none
  | some (m, k) => some ((m : Int), r.drop k)
def getT (bs : List UInt8) : Option (List ByteArray) := getL oneT bs
def getI (bs : List UInt8) : Option (List Int) := getL oneI bs

theorem getN_some {bs : List UInt8} {m k : Nat} (h : getN bs = some (m, k)) : m ≤ 9223372036854775807 ∧ k = (enc m).length ∧ bs = enc m ++ bs.drop k ∧ 0 < k ∧ k ≤ bs.length := by
  obtain ⟨h1, h2, r, h3⟩ := dec_some 9 bs m k h
  have e : (128 : Nat) ^ 9 = 9223372036854775808 := by decide
  have h4 : bs.drop k = r := by rw [h3, h2]; simp
  refine ⟨by omega, h2, by rw [h4]; exact h3, by rw [h2]; exact enc_pos m, ?_⟩
  rw [h3, h2]; simp
theorem getN_of (m : Nat) (hm : m ≤ 9223372036854775807) (r : List UInt8) : getN (enc m ++ r) = some (m, (enc m).length) :=
  dec_enc 9 m r (by have : (128 : Nat) ^ 9 = 9223372036854775808 := by decide
                    omega) (by omega)

/-- A way to lay things as bytes, and to read them. -/
structure Codec {α : Type} (one : List UInt8 → Option (α × List UInt8)) (e : α → List UInt8) (dom : α → Prop) : Prop where
  pos : ∀ a, 0 < (e a).length
  there : ∀ a r, dom a → one (e a ++ r) = some (a, r)
  back : ∀ r a r', one r = some (a, r') → r = e a ++ r' ∧ dom a

def encT (s : ByteArray) : List UInt8 := enc s.size ++ s.data.toList
def encI (n : Int) : List UInt8 := enc n.toNat
theorem codecT : Codec oneT encT (fun s => s.size ≤ 9223372036854775807) := by
  refine ⟨fun a => ?_, fun a r h => ?_, fun r a r' h => ?_⟩
  · have := enc_pos a.size
    simp only [encT, List.length_append]; omega
  · unfold oneT encT
    rw [List.append_assoc, getN_of _ h]
    simp only [List.drop_left']
    rw [if_pos (by rw [List.length_append, bytes_len]; omega)]
    have e1 : (a.data.toList ++ r).take a.size = a.data.toList := List.take_left' (bytes_len a)
    have e2 : (a.data.toList ++ r).drop a.size = r := List.drop_left' (bytes_len a)
    rw [e1, e2, tx_of]
  · unfold oneT at h
    cases hg : getN r with
    | none => rw [hg] at h; cases h
    | some p =>
      obtain ⟨m, k⟩ := p
      rw [hg] at h
      simp only at h
      by_cases hm : m ≤ (r.drop k).length
      · rw [if_pos hm] at h
        injection h with h
        injection h with e1 e2
        subst e1; subst e2
        obtain ⟨h1, h2, h3, _, _⟩ := getN_some hg
        have hs : (tx ((r.drop k).take m)).size = m := by rw [tx_size, List.length_take]; omega
        refine ⟨?_, by rw [hs]; exact h1⟩
        unfold encT
        rw [hs, tx_data, List.append_assoc, List.take_append_drop]
        exact h3
      · rw [if_neg hm] at h; cases h
theorem codecI : Codec oneI encI (fun n => 0 ≤ n ∧ n ≤ 9223372036854775807) := by
  refine ⟨fun a => enc_pos _, fun a r h => ?_, fun r a r' h => ?_⟩
  · unfold oneI encI
    rw [getN_of _ (by omega)]
    simp only [List.drop_left']
    congr 2
    omega
  · unfold oneI at h
    cases hg : getN r with
    | none => rw [hg] at h; cases h
    | some p =>
      obtain ⟨m, k⟩ := p
      rw [hg] at h
      injection h with h
      injection h with e1 e2
      subst e1; subst e2
      obtain ⟨h1, h2, h3, _, _⟩ := getN_some hg
      refine ⟨?_, by omega⟩
      unfold encI
      rw [Int.toNat_natCast]
      exact h3

section
variable {α : Type} {one : List UInt8 → Option (α × List UInt8)} {e : α → List UInt8} {dom : α → Prop}
/-- Things' bytes. -/
def putL (e : α → List UInt8) (l : List α) : List UInt8 := enc l.length ++ l.flatMap e
theorem rdL_there (C : Codec one e dom) : ∀ (l : List α), (∀ a ∈ l, dom a) → rdL one l.length (l.flatMap e) = some l
  | [], _ => rfl
  | a :: l, h => by
    rw [List.flatMap_cons, List.length_cons, rdL, C.there a _ (h a (by simp))]
    simp only
    rw [rdL_there C l (fun b hb => h b (by simp [hb]))]
theorem rdL_back (C : Codec one e dom) : ∀ (n : Nat) (r : List UInt8) (l : List α), rdL one n r = some l → r = l.flatMap e ∧ l.length = n ∧ ∀ a ∈ l, dom a
  | 0, r, l, h => by
    rw [rdL] at h
    by_cases hr : r = []
    · rw [if_pos hr] at h
      injection h with h
      subst h
      exact ⟨by simpa using hr, rfl, by simp⟩
    · rw [if_neg hr] at h; cases h
  | n + 1, r, l, h => by
    rw [rdL] at h
    cases h1 : one r with
    | none => rw [h1] at h; cases h
    | some p =>
      obtain ⟨a, r'⟩ := p
      rw [h1] at h
      simp only at h
      cases h2 : rdL one n r' with
      | none => rw [h2] at h; cases h
      | some l' =>
        rw [h2] at h
        injection h with h
        subst h
        obtain ⟨g1, g2, g3⟩ := rdL_back C n r' l' h2
        obtain ⟨g4, g5⟩ := C.back r a r' h1
        refine ⟨by rw [List.flatMap_cons, ← g1]; exact g4, by simp [g2], ?_⟩
        intro b hb
        rcases List.mem_cons.1 hb with rfl | hb
        · exact g5
        · exact g3 b hb
theorem flat_len (hpos : ∀ a, 0 < (e a).length) : ∀ l : List α, l.length ≤ (l.flatMap e).length
  | [] => by simp
  | a :: l => by
    have := flat_len hpos l
    have := hpos a
    rw [List.flatMap_cons, List.length_append, List.length_cons]
    omega
theorem rdL_le (C : Codec one e dom) {n : Nat} {r : List UInt8} {l : List α} (h : rdL one n r = some l) : n ≤ r.length := by
  obtain ⟨h1, h2, _⟩ := rdL_back C n r l h
  have := flat_len C.pos l
  rw [← h1] at this
  omega
theorem getL_there (C : Codec one e dom) {l : List α} (h : ∀ a ∈ l, dom a) (hl : (putL e l).length ≤ 1048576) : getL one (putL e l) = some l := by
  have hc : l.length ≤ (l.flatMap e).length := flat_len C.pos l
  have hn : l.length ≤ 1048576 := by
    rw [putL, List.length_append] at hl; omega
  unfold getL
  rw [if_neg (by omega), putL, getN_of _ (by omega)]
  simp only [List.drop_left']
  rw [if_pos hc]
  exact rdL_there C l h
theorem getL_back (C : Codec one e dom) {bs : List UInt8} {l : List α} (h : getL one bs = some l) : bs = putL e l ∧ bs.length ≤ 1048576 ∧ ∀ a ∈ l, dom a := by
  unfold getL at h
  by_cases hb : 1048576 < bs.length
  · rw [if_pos hb] at h; cases h
  · rw [if_neg hb] at h
    cases hg : getN bs with
    | none => rw [hg] at h; cases h
    | some p =>
      obtain ⟨m, k⟩ := p
      rw [hg] at h
      simp only at h
      by_cases hm : m ≤ (bs.drop k).length
      · rw [if_pos hm] at h
        obtain ⟨h1, h2, h3⟩ := rdL_back C m _ l h
        obtain ⟨_, _, h5, _⟩ := getN_some hg
        refine ⟨?_, by omega, h3⟩
        rw [putL, h2, ← h1]
        exact h5
      · rw [if_neg hm] at h; cases h
/-- How many there are is asked of the rest, or of all: it is one. -/
theorem getL_eq (C : Codec one e dom) {bs : List UInt8} {m k : Nat} (hb : bs.length ≤ 1048576) (hg : getN bs = some (m, k)) : getL one bs = rdL one m (bs.drop k) := by
  unfold getL
  rw [if_neg (by omega), hg]
  simp only
  by_cases hm : m ≤ (bs.drop k).length
  · rw [if_pos hm]
  · rw [if_neg hm]
    cases h : rdL one m (bs.drop k) with
    | none => rfl
    | some l => exact absurd (rdL_le C h) hm
/-- No things' bytes begin with other things' bytes. -/
theorem flat_free (C : Codec one e dom) : ∀ (l l' : List α) (r : List UInt8), l.length = l'.length → (∀ a ∈ l, dom a) → (∀ a ∈ l', dom a) → l.flatMap e ++ r = l'.flatMap e → l = l' ∧ r = []
  | [], [], r, _, _, _, h => ⟨rfl, by simpa using h⟩
  | a :: l, b :: l', r, hl, hd, hd', h => by
    rw [List.flatMap_cons, List.flatMap_cons, List.append_assoc] at h
    have h1 := C.there a (l.flatMap e ++ r) (hd a (by simp))
    have h2 := C.there b (l'.flatMap e) (hd' b (by simp))
    rw [h, h2] at h1
    injection h1 with h1
    injection h1 with e1 e2
    subst e1
    obtain ⟨g1, g2⟩ := flat_free C l l' r (by simpa using hl) (fun a ha => hd a (by simp [ha])) (fun a ha => hd' a (by simp [ha])) e2.symm
    exact ⟨by rw [g1], g2⟩
theorem put_free (C : Codec one e dom) {l l' : List α} {r : List UInt8} (hl : l.length ≤ 1048576) (hl' : l'.length ≤ 1048576) (hd : ∀ a ∈ l, dom a) (hd' : ∀ a ∈ l', dom a) (h : putL e l ++ r = putL e l') : l = l' ∧ r = [] := by
  unfold putL at h
  rw [List.append_assoc] at h
  have h1 := getN_of l.length (by omega) (l.flatMap e ++ r)
  have h2 := getN_of l'.length (by omega) (l'.flatMap e)
  rw [h, h2] at h1
  injection h1 with h1
  injection h1 with e1 e2
  rw [e1] at h
  exact flat_free C l l' r e1.symm hd hd' (List.append_cancel_left h)
theorem put_count (hpos : ∀ a, 0 < (e a).length) (l : List α) : l.length ≤ (putL e l).length := by
  have := flat_len hpos l
  rw [putL, List.length_append]; omega
/-- With something behind they are none. -/
theorem getL_behind (C : Codec one e dom) {l : List α} (hd : ∀ a ∈ l, dom a) (hl : (putL e l).length ≤ 1048576) {r : List UInt8} (hr : r ≠ []) : getL one (putL e l ++ r) = none := by
  cases h : getL one (putL e l ++ r) with
  | none => rfl
  | some l' =>
    obtain ⟨h1, h2, h3⟩ := getL_back C h
    have h4 := put_count C.pos l
    have h5 := put_count C.pos l'
    rw [← h1] at h5
    exact absurd (put_free C (by omega) (by omega) hd h3 h1).2 hr
/-- No beginning of them is any. -/
theorem getL_begin (C : Codec one e dom) {l : List α} (hd : ∀ a ∈ l, dom a) (hl : (putL e l).length ≤ 1048576) {k : Nat} (hk : k < (putL e l).length) : getL one ((putL e l).take k) = none := by
  cases h : getL one ((putL e l).take k) with
  | none => rfl
  | some l' =>
    obtain ⟨h1, h2, h3⟩ := getL_back C h
    have h4 := put_count C.pos l
    have h5 := put_count C.pos l'
    rw [← h1, List.length_take] at h5
    have h6 : putL e l' ++ (putL e l).drop k = putL e l := by rw [← h1, List.take_append_drop]
    have h7 := (put_free C (by omega) (by omega) h3 hd h6).2
    have h8 := congrArg List.length h7
    rw [List.length_drop] at h8
    simp only [List.length_nil] at h8
    omega
end
theorem putL_T (ls : List ByteArray) : putL encT ls = putB ls := rfl
theorem putL_I (xs : List Int) : putL encI xs = numsB xs := rfl
end Go.Proofs.Ytihpmaifcebpiaa
/-
  append of any slice, of no elements too: at a plain region's list, at a step of a region that draws.
-/
namespace Go.Proofs.Ytihpmaifcebpiaa
open Go.RowKit

section
variable {P : Program} (w : World)
theorem run_append_any (base : Nat) (t ty e : TypeId) (i : TypeInfo) (z : Value) (size bytes : Nat) (ht : P.underlying t = some (.slice e)) (hi : P.info? e = some i) (hz : i.zero = some z)
    (hsize : i.size = size) (hby : i.bytes = bytes) (hzs : z.cells.size = size) (hsz : 0 < size)
    (v : Value) (n : Nat) (xs : List Value) (hown : w.ownsRow base e size v n xs)
    (A : Option Addr) (m c : Nat) (news : List Value) (hsl : Sl w size A m news) (h1 : ∀ u ∈ news, u.oneCell' = true)
    (h63 : n + m ≤ maxLen) (hbytes : (n + m) * bytes ≤ 140737488355328) (hbase : base ≤ w.heap.size) :
    ∃ v' w', (Builtin.append_ #[t, t] ty #[v, .slice A m c]).run P w = .ok v' w' ∧ w'.ownsRow base e size v' (n + m) (xs ++ news) ∧ w.grownBy w' v.ownBlock := by
  have some_ : ∀ a : Addr, A = some a → ∃ v' w', (Builtin.append_ #[t, t] ty #[v, .slice A m c]).run P w = .ok v' w' ∧ w'.ownsRow base e size v' (n + m) (xs ++ news) ∧ w.grownBy w' v.ownBlock := by
    rintro a rfl
    obtain ⟨v', w', h2, h3, h4, _⟩ := run_append_own (P := P) w base t ty e i z size bytes ht hi hz hsize hby hzs hsz v n xs hown a m c news hsl.1 (by
      intro j u hu
      have hm : 0 < m := by
        rcases Nat.eq_zero_or_pos m with rfl | h
        · have := hsl.1
          rw [Nat.zero_mul] at this
          have := List.eq_nil_of_length_eq_zero this
          subst this
          simp at hu
        · exact h
      obtain ⟨b, off, hA, _, hc⟩ := hsl.2 hm
      injection hA with hA
      subst hA
      rw [add_lit]
      exact hc j u hu) h1 h63 hbytes hbase
    exact ⟨v', w', h2, h3, h4⟩
  cases hA : A with
  | some a => rw [← hA]; exact some_ a hA
  | none =>
    have hm : m = 0 := by
      rcases Nat.eq_zero_or_pos m with h | h
      · exact h
      · obtain ⟨b, off, hA', _⟩ := hsl.2 h
        rw [hA] at hA'
        cases hA'
    subst hm
    have hn : news = [] := List.eq_nil_of_length_eq_zero (by simpa using hsl.1)
    subst hn
    refine ⟨v, w, ?_, by simpa using hown, ⟨rfl, rfl, rfl, Nat.le_refl _, fun _ _ _ => rfl⟩⟩
    rcases hown.2 with ⟨rfl, rfl⟩ | ⟨g, cap, cur, rfl, hbg, hg, hnc, hcm, hcs, htake⟩
    · simp [Builtin.append_, run_underlying ht, sizeOf, typeInfo, hi, Builtin.lenOf, Builtin.firstCells, loadCells, loadCellsFrom]
    · simp [Builtin.append_, run_underlying ht, sizeOf, typeInfo, hi, Builtin.lenOf, Builtin.firstCells, loadCells, loadCellsFrom, hnc, storeCells]

theorem wp_append_any {o : Oper} {a : Act} {K : Act → World → Prop} {Q : Exit → Act → World → Prop} (s x : Operand) (t : TypeId)
    (ho : o.op = .call { callee := .builtin .append, args := #[s, x], argTypes := #[t, t] })
    (base : Nat) (e : TypeId) (i : TypeInfo) (z : Value) (size bytes : Nat) (ht : P.underlying t = some (.slice e)) (hi : P.info? e = some i) (hz : i.zero = some z)
    (hsize : i.size = size) (hby : i.bytes = bytes) (hzs : z.cells.size = size) (hsz : 0 < size)
    (v : Value) (n : Nat) (xs : List Value) (hs : a.eval s = v) (hown : w.ownsRow base e size v n xs)
    (A : Option Addr) (m c : Nat) (news : List Value) (hx : a.eval x = .slice A m c) (hsl : Sl w size A m news) (h1 : ∀ u ∈ news, u.oneCell' = true)
    (h63 : n + m ≤ maxLen) (hbytes : (n + m) * bytes ≤ 140737488355328) (hbase : base ≤ w.heap.size)
    (h : ∀ v' w', w'.ownsRow base e size v' (n + m) (xs ++ news) → w.grownBy w' v.ownBlock → K (a.put o.dst v') w') : o.wp P a w K Q := by
  obtain ⟨v', w', hr, h2, h3⟩ := run_append_any (P := P) w base t o.type e i z size bytes ht hi hz hsize hby hzs hsz v n xs hown A m c news hsl h1 h63 hbytes hbase
  unfold Oper.wp execOp
  simp only [ho, resolve, invoke, builtin, Sem.run_bind, Sem.run_pure, Result.andThen_ok, List.map_toArray, List.map_cons, List.map_nil, hs, hx, hr]
  exact h v' w' h2 h3

theorem wpList_append_any {ops : Array Oper} {rest : List Oper} {o : Oper} {a : Act} {Q : Exit → Act → World → Prop} (hgd : o.guard = none) (s x : Operand) (t : TypeId)
    (ho : o.op = .call { callee := .builtin .append, args := #[s, x], argTypes := #[t, t] })
    (base : Nat) (e : TypeId) (i : TypeInfo) (z : Value) (size bytes : Nat) (ht : P.underlying t = some (.slice e)) (hi : P.info? e = some i) (hz : i.zero = some z)
    (hsize : i.size = size) (hby : i.bytes = bytes) (hzs : z.cells.size = size) (hsz : 0 < size)
    (v : Value) (n : Nat) (xs : List Value) (hs : a.eval s = v) (hown : w.ownsRow base e size v n xs)
    (A : Option Addr) (m c : Nat) (news : List Value) (hx : a.eval x = .slice A m c) (hsl : Sl w size A m news) (h1 : ∀ u ∈ news, u.oneCell' = true)
    (h63 : n + m ≤ maxLen) (hbytes : (n + m) * bytes ≤ 140737488355328) (hbase : base ≤ w.heap.size)
    (h : ∀ v' w', w'.ownsRow base e size v' (n + m) (xs ++ news) → w.grownBy w' v.ownBlock → wpList P ops Q rest (a.put o.dst v') w') : wpList P ops Q (o :: rest) a w :=
  wpList_plain hgd fun _ hK => wp_append_any w s x t ho base e i z size bytes ht hi hz hsize hby hzs hsz v n xs hs hown A m c news hx hsl h1 h63 hbytes hbase fun v' w' h2 h3 => hK _ _ (h v' w' h2 h3)

theorem step_append_any {ops : Array Oper} {o : Oper} {a : Act} {K : Act → World → Prop} {Q : Exit → Act → World → Prop} {E : Prop} (hgd : o.guard = none) (s x : Operand) (t : TypeId)
    (ho : o.op = .call { callee := .builtin .append, args := #[s, x], argTypes := #[t, t] })
    (base : Nat) (e : TypeId) (i : TypeInfo) (z : Value) (size bytes : Nat) (ht : P.underlying t = some (.slice e)) (hi : P.info? e = some i) (hz : i.zero = some z)
    (hsize : i.size = size) (hby : i.bytes = bytes) (hzs : z.cells.size = size) (hsz : 0 < size)
    (v : Value) (n : Nat) (xs : List Value) (hs : a.eval s = v) (hown : w.ownsRow base e size v n xs)
    (A : Option Addr) (m c : Nat) (news : List Value) (hx : a.eval x = .slice A m c) (hsl : Sl w size A m news) (h1 : ∀ u ∈ news, u.oneCell' = true)
    (h63 : n + m ≤ maxLen) (hbytes : (n + m) * bytes ≤ 140737488355328) (hbase : base ≤ w.heap.size)
    (h : ∀ v' w', w'.ownsRow base e size v' (n + m) (xs ++ news) → w.grownBy w' v.ownBlock → K (a.put o.dst v') w') :
    if Region.wanted o (yielded ops a.tmps) = true then Oper.wp P o a w K Q else E := by
  have hw : Region.wanted o (yielded ops a.tmps) = true := by simp [Region.wanted, hgd]
  rw [if_pos hw]
  exact wp_append_any w s x t ho base e i z size bytes ht hi hz hsize hby hzs hsz v n xs hs hown A m c news hx hsl h1 h63 hbytes hbase h
end
/-- Cells of one kind are one cell each. -/
theorem ints_one (xs : List Int) : ∀ u ∈ ints xs, u.oneCell' = true := by
  intro u hu
  obtain ⟨x, _, rfl⟩ := List.mem_map.mp hu
  rfl
theorem strs_one (xs : List ByteArray) : ∀ u ∈ strs xs, u.oneCell' = true := by
  intro u hu
  obtain ⟨x, _, rfl⟩ := List.mem_map.mp hu
  rfl
theorem bytes8_one (xs : List UInt8) : ∀ u ∈ bytes8 xs, u.oneCell' = true := by
  intro u hu
  obtain ⟨x, _, rfl⟩ := List.mem_map.mp hu
  rfl
end Go.Proofs.Ytihpmaifcebpiaa
/-
  Conversions between bytes and texts: at a plain region's list, at a step of a region that draws.
-/
namespace Go.Proofs.Ytihpmaifcebpiaa
open Go.RowKit

section
variable {P : Program} (w : World)
theorem run_str_of_bytes (src dst e : TypeId) (hs : P.underlying src = some (.slice e)) (he : P.underlying e = some (.int .u8)) (hd : P.underlying dst = some .string) {A : Option Addr} {n c : Nat} {bs : List UInt8}
    (hsl : Sl w 1 A n (bytes8 bs)) : (convert src dst (.slice A n c)).run P w = .ok (.string (tx bs)) w := by
  have hl := hsl.blen
  cases A with
  | none =>
    have h0 : n = 0 := by
      rcases Nat.eq_zero_or_pos n with h | h
      · exact h
      · obtain ⟨b, off, e, _⟩ := hsl.2 h
        cases e
    subst h0
    have hb : bs = [] := List.eq_nil_of_length_eq_zero hl
    subst hb
    exact run_convert_bytes_nil w src e hs he 0 c dst hd
  | some a =>
    subst hl
    refine run_convert_bytes_back w src dst e a c bs hs he hd ?_
    intro j hj
    obtain ⟨b, off, e, _, hc⟩ := hsl.2 (by omega)
    injection e with e
    subst e
    rw [add_lit]
    exact hc j _ (by simp [bytes8, List.getElem?_eq_getElem hj])
theorem wp_conv_str {o : Oper} {a : Act} {K : Act → World → Prop} {Q : Exit → Act → World → Prop} (x : Operand) (src dst e : TypeId) (ho : o.op = .convert src dst x)
    (hs : P.underlying src = some (.slice e)) (he : P.underlying e = some (.int .u8)) (hd : P.underlying dst = some .string) (A : Option Addr) (n c : Nat) (bs : List UInt8) (hx : a.eval x = .slice A n c)
    (hsl : Sl w 1 A n (bytes8 bs)) (h : K (a.put o.dst (.string (tx bs))) w) : o.wp P a w K Q := by
  unfold Oper.wp execOp
  simp only [ho, hx, Sem.run_bind, Sem.run_pure, Result.andThen_ok, run_str_of_bytes w src dst e hs he hd hsl]
  exact h
theorem wpList_conv_str {ops : Array Oper} {rest : List Oper} {o : Oper} {a : Act} {Q : Exit → Act → World → Prop} (hgd : o.guard = none) (x : Operand) (src dst e : TypeId) (ho : o.op = .convert src dst x)
    (hs : P.underlying src = some (.slice e)) (he : P.underlying e = some (.int .u8)) (hd : P.underlying dst = some .string) (A : Option Addr) (n c : Nat) (bs : List UInt8) (hx : a.eval x = .slice A n c)
    (hsl : Sl w 1 A n (bytes8 bs)) (h : wpList P ops Q rest (a.put o.dst (.string (tx bs))) w) : wpList P ops Q (o :: rest) a w :=
  wpList_plain hgd fun _ hK => wp_conv_str w x src dst e ho hs he hd A n c bs hx hsl (hK _ _ h)
theorem step_conv_str {ops : Array Oper} {o : Oper} {a : Act} {K : Act → World → Prop} {Q : Exit → Act → World → Prop} {E : Prop} (hgd : o.guard = none) (x : Operand) (src dst e : TypeId) (ho : o.op = .convert src dst x)
    (hs : P.underlying src = some (.slice e)) (he : P.underlying e = some (.int .u8)) (hd : P.underlying dst = some .string) (A : Option Addr) (n c : Nat) (bs : List UInt8) (hx : a.eval x = .slice A n c)
    (hsl : Sl w 1 A n (bytes8 bs)) (h : K (a.put o.dst (.string (tx bs))) w) : if Region.wanted o (yielded ops a.tmps) = true then Oper.wp P o a w K Q else E := by
  have hw : Region.wanted o (yielded ops a.tmps) = true := by simp [Region.wanted, hgd]
  rw [if_pos hw]
  exact wp_conv_str w x src dst e ho hs he hd A n c bs hx hsl h
/-- A text as new bytes. -/
theorem conv_bytes (src dst e : TypeId) (s : ByteArray) (hs : P.underlying src = some .string) (hd : P.underlying dst = some (.slice e)) (he : P.underlying e = some (.int .u8)) :
    ∃ (cap : Nat) (w4 : World), (convert src dst (.string s)).run P w = .ok (.slice (some ⟨w.heap.size, 0, none⟩) s.size cap) w4 ∧ Sl w4 1 (some ⟨w.heap.size, 0, none⟩) s.size (bytes8 s.data.toList) ∧ Below w.heap.size w w4 := by
  refine ⟨_, _, run_bytes_of_string w src dst e s hs hd he, ⟨by rw [bytes8_len, bytes_len]; omega, fun h => ⟨_, _, rfl, by simp, fun j u hu => ?_⟩⟩, ((Below.refl _ _).drew).alloc (Nat.le_refl _) _⟩
  have hh := heap_alloc_new w.drew (.cells (bytesRow s (grownCap w s.size 0 e)) e ((bytesRow s (grownCap w s.size 0 e)).size, (bytesRow s (grownCap w s.size 0 e)).size + 1))
  rw [Nat.zero_add]
  refine (cell_of_row _ w.heap.size j _ _ _ hh).trans ?_
  have hj : j < s.data.size := by
    have := lt_of_at hu
    rw [bytes8_len, Array.length_toList] at this
    exact this
  unfold bytesRow
  rw [Array.getElem?_append_left (by simpa using hj)]
  simp only [bytes8, List.getElem?_map, Array.getElem?_toList] at hu
  rw [Array.getElem?_map]
  exact hu
theorem wp_conv_bytes {o : Oper} {a : Act} {K : Act → World → Prop} {Q : Exit → Act → World → Prop} (x : Operand) (src dst e : TypeId) (ho : o.op = .convert src dst x)
    (hs : P.underlying src = some .string) (hd : P.underlying dst = some (.slice e)) (he : P.underlying e = some (.int .u8)) (s : ByteArray) (hx : a.eval x = .string s)
    (h : ∀ A cap w', Sl w' 1 A s.size (bytes8 s.data.toList) → Below w.heap.size w w' → K (a.put o.dst (.slice A s.size cap)) w') : o.wp P a w K Q := by
  obtain ⟨cap, w4, hr, h1, h2⟩ := conv_bytes (P := P) w src dst e s hs hd he
  unfold Oper.wp execOp
  simp only [ho, hx, Sem.run_bind, Sem.run_pure, Result.andThen_ok, hr]
  exact h _ _ _ h1 h2
theorem wpList_conv_bytes {ops : Array Oper} {rest : List Oper} {o : Oper} {a : Act} {Q : Exit → Act → World → Prop} (hgd : o.guard = none) (x : Operand) (src dst e : TypeId) (ho : o.op = .convert src dst x)
    (hs : P.underlying src = some .string) (hd : P.underlying dst = some (.slice e)) (he : P.underlying e = some (.int .u8)) (s : ByteArray) (hx : a.eval x = .string s)
    (h : ∀ A cap w', Sl w' 1 A s.size (bytes8 s.data.toList) → Below w.heap.size w w' → wpList P ops Q rest (a.put o.dst (.slice A s.size cap)) w') : wpList P ops Q (o :: rest) a w :=
  wpList_plain hgd fun _ hK => wp_conv_bytes w x src dst e ho hs hd he s hx fun A cap w' h1 h2 => hK _ _ (h A cap w' h1 h2)
theorem step_conv_bytes {ops : Array Oper} {o : Oper} {a : Act} {K : Act → World → Prop} {Q : Exit → Act → World → Prop} {E : Prop} (hgd : o.guard = none) (x : Operand) (src dst e : TypeId) (ho : o.op = .convert src dst x)
    (hs : P.underlying src = some .string) (hd : P.underlying dst = some (.slice e)) (he : P.underlying e = some (.int .u8)) (s : ByteArray) (hx : a.eval x = .string s)
    (h : ∀ A cap w', Sl w' 1 A s.size (bytes8 s.data.toList) → Below w.heap.size w w' → K (a.put o.dst (.slice A s.size cap)) w') : if Region.wanted o (yielded ops a.tmps) = true then Oper.wp P o a w K Q else E := by
  have hw : Region.wanted o (yielded ops a.tmps) = true := by simp [Region.wanted, hgd]
  rw [if_pos hw]
  exact wp_conv_bytes w x src dst e ho hs hd he s hx h
end
/-- What a call owns stays its own where only what is new changes. -/
theorem own_later {w w' : World} {base size n : Nat} {e : TypeId} {v : Value} {xs : List Value} (h : w.ownsRow base e size v n xs) (hb : Below w.heap.size w w') : w'.ownsRow base e size v n xs := by
  refine ⟨h.1, ?_⟩
  rcases h.2 with h0 | ⟨g, cap, cur, hv, hbg, hg, hr⟩
  · exact .inl h0
  · refine .inr ⟨g, cap, cur, hv, hbg, ?_, hr⟩
    have hlt : g < w.heap.size := by
      rcases Nat.lt_or_ge g w.heap.size with h | h
      · exact h
      · rw [Array.getElem?_eq_none h] at hg; cases hg
    rw [hb.block g hlt]
    exact hg
end Go.Proofs.Ytihpmaifcebpiaa
/-
  Transactions and batches: what they are in memory, which may be, their bytes: plain facts, over no program.
-/
namespace Go.Proofs.Ytihpmaifcebpiaa
open Go.RowKit

/-- A transaction. -/
structure TxD where
  s : Int
  q : Int
  k : ByteArray
  v : ByteArray
theorem TxD.ext_ {a b : TxD} (h1 : a.s = b.s) (h2 : a.q = b.q) (h3 : a.k = b.k) (h4 : a.v = b.v) : a = b := by
  cases a; cases b; simp_all
instance : DecidableEq TxD := fun a b =>
  decidable_of_iff (a.s = b.s ∧ a.q = b.q ∧ a.k = b.k ∧ a.v = b.v) ⟨fun ⟨h1, h2, h3, h4⟩ => TxD.ext_ h1 h2 h3 h4, fun h => by subst h; exact ⟨rfl, rfl, rfl, rfl⟩⟩
def txC (t : TxD) : List Value := [.int .i64 t.s, .int .i64 t.q, .string t.k, .string t.v]
def txsC (l : List TxD) : List Value := l.flatMap txC
def txV (t : TxD) : Value := .agg #[.int .i64 t.s, .int .i64 t.q, .string t.k, .string t.v]
theorem txsC_len : ∀ l : List TxD, (txsC l).length = l.length * 4
  | [] => rfl
  | t :: l => by
    have := txsC_len l
    rw [txsC, List.flatMap_cons, List.length_append, List.length_cons]
    rw [txsC] at this
    rw [this]; simp [txC]; omega
theorem txsC_append (a b : List TxD) : txsC (a ++ b) = txsC a ++ txsC b := by simp [txsC]
theorem txsC_at : ∀ (l : List TxD) (k : Nat) (t : TxD), l[k]? = some t → ∀ j v, j < 4 → (txC t)[j]? = some v → (txsC l)[k * 4 + j]? = some v
  | [], k, t, h, _, _, _, _ => by simp at h
  | a :: l, 0, t, h, j, v, hj, hv => by
    simp at h; subst h
    rw [txsC, List.flatMap_cons, Nat.zero_mul, Nat.zero_add, List.getElem?_append_left (by simpa [txC] using hj)]
    exact hv
  | a :: l, k + 1, t, h, j, v, hj, hv => by
    have := txsC_at l k t (by simpa using h) j v hj hv
    rw [txsC, List.flatMap_cons, List.getElem?_append_right (by simp [txC]; omega)]
    rw [show (k + 1) * 4 + j - (txC a).length = k * 4 + j by simp [txC]; omega]
    exact this
section
variable {w w' : World} {n : Nat} {A : Option Addr} {l : List TxD}
theorem Sl.txlen (h : Sl w 4 A n (txsC l)) : l.length = n := by have := h.1; rw [txsC_len] at this; omega
theorem Sl.tx (h : Sl w 4 A n (txsC l)) {k : Nat} (hk : k < n) : ∃ b off t, A = some ⟨b, off, none⟩ ∧ Hid (l[k]? = some t) ∧ w.cell? ⟨b, off + k * 4, none⟩ = some (.int .i64 t.s) ∧ w.cell? ⟨b, off + k * 4 + 1, none⟩ = some (.int .i64 t.q) ∧
    w.cell? ⟨b, off + k * 4 + 2, none⟩ = some (.string t.k) ∧ w.cell? ⟨b, off + k * 4 + 3, none⟩ = some (.string t.v) ∧ b < w.heap.size := by
  obtain ⟨b, off, e, hb, hc⟩ := h.2 (by omega)
  have hl : k < l.length := by rw [h.txlen]; exact hk
  have ht : l[k]? = some l[k] := List.getElem?_eq_getElem hl
  have c := fun j v hj hv => hc (k * 4 + j) v (txsC_at l k _ ht j v hj hv)
  refine ⟨b, off, l[k], e, ht, ?_, ?_, ?_, ?_, hb⟩
  · exact c 0 _ (by omega) rfl
  · exact c 1 _ (by omega) rfl
  · exact c 2 _ (by omega) rfl
  · exact c 3 _ (by omega) rfl
end

/-- Which may be. -/
def idOk (n : Int) : Bool := decide (1 ≤ n ∧ n ≤ 1099511627776)
def mayTx (t : TxD) : Bool := idOk t.s && (idOk t.q && (decide (1 ≤ t.k.size ∧ t.k.size ≤ 16) && decide (t.v.size ≤ 32)))
def mayB (a n : Int) (l : List TxD) : Bool := decide (1 ≤ a ∧ a ≤ 16) && (idOk n && (decide (1 ≤ l.length ∧ l.length ≤ 8) && l.all mayTx))
theorem idOk_iff {n : Int} : idOk n = true ↔ 1 ≤ n ∧ n ≤ 1099511627776 := by simp [idOk]
theorem mayTx_iff {t : TxD} : mayTx t = true ↔ (1 ≤ t.s ∧ t.s ≤ 1099511627776) ∧ (1 ≤ t.q ∧ t.q ≤ 1099511627776) ∧ (1 ≤ t.k.size ∧ t.k.size ≤ 16) ∧ t.v.size ≤ 32 := by simp [mayTx, idOk]
theorem mayB_iff {a n : Int} {l : List TxD} : mayB a n l = true ↔ (1 ≤ a ∧ a ≤ 16) ∧ (1 ≤ n ∧ n ≤ 1099511627776) ∧ (1 ≤ l.length ∧ l.length ≤ 8) ∧ ∀ t ∈ l, mayTx t = true := by simp [mayB, idOk]

/-- A number as a text. -/
def numS (n : Int) : ByteArray := tx (enc n.toNat)
def batchW : ByteArray := ⟨#[98, 97, 116, 99, 104]⟩
def txT (t : TxD) : List ByteArray := [numS t.s, numS t.q, t.k, t.v]
/-- A batch's texts, its bytes. -/
def batchT (a n : Int) (l : List TxD) : List ByteArray := batchW :: numS a :: numS n :: l.flatMap txT
def batchB (a n : Int) (l : List TxD) : List UInt8 := putB (batchT a n l)
theorem numS_size {n : Int} (h : n ≤ 9223372036854775807) : (numS n).size ≤ 9 := by
  rw [numS, tx_size]; exact enc_len_63 (by omega)
theorem txt_le9 : ∀ (ls : List ByteArray) (B : Nat), (∀ s ∈ ls, s.size ≤ B) → B ≤ 9223372036854775807 → (txt ls).length ≤ ls.length * (9 + B)
  | [], _, _, _ => by simp [txt]
  | s :: r, B, h, hB => by
    have h1 := txt_le9 r B (fun x hx => h x (by simp [hx])) hB
    have h0 := h s (by simp)
    have h2 := enc_len_63 (n := s.size) (by omega)
    have h3 : txt (s :: r) = enc s.size ++ s.data.toList ++ txt r := by simp [txt]
    rw [h3, List.length_append, List.length_append, bytes_len, List.length_cons, Nat.add_mul]
    omega
theorem putB_le {ls : List ByteArray} {B : Nat} (h : ∀ s ∈ ls, s.size ≤ B) (hB : B ≤ 9223372036854775807) (hl : ls.length ≤ 9223372036854775807) : (putB ls).length ≤ 9 + ls.length * (9 + B) := by
  have h1 := txt_le9 ls B h hB
  have h2 := enc_len_63 (n := ls.length) (by omega)
  rw [putB, List.length_append]; omega
theorem txT_len (l : List TxD) : (l.flatMap txT).length = l.length * 4 := by
  induction l with
  | nil => rfl
  | cons t l ih => rw [List.flatMap_cons, List.length_append, ih, List.length_cons]; simp [txT]; omega
theorem batchT_len (a n : Int) (l : List TxD) : (batchT a n l).length = 3 + l.length * 4 := by
  simp only [batchT, List.length_cons, txT_len]; omega
theorem batch_size {a n : Int} {l : List TxD} (h : mayB a n l = true) : (∀ s ∈ batchT a n l, s.size ≤ 32) ∧ (batchB a n l).length ≤ 2000 := by
  obtain ⟨h1, h2, h3, h4⟩ := mayB_iff.1 h
  have hs : ∀ s ∈ batchT a n l, s.size ≤ 32 := by
    intro s hs
    simp only [batchT, List.mem_cons, List.mem_flatMap] at hs
    rcases hs with rfl | rfl | rfl | ⟨t, ht, hs⟩
    · decide
    · have := numS_size (n := a) (by omega); omega
    · have := numS_size (n := n) (by omega); omega
    · obtain ⟨g1, g2, g3, g4⟩ := mayTx_iff.1 (h4 t ht)
      simp only [txT, List.mem_cons, List.not_mem_nil, or_false] at hs
      rcases hs with rfl | rfl | rfl | rfl
      · have := numS_size (n := t.s) (by omega); omega
      · have := numS_size (n := t.q) (by omega); omega
      · omega
      · omega
  refine ⟨hs, ?_⟩
  have := putB_le hs (by omega) (by rw [batchT_len]; omega)
  rw [batchT_len] at this
  rw [batchB]; omega

/-- The number that a text is. -/
def wholeN (s : ByteArray) : Option Int :=
  match getN s.data.toList with
  | none => none
  | some (m, k) => if k = s.size then some (m : Int) else none
theorem wholeN_numS {n : Int} (h0 : 0 ≤ n) (h : n ≤ 9223372036854775807) : wholeN (numS n) = some n := by
  have h1 := getN_of n.toNat (by omega) []
  rw [List.append_nil] at h1
  unfold wholeN
  rw [numS, tx_data, h1]
  simp only [tx_size, if_true]
  congr 1; omega
theorem wholeN_some {s : ByteArray} {n : Int} (h : wholeN s = some n) : s = numS n ∧ 0 ≤ n ∧ n ≤ 9223372036854775807 := by
  unfold wholeN at h
  cases hg : getN s.data.toList with
  | none => rw [hg] at h; cases h
  | some p =>
    obtain ⟨m, k⟩ := p
    rw [hg] at h
    simp only at h
    by_cases hk : k = s.size
    · rw [if_pos hk] at h
      injection h with h
      subst h
      obtain ⟨h1, h2, h3, _, _⟩ := getN_some hg
      refine ⟨?_, by omega, by omega⟩
      have h4 : s.data.toList.drop k = [] := List.drop_eq_nil_of_le (by rw [bytes_len]; omega)
      rw [h4, List.append_nil] at h3
      rw [numS, Int.toNat_natCast, ← h3, tx_of]
    · rw [if_neg hk] at h; cases h
theorem wholeN_bounds {s : ByteArray} {n : Int} (h : wholeN s = some n) : 0 ≤ n ∧ n ≤ 9223372036854775807 := (wholeN_some h).2

/-- Transactions out of texts, four by four. -/
def rdTxs : List ByteArray → Option (List TxD)
  | [] => some []
  | a :: b :: k :: v :: r =>
    match wholeN a, wholeN b, rdTxs r with
    | some s, some q, some l => some (⟨s, q, k, v⟩ :: l)
    | _, _, _ => none
  | _ => none
/-- The batch that texts are, that bytes are. -/
def rdB (ls : List ByteArray) : Option (Int × Int × List TxD) :=
  match ls with
  | w :: a :: n :: r =>
    if w = batchW then
      match wholeN a, wholeN n, rdTxs r with
      | some a, some n, some l => if mayB a n l = true then some (a, n, l) else none
      | _, _, _ => none
    else none
  | _ => none
def parseB (bs : List UInt8) : Option (Int × Int × List TxD) :=
  match getT bs with
  | none => none
  | some ls => rdB ls
theorem rdTxs_there : ∀ l : List TxD, (∀ t ∈ l, mayTx t = true) → rdTxs (l.flatMap txT) = some l
  | [], _ => rfl
  | t :: l, h => by
    obtain ⟨g1, g2, _, _⟩ := mayTx_iff.1 (h t (by simp))
    have ih := rdTxs_there l (fun x hx => h x (by simp [hx]))
    rw [List.flatMap_cons]
    show rdTxs (numS t.s :: numS t.q :: t.k :: t.v :: l.flatMap txT) = _
    rw [rdTxs, wholeN_numS (by omega) (by omega), wholeN_numS (by omega) (by omega), ih]
theorem rdTxs_back : ∀ (ls : List ByteArray) (l : List TxD), rdTxs ls = some l → ls = l.flatMap txT
  | [], l, h => by
    rw [rdTxs] at h; injection h with h; subst h; rfl
  | [_], l, h => by simp [rdTxs] at h
  | [_, _], l, h => by simp [rdTxs] at h
  | [_, _, _], l, h => by simp [rdTxs] at h
  | a :: b :: k :: v :: r, l, h => by
    rw [rdTxs] at h
    cases ha : wholeN a with
    | none => rw [ha] at h; simp at h
    | some s =>
      cases hb : wholeN b with
      | none => rw [ha, hb] at h; simp at h
      | some q =>
        cases hr : rdTxs r with
        | none => rw [ha, hb, hr] at h; simp at h
        | some l' =>
          rw [ha, hb, hr] at h
          simp only [Option.some.injEq] at h
          subst h
          have := rdTxs_back r l' hr
          rw [List.flatMap_cons, ← this, (wholeN_some ha).1, (wholeN_some hb).1]
          rfl
theorem rdB_there {a n : Int} {l : List TxD} (h : mayB a n l = true) : rdB (batchT a n l) = some (a, n, l) := by
  obtain ⟨h1, h2, h3, h4⟩ := mayB_iff.1 h
  unfold rdB batchT
  simp only [if_true]
  rw [wholeN_numS (by omega) (by omega), wholeN_numS (by omega) (by omega), rdTxs_there l h4]
  simp only
  rw [if_pos h]
theorem rdB_back {ls : List ByteArray} {a n : Int} {l : List TxD} (h : rdB ls = some (a, n, l)) : ls = batchT a n l ∧ mayB a n l = true := by
  unfold rdB at h
  split at h
  · rename_i w x y r
    by_cases hw : w = batchW
    · rw [if_pos hw] at h
      cases hx : wholeN x with
      | none => rw [hx] at h; simp at h
      | some a' =>
        cases hy : wholeN y with
        | none => rw [hx, hy] at h; simp at h
        | some n' =>
          cases hr : rdTxs r with
          | none => rw [hx, hy, hr] at h; simp at h
          | some l' =>
            rw [hx, hy, hr] at h
            simp only at h
            by_cases hm : mayB a' n' l' = true
            · rw [if_pos hm] at h
              simp only [Option.some.injEq, Prod.mk.injEq] at h
              obtain ⟨rfl, rfl, rfl⟩ := h
              refine ⟨?_, hm⟩
              rw [hw, (wholeN_some hx).1, (wholeN_some hy).1, rdTxs_back r l' hr]
              rfl
            · rw [if_neg hm] at h; cases h
    · rw [if_neg hw] at h; cases h
  · cases h
theorem parseB_there {a n : Int} {l : List TxD} (h : mayB a n l = true) : parseB (batchB a n l) = some (a, n, l) := by
  obtain ⟨h1, h2⟩ := batch_size h
  unfold parseB
  rw [show getT (batchB a n l) = some (batchT a n l) from getL_there codecT (fun s hs => by have := h1 s hs; omega) (by rw [putL_T]; show (batchB a n l).length ≤ _; omega)]
  exact rdB_there h
theorem parseB_back {bs : List UInt8} {a n : Int} {l : List TxD} (h : parseB bs = some (a, n, l)) : bs = batchB a n l ∧ mayB a n l = true := by
  unfold parseB at h
  cases hg : getT bs with
  | none => rw [hg] at h; cases h
  | some ls =>
    rw [hg] at h
    obtain ⟨h1, h2⟩ := rdB_back h
    refine ⟨?_, h2⟩
    have := (getL_back codecT hg).1
    rw [this, h1]; rfl
end Go.Proofs.Ytihpmaifcebpiaa
/-
  A list of transactions of the argument, opened.
-/
namespace Go.Proofs.Ytihpmaifcebpiaa
open Go.ChangeShapes Go.WideShapes Go.ChangeAt Go.RowKit Go.Deep
theorem txsC_get : ∀ (l : List TxD) (j : Nat) (u : Value), (txsC l)[j]? = some u → ∃ t, l[j / 4]? = some t ∧ (txC t)[j % 4]? = some u
  | [], j, u, h => by simp [txsC] at h
  | t :: l, j, u, h => by
    rw [txsC, List.flatMap_cons] at h
    rcases Nat.lt_or_ge j 4 with hj | hj
    · rw [List.getElem?_append_left (by simpa [txC] using hj)] at h
      refine ⟨t, ?_, ?_⟩
      · rw [Nat.div_eq_of_lt hj]; rfl
      · rw [Nat.mod_eq_of_lt hj]; exact h
    · rw [List.getElem?_append_right (by simpa [txC] using hj)] at h
      obtain ⟨t', h1, h2⟩ := txsC_get l (j - 4) u (by simpa [txC, txsC] using h)
      refine ⟨t', ?_, ?_⟩
      · rw [show j / 4 = (j - 4) / 4 + 1 by omega]; exact h1
      · rw [show j % 4 = (j - 4) % 4 by omega]; exact h2
section
variable {H : Type} {enc : TypeId × Value → H} {w : World} {base : Nat} {spare : Nat → Bool} {held : Bool} {R : Nat}
set_option maxRecDepth 100000 in
theorem open_txs_w {fuel : Nat} {v : Value} {x : DataW H × List MemPlace} (h : DataW.trod enc Try.prog w base spare held fuel 24 [v] = some x) (hw : ∀ q ∈ x.1.weights Try.prog 24, q ≤ R) :
    ∃ A n c l, v = .slice A n c ∧ Sl w 4 A n (txsC l) ∧ n ≤ c ∧ c ≤ 9223372036854775807 ∧ n * 48 ≤ R ∧ (∀ t ∈ l, t.k.size ≤ R ∧ t.v.size ≤ R) := by
  obtain ⟨A, n, c, rfl, h1, h2, h3, h4⟩ := open_list (C := 4) Try.underlying24 (by kernel_rfl) (by omega) h hw
  rw [show Try.prog.bytesOf 67 = 48 by kernel_rfl] at h3
  rcases Nat.eq_zero_or_pos n with rfl | hn
  · exact ⟨A, 0, c, [], rfl, ⟨rfl, fun h => absurd h (by omega)⟩, h1, h2, h3, by simp⟩
  · obtain ⟨b, off, rfl, hb, hc⟩ := h4 hn
    have hall : ∀ k : Fin n, ∃ t : TxD, (∀ j u, (txC t)[j]? = some u → w.cell? ⟨b, off + k.val * 4 + j, none⟩ = some u) ∧ t.k.size ≤ R ∧ t.v.size ≤ R := by
      intro k
      obtain ⟨cs, N, y, hl, hcell, htr, hq⟩ := hc k.val k.isLt
      obtain ⟨u0, hu0, e0⟩ := one_cell hl (show 0 < 4 by omega)
      obtain ⟨u1, hu1, e1⟩ := one_cell hl (show 1 < 4 by omega)
      obtain ⟨u2, hu2, e2⟩ := one_cell hl (show 2 < 4 by omega)
      obtain ⟨u3, hu3, e3⟩ := one_cell hl (show 3 < 4 by omega)
      obtain ⟨_, y0, t0, _⟩ := open_field (C := 1) (T := 3) (off := 0) Try.underlying67 htr hq 0 rfl (by kernel_rfl)
      obtain ⟨_, y1, t1, _⟩ := open_field (C := 1) (T := 3) (off := 1) Try.underlying67 htr hq 1 rfl (by kernel_rfl)
      obtain ⟨_, y2, t2, w2⟩ := open_field (C := 1) (T := 9) (off := 2) Try.underlying67 htr hq 2 rfl (by kernel_rfl)
      obtain ⟨_, y3, t3, w3⟩ := open_field (C := 1) (T := 9) (off := 3) Try.underlying67 htr hq 3 rfl (by kernel_rfl)
      rw [e0] at t0
      rw [e1] at t1
      rw [e2] at t2
      rw [e3] at t3
      obtain ⟨z0, rfl, _⟩ := trod_int64 Try.underlying3 t0
      obtain ⟨z1, rfl, _⟩ := trod_int64 Try.underlying3 t1
      obtain ⟨s2, hs2, rfl, _⟩ := DataW.trod_string Try.underlying9 t2
      obtain ⟨s3, hs3, rfl, _⟩ := DataW.trod_string Try.underlying9 t3
      have q2 := w2 s2.data.toList.length (by simp [DataW.weights])
      have q3 := w3 s3.data.toList.length (by simp [DataW.weights])
      rw [Array.length_toList] at q2 q3
      obtain rfl : u2 = .string s2 := by simpa using hs2
      obtain rfl : u3 = .string s3 := by simpa using hs3
      refine ⟨⟨z0, z1, s2, s3⟩, fun j u hu => ?_, q2, q3⟩
      match j, hu with
      | 0, hu => simp [txC] at hu; subst hu; exact (hcell 0 (by omega)).trans hu0
      | 1, hu => simp [txC] at hu; subst hu; exact (hcell 1 (by omega)).trans hu1
      | 2, hu => simp [txC] at hu; subst hu; exact (hcell 2 (by omega)).trans hu2
      | 3, hu => simp [txC] at hu; subst hu; exact (hcell 3 (by omega)).trans hu3
      | j + 4, hu => simp [txC] at hu
    let g : Fin n → TxD := fun k => (hall k).choose
    have hg : ∀ k, (∀ j u, (txC (g k))[j]? = some u → w.cell? ⟨b, off + k.val * 4 + j, none⟩ = some u) ∧ (g k).k.size ≤ R ∧ (g k).v.size ≤ R := fun k => (hall k).choose_spec
    refine ⟨_, n, c, List.ofFn g, rfl, ⟨by rw [txsC_len, List.length_ofFn], fun _ => ⟨b, off, rfl, hb, fun j u hu => ?_⟩⟩, h1, h2, h3, fun a ha => ?_⟩
    · obtain ⟨t, ht, hu⟩ := txsC_get _ j u hu
      rw [List.getElem?_ofFn] at ht
      split at ht
      · rename_i hj
        simp only [Option.some.injEq] at ht
        subst ht
        have := (hg ⟨j / 4, hj⟩).1 (j % 4) u hu
        rw [show off + (j / 4) * 4 + j % 4 = off + j by omega] at this
        exact this
      · simp at ht
    · obtain ⟨k, rfl⟩ := List.mem_ofFn.mp ha
      exact (hg k).2
end
end Go.Proofs.Ytihpmaifcebpiaa
