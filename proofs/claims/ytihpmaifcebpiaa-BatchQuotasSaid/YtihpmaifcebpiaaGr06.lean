/-
  Texts joined: words and contracts that later texts use; lemmas alone, no conditions of a statement.
-/
import Derived.Test.YtihpmaifcebpiaaGr05
import Derived.Test.YtihpmaifcebpiaaGr02
import Derived.Deep.RegionHeld3
import Derived.Deep.DrawnRows
import Derived.Test.YtihpmaifcebpiaaGr03
import Derived.Laws.StructEq
set_option linter.unusedVariables false
set_option linter.unusedSimpArgs false
/-
  Contracts: which batches may be, and what is told of it: the program's and the reference's.
-/
namespace Go.Proofs.Ytihpmaifcebpiaa
open Go.RowKit

/-- A transaction's texts are no longer than can be. -/
def TxZ (l : List TxD) : Prop := ∀ t ∈ l, t.k.size ≤ 9223372036854775807 ∧ t.v.size ≤ 9223372036854775807
def batchV (a n : Int) (A : Option Addr) (m c : Nat) : Value := .agg #[.int .i64 a, .int .i64 n, .slice A m c]
set_option maxRecDepth 100000 in
set_option maxHeartbeats 2000000 in
theorem batch_May {A : Option Addr} {m c : Nat} {l : List TxD} (a n : Int) (w : World) (hs : Sl w 4 A m (txsC l)) (hn : m ≤ 9223372036854775807) (hz : TxZ l) {r : Bool} (hr : Hid (mayB a n l = r)) :
    Calls Try.prog 48 #[batchV a n A m c] w fun e w' => e = .returned (.bool r) ∧ Below w.heap.size w w' := by
  have HL := hide hs.txlen
  obtain ⟨x, HX⟩ : ∃ x, Hid (l.all mayTx = x) := ⟨_, rfl⟩
  have hb0 := below_alloc w (.cells #[.int .i64 a, .int .i64 n, .slice A m c] 26)
  have HC := hide (slices_ContainsFunc (c := c) _ (hs.below hb0) hn hz HX.out)
  have HB := hide hb0
  have HALL : Hid (r = true ↔ (1 ≤ a ∧ a ≤ 16) ∧ (1 ≤ n ∧ n ≤ 1099511627776) ∧ (1 ≤ m ∧ m ≤ 8) ∧ x = true) := by
    rw [Hid, ← hr.out, ← HX.out, ← HL.out, mayB_iff, List.all_eq_true]
  clear hb0 hz hs
  unfold batchV
  go_enter Try.func48, Try.ntmps48
  go_wp2_with (first | (go_at_call 80; refine HC.out.mono ?_; rintro e w1 ⟨rfl, hb1⟩; have HB1 := hide (HB.out.trans (hb1.mono HB.out.size)); clear hb1))
  all_goals
    go_ret
    refine ⟨ret_bool ?_, by first | exact HB1.out | exact HB.out⟩
    rw [Bool.eq_iff_iff, HALL.out]
    first
      | (simp; done)
      | (simp; omega)
      | omega
      | (constructor; (· intro h; exact ⟨⟨by omega, by omega⟩, ⟨by omega, by omega⟩, ⟨by omega, by omega⟩, by simpa using h⟩); (· rintro ⟨_, _, _, h⟩; simpa using h))

set_option maxRecDepth 100000 in
set_option maxHeartbeats 1000000 in
theorem batch_Check {A : Option Addr} {m c : Nat} {l : List TxD} (a n : Int) (w : World) (hs : Sl w 4 A m (txsC l)) (hn : m ≤ 9223372036854775807) (hz : TxZ l) {r : Bool} (hr : Hid (mayB a n l = r)) :
    Calls Try.prog 40 #[batchV a n A m c] w fun e w' => e = .returned (.int .i64 (formE r)) ∧ Below w.heap.size w w' := by
  have hb0 := below_alloc w (.cells #[.int .i64 a, .int .i64 n, .slice A m c] 26)
  have HC := hide (batch_May (c := c) a n _ (hs.below hb0) hn hz hr)
  have HB := hide hb0
  clear hb0 hz hs hr
  unfold batchV at HC ⊢
  go_enter Try.func40, Try.ntmps40
  go_wp2_with fail
  refine HC.out.mono ?_
  rintro e w1 ⟨rfl, hb1⟩
  have HB1 := hide (HB.out.trans (hb1.mono HB.out.size))
  clear hb1
  cases r with
  | true => 
    go_wp2_with fail
    go_ret
    exact ⟨rfl, HB1.out⟩
  | false =>
    go_wp2_with fail
    go_ret
    exact ⟨rfl, HB1.out⟩
set_option maxRecDepth 100000 in
set_option maxHeartbeats 1000000 in
theorem batch_Tx (t : TxD) (w : World) (hk : t.k.size ≤ 9223372036854775807) (hv : t.v.size ≤ 9223372036854775807) {r : Bool} (hr : Hid (mayTx t = r)) :
    Calls Try.prog 37 #[txV t] w fun e w' => e = .returned (.int .i64 (formE r)) ∧ Below w.heap.size w w' := by
  have hc := batch_MayTx t (w.alloc (.cells #[.int .i64 t.s, .int .i64 t.q, .string t.k, .string t.v] 67)) hk hv
  have HB := hide (below_alloc w (.cells #[.int .i64 t.s, .int .i64 t.q, .string t.k, .string t.v] 67))
  rw [hr.out] at hc
  have HC := hide hc
  obtain ⟨s, q, k, v⟩ := t
  unfold txV at HC ⊢
  simp only at HC HB ⊢
  clear hc hr hk hv
  go_enter Try.func37, Try.ntmps37
  go_wp2_with fail
  refine HC.out.mono ?_
  rintro e w1 ⟨rfl, hb1⟩
  have HB1 := hide (HB.out.trans (hb1.mono HB.out.size))
  clear hb1 HC
  cases r with
  | true => 
    go_wp2_with fail
    go_ret
    exact ⟨rfl, HB1.out⟩
  | false =>
    go_wp2_with fail
    go_ret
    exact ⟨rfl, HB1.out⟩
/-! The reference. -/
set_option maxHeartbeats 400000 in
theorem ref4_id (n : Int) (w : World) : Calls Try.prog 51 #[.int .i64 n] w fun e w' => e = .returned (.bool (idOk n)) ∧ w = w' := by
  obtain ⟨r, HR⟩ : ∃ r, Hid (idOk n = r) := ⟨_, rfl⟩
  rw [HR.out]
  go_enter Try.func51, Try.ntmps51
  go_wp2_with fail
  all_goals
    go_ret
    refine ⟨ret_bool ?_, rfl⟩
    rw [← HR.out, Bool.eq_iff_iff, idOk_iff]
    simp
    try omega
set_option maxRecDepth 100000 in
set_option maxHeartbeats 1000000 in
theorem ref4_Tx (t : TxD) (w : World) (hk : t.k.size ≤ 9223372036854775807) (hv : t.v.size ≤ 9223372036854775807) {r : Bool} (hr : Hid (mayTx t = r)) :
    Calls Try.prog 38 #[txV t] w fun e w' => e = .returned (.bool r) ∧ Below w.heap.size w w' := by
  have HB := hide (below_alloc w (.cells #[.int .i64 t.s, .int .i64 t.q, .string t.k, .string t.v] 67))
  obtain ⟨s, q, k, v⟩ := t
  obtain ⟨x, HX⟩ : ∃ x, Hid (idOk s = x) := ⟨_, rfl⟩
  obtain ⟨y, HY⟩ : ∃ y, Hid (idOk q = y) := ⟨_, rfl⟩
  have HALL : Hid (r = true ↔ x = true ∧ y = true ∧ (1 ≤ k.size ∧ k.size ≤ 16) ∧ v.size ≤ 32) := by
    rw [Hid, ← hr.out, ← HX.out, ← HY.out]; simp [mayTx]
  unfold txV
  simp only at HB hk hv ⊢
  clear hr
  go_enter Try.func38, Try.ntmps38
  go_wp2_with (first
    | (go_at_call 51; refine (ref4_id s _).mono ?_; rintro e w1 ⟨rfl, rfl⟩; rw [HX.out])
    | (go_at_call 51; refine (ref4_id q _).mono ?_; rintro e w1 ⟨rfl, rfl⟩; rw [HY.out]))
  all_goals
    go_ret
    refine ⟨ret_bool ?_, HB.out⟩
    rw [Bool.eq_iff_iff, HALL.out]
    simp [*]
    try omega
set_option maxRecDepth 100000 in
set_option maxHeartbeats 1000000 in
theorem ref4_Txs {A : Option Addr} {n c : Nat} {l : List TxD} (w : World) (hs : Sl w 4 A n (txsC l)) (hn : n ≤ 9223372036854775807) (hz : TxZ l) {r : Bool} (hr : Hid (l.all mayTx = r)) :
    Calls Try.prog 52 #[.slice A n c] w fun e w' => e = .returned (.bool r) ∧ Below w.heap.size w w' := by
  have HL := hide hs.txlen
  have HZ := hide hz
  clear hz
  go_enter Try.func52, Try.ntmps52
  go_wp2_with fail
  go_loopw [3] (fun i wr => ∃ k : Nat, k ≤ n ∧ i = .int .i64 k ∧ Hid (∀ t ∈ l.take k, mayTx t = true) ∧ Below w.heap.size w wr) (fun i _ => n - (intOf i).toNat)
  case atStart => exact ⟨0, Nat.zero_le _, rfl, by simp [Hid], Below.refl _ _⟩
  case round =>
    obtain ⟨k, hk, rfl, HT, hb⟩ := hrel
    obtain ⟨wo, rfl⟩ : ∃ wo : World, wo = wr := ⟨_, rfl⟩
    by_cases hlt : k < n
    · obtain ⟨b, off, t, rfl, HU, q0, q1, q2, q3, _⟩ := (hs.below hb).tx hlt
      obtain ⟨z1, z2⟩ := HZ.out t (List.mem_of_getElem? HU.out)
      have hcall := fun r (h : Hid (mayTx t = r)) => ref4_Tx t wo z1 z2 h
      clear hs z1 z2
      obtain ⟨s, q, kk, v⟩ := t
      unfold txV at hcall
      simp only at q0 q1 q2 q3 hcall
      cases hx : mayTx ⟨s, q, kk, v⟩ with
      | true =>
        have HC := hide (hcall true hx)
        have HT2 : Hid (∀ t ∈ l.take (k + 1), mayTx t = true) := by
          intro t ht
          rw [take_at HU.out, List.mem_append] at ht
          rcases ht with ht | ht
          · exact HT.out t ht
          · simp at ht; rw [ht]; exact hx
        clear hcall hx
        go_wp2_with fail
        refine HC.out.mono ?_
        rintro e w1 ⟨rfl, hb1⟩
        have hb2 := below_then hb hb1
        clear HC hb1 q0 q1 q2 q3
        go_wp2_with fail
        go_roundw
        case rel => exact ⟨k + 1, by omega, by go_num, HT2, hb2⟩
        case measure => simp [intOf]; omega
      | false =>
        have HC := hide (hcall false hx)
        have HA : Hid (r = false) := by
          rw [Hid, ← hr.out, List.all_eq_false]
          exact ⟨_, List.mem_of_getElem? HU.out, by simp [hx]⟩
        clear hcall hx
        go_wp2_with fail
        refine HC.out.mono ?_
        rintro e w1 ⟨rfl, hb1⟩
        have hb2 := below_then hb hb1
        clear HC hb1 q0 q1 q2 q3
        go_wp2_with fail
        go_ret
        exact ⟨ret_bool HA.out.symm, hb2⟩
    · obtain rfl : k = n := by omega
      have HA : Hid (r = true) := by
        rw [Hid, ← hr.out, List.all_eq_true]
        have := HT.out
        rw [List.take_of_length_le (by rw [HL.out]; exact Nat.le_refl _)] at this
        exact this
      go_wp2_with fail
      go_ret
      exact ⟨ret_bool HA.out.symm, hb⟩
set_option maxRecDepth 100000 in
set_option maxHeartbeats 2000000 in
theorem ref4_Batch {A : Option Addr} {m c : Nat} {l : List TxD} (a n : Int) (w : World) (hs : Sl w 4 A m (txsC l)) (hn : m ≤ 9223372036854775807) (hz : TxZ l) {r : Bool} (hr : Hid (mayB a n l = r)) :
    Calls Try.prog 17 #[batchV a n A m c] w fun e w' => e = .returned (.bool r) ∧ Below w.heap.size w w' := by
  have HL := hide hs.txlen
  obtain ⟨x, HX⟩ : ∃ x, Hid (l.all mayTx = x) := ⟨_, rfl⟩
  obtain ⟨y, HY⟩ : ∃ y, Hid (idOk n = y) := ⟨_, rfl⟩
  have hb0 := below_alloc w (.cells #[.int .i64 a, .int .i64 n, .slice A m c] 26)
  have HC := hide (ref4_Txs (c := c) _ (hs.below hb0) hn hz HX)
  have HB := hide hb0
  have HALL : Hid (r = true ↔ (1 ≤ a ∧ a ≤ 16) ∧ y = true ∧ (1 ≤ m ∧ m ≤ 8) ∧ x = true) := by
    rw [Hid, ← hr.out, ← HX.out, ← HL.out, ← HY.out, mayB_iff, List.all_eq_true, idOk_iff]
  clear hb0 hz hs hr
  unfold batchV
  go_enter Try.func17, Try.ntmps17
  go_wp2_with (first | (go_at_call 51; refine (ref4_id n _).mono ?_; rintro e w1 ⟨rfl, rfl⟩; rw [HY.out]) | (go_at_call 52; refine HC.out.mono ?_; rintro e w1 ⟨rfl, hb1⟩; have HB1 := hide (HB.out.trans (hb1.mono HB.out.size)); clear hb1))
  all_goals
    go_ret
    refine ⟨ret_bool ?_, by first | exact HB1.out | exact HB.out⟩
    rw [Bool.eq_iff_iff, HALL.out]
    first
      | (simp [*]; done)
      | (simp [*]; omega)
      | omega
end Go.Proofs.Ytihpmaifcebpiaa
/-
  Contracts: texts that are numbers, read into variables: wire's; one: the reference's.
-/
namespace Go.Proofs.Ytihpmaifcebpiaa
open Go.RowKit

/-- The numbers that texts are. -/
def wholes : List ByteArray → Option (List Int)
  | [] => some []
  | s :: r =>
    match wholeN s, wholes r with
    | some z, some l => some (z :: l)
    | _, _ => none
theorem wholes_snoc : ∀ (l : List ByteArray) (s : ByteArray), wholes (l ++ [s]) = (match wholes l, wholeN s with | some zs, some z => some (zs ++ [z]) | _, _ => none)
  | [], s => by
    rw [List.nil_append, wholes, wholes]
    cases wholeN s <;> rfl
  | a :: l, s => by
    rw [List.cons_append, wholes, wholes_snoc l s, wholes]
    cases wholeN a <;> cases wholes l <;> cases wholeN s <;> rfl
theorem wholes_none : ∀ (l r : List ByteArray), wholes l = none → wholes (l ++ r) = none
  | [], r, h => by simp [wholes] at h
  | a :: l, r, h => by
    rw [wholes] at h
    rw [List.cons_append, wholes]
    cases ha : wholeN a with
    | none => rfl
    | some z =>
      cases hl : wholes l with
      | none => rw [wholes_none l r hl]
      | some zs => rw [ha, hl] at h; simp at h
theorem wholes_len : ∀ (l : List ByteArray) (zs : List Int), wholes l = some zs → zs.length = l.length
  | [], zs, h => by rw [wholes] at h; injection h with h; subst h; rfl
  | a :: l, zs, h => by
    rw [wholes] at h
    cases ha : wholeN a with
    | none => rw [ha] at h; simp at h
    | some z =>
      cases hl : wholes l with
      | none => rw [ha, hl] at h; simp at h
      | some zs' =>
        rw [ha, hl] at h
        simp only [Option.some.injEq] at h
        subst h
        simp [wholes_len l zs' hl]
/-- Cells of a block set, one by one. -/
def setAll (cs : Array Value) : List Nat → List Int → Array Value
  | o :: os, z :: zs => setAll (cs.setIfInBounds o (.int .i64 z)) os zs
  | _, _ => cs
theorem setAll_snoc : ∀ (os : List Nat) (zs : List Int) (cs : Array Value) (o : Nat) (z : Int), os.length = zs.length → setAll cs (os ++ [o]) (zs ++ [z]) = (setAll cs os zs).setIfInBounds o (.int .i64 z)
  | [], [], cs, o, z, _ => rfl
  | a :: os, b :: zs, cs, o, z, h => by
    rw [List.cons_append, List.cons_append, setAll, setAll]
    exact setAll_snoc os zs _ o z (by simpa using h)
theorem setAll_size : ∀ (os : List Nat) (zs : List Int) (cs : Array Value), (setAll cs os zs).size = cs.size
  | [], zs, cs => by cases zs <;> rfl
  | a :: os, [], cs => rfl
  | a :: os, b :: zs, cs => by rw [setAll, setAll_size os zs, Array.size_setIfInBounds]
def ptrs (g : Nat) (os : List Nat) : List Value := os.map fun o => .pointer (some ⟨g, o, none⟩)
theorem grown_of_below {w w' : World} (h : Below w.heap.size w w') (row : Option Nat) : w.grownBy w' row := ⟨h.os, h.tape, h.output, h.size, fun k hk _ => h.block k hk⟩
theorem Sl.grown_ne {w w' : World} {size n : Nat} {A : Option Addr} {cs : List Value} {g : Nat} (h : Sl w size A n cs) (hg : w.grownBy w' (some g)) (hA : ∀ b off, 0 < n → A = some ⟨b, off, none⟩ → b ≠ g) : Sl w' size A n cs := by
  refine ⟨h.1, fun hn => ?_⟩
  obtain ⟨b, off, e, hb, hc⟩ := h.2 hn
  refine ⟨b, off, e, Nat.lt_of_lt_of_le hb hg.size, fun j u hu => ?_⟩
  rw [World.cell?_of_block (a := ⟨b, off + j, none⟩) (hg.block b hb (by intro e2; injection e2 with e2; exact hA b off hn e e2))]
  exact hc j u hu
theorem Sl.ptr {w : World} {n g : Nat} {A : Option Addr} {os : List Nat} (h : Sl w 1 A n (ptrs g os)) {k : Nat} (hk : k < n) : ∃ b off o, A = some ⟨b, off, none⟩ ∧ Hid (os[k]? = some o) ∧ w.cell? ⟨b, off + k, none⟩ = some (.pointer (some ⟨g, o, none⟩)) := by
  obtain ⟨b, off, e, hb, hc⟩ := h.2 (by omega)
  have hl : k < os.length := by have := h.1; simp [ptrs] at this; omega
  exact ⟨b, off, os[k], e, List.getElem?_eq_getElem hl, hc k _ (by simp [ptrs, List.getElem?_eq_getElem hl])⟩
set_option maxRecDepth 100000 in
set_option maxHeartbeats 2000000 in
theorem wire_Read {A B : Option Addr} {n c m d g : Nat} {t : TypeId} {cs : Array Value} {ls : List ByteArray} {os : List Nat} (w : World) (hs : Sl w 1 A n (strs ls)) (hp : Sl w 1 B m (ptrs g os)) (hb : Blk w g t cs) (hmn : m ≤ n) (hn : n ≤ 9223372036854775807)
    (hA : ∀ b off, 0 < n → A = some ⟨b, off, none⟩ → b ≠ g) (hB : ∀ b off, 0 < m → B = some ⟨b, off, none⟩ → b ≠ g) (hos : ∀ o ∈ os, o < cs.size) (hz : ∀ s ∈ ls, s.size ≤ 9223372036854775807) {r : Option (List Int)} (hr : Hid (wholes (ls.take m) = r)) :
    Calls Try.prog 56 #[.slice A n c, .slice B m d] w fun e w' => e = .returned (.bool r.isSome) ∧ w.grownBy w' (some g) ∧ Hid (∀ zs, r = some zs → Blk w' g t (setAll cs os zs)) := by
  have HL := hide hs.slen
  have HO := hide hos
  have HZ := hide hz
  have HPL : Hid (os.length = m) := by have := hp.1; simp [ptrs] at this; exact this
  have hd : decide ((n : Int) < (m : Int)) = false := by rw [decide_eq_false_iff_not]; omega
  have hd' : decide (n < m) = false := by rw [decide_eq_false_iff_not]; omega
  have HA := hide hA
  have HB := hide hB
  clear hos hz hA hB
  go_enter Try.func56, Try.ntmps56
  go_wp2_with fail
  go_loopw [17] (fun i wr => ∃ (k : Nat) (zs : List Int), k ≤ m ∧ i = .int .i64 k ∧ Hid (wholes (ls.take k) = some zs) ∧ w.grownBy wr (some g) ∧ Blk wr g t (setAll cs (os.take k) zs)) (fun i _ => m - (intOf i).toNat)
  case atStart => exact ⟨0, [], Nat.zero_le _, rfl, rfl, grown_refl _ _, by simpa [setAll] using hb⟩
  case round =>
    obtain ⟨k, zs, hk, rfl, HW, hgr, hbk⟩ := hrel
    obtain ⟨wo, rfl⟩ : ∃ wo : World, wo = wr := ⟨_, rfl⟩
    by_cases hlt : k < m
    · obtain ⟨b1, o1, o, rfl, HOK, hpc⟩ := (hp.grown_ne hgr HB.out).ptr hlt
      obtain ⟨b2, o2, s, rfl, HU, hsc, _⟩ := (hs.grown_ne hgr HA.out).str (k := k) (by omega)
      have hsz := HZ.out s (List.mem_of_getElem? HU.out)
      have HTK : Hid (ls.take (k + 1) = ls.take k ++ [s]) := take_at HU.out
      have hlen := wholes_len _ _ HW.out
      have hlk : (ls.take k).length = k := by rw [List.length_take, HL.out]; omega
      have HZK : Hid (zs.length = k) := by rw [Hid, hlen, hlk]
      obtain ⟨cap, w4, HCV, s4, hb5⟩ := conv_bytes (P := Try.prog) wo 9 27 5 s Try.underlying9 Try.underlying27 Try.underlying5
      have hsc4 := cell_later hb5 hsc
      have hbk4 := hbk.later hb5
      have hgr4 := grown_trans hgr (grown_of_below hb5 (some g))
      clear hs hp hbk hgr hb5 hlen hlk
      have bad : ∀ {x : Option Int}, wholeN s = x → x = none → Hid (r = none) := by
        intro x h1 h2
        have h3 : wholes (ls.take (k + 1)) = none := by rw [HTK.out, wholes_snoc, h1, h2]; cases wholes (ls.take k) <;> rfl
        have h4 : ls.take m = ls.take (k + 1) ++ (ls.take m).drop (k + 1) := by
          have := List.take_append_drop (k + 1) (ls.take m)
          rw [List.take_take, Nat.min_eq_left (by omega)] at this
          exact this.symm
        rw [Hid, ← hr.out, h4]
        exact wholes_none _ _ h3
      cases hg : getN s.data.toList with
      | none =>
        have HR := bad (x := wholeN s) rfl (by unfold wholeN; rw [hg])
        have HG := hide hg
        clear hg bad
        go_wp2_with fail
        refine (wire_GetNum_no _ s4 (by omega) HG.out).mono ?_
        rintro e w' ⟨rfl, rfl⟩
        go_wp2_with fail
        go_ret
        exact ⟨ret_bool (by rw [HR.out]; rfl), hgr4, fun zs h => by rw [HR.out] at h; cases h⟩
      | some p =>
        obtain ⟨x, y⟩ := p
        have HG := hide hg
        have hw : wholeN s = if y = s.size then some (x : Int) else none := by unfold wholeN; rw [hg]
        by_cases hy : y = s.size
        · rw [if_pos hy] at hw
          have HW2 : Hid (wholes (ls.take (k + 1)) = some (zs ++ [(x : Int)])) := by rw [Hid, HTK.out, wholes_snoc, HW.out, hw]
          have hos : o < cs.size := HO.out o (List.mem_of_getElem? HOK.out)
          have hx0 : (setAll cs (os.take k) zs)[o]? = some ((setAll cs (os.take k) zs)[o]'(by rw [setAll_size]; exact hos)) := Array.getElem?_eq_getElem _
          have hcell : ∃ u, w4.cell? ⟨g, o, none⟩ = some u := ⟨_, hbk4.at_ hx0⟩
          obtain ⟨u, hcell⟩ := hcell
          have hfr := hbk4.frozen o
          have HBK2 : Hid (Blk (w4.setCell ⟨g, o, none⟩ (.int .i64 x)) g t (setAll cs (os.take (k + 1)) (zs ++ [(x : Int)]))) := by
            rw [Hid, take_at HOK.out, setAll_snoc _ _ _ _ _ (by rw [List.length_take, HPL.out, HZK.out]; omega)]
            exact hbk4.set_ o _
          have HGR2 := hide (grown_trans hgr4 (grown_set w4 g o (.int .i64 x)))
          have hyb : ((y : Int) != (s.size : Int)) = false := by simp; omega
          clear hg hw hy hbk4 hgr4 hx0 bad
          go_wp2_with fail
          refine (wire_GetNum_yes _ s4 (by omega) HG.out).mono ?_
          rintro e w' ⟨rfl, rfl⟩
          clear s4
          go_wp2_with fail
          go_roundw
          case rel => exact ⟨k + 1, _, by omega, by go_num, HW2, HGR2.out, HBK2.out⟩
          case measure => simp [intOf]; omega
        · rw [if_neg hy] at hw
          have HR := bad hw rfl
          have hyb : ((y : Int) != (s.size : Int)) = true := by simp; omega
          clear hg hw hy hbk4 bad
          go_wp2_with fail
          refine (wire_GetNum_yes _ s4 (by omega) HG.out).mono ?_
          rintro e w' ⟨rfl, rfl⟩
          go_wp2_with fail
          go_ret
          exact ⟨ret_bool (by rw [HR.out]; rfl), hgr4, fun zs h => by rw [HR.out] at h; cases h⟩
    · obtain rfl : k = m := by omega
      have HR : Hid (r = some zs) := hr.out.symm.trans HW.out
      rw [List.take_of_length_le (by rw [HPL.out]; exact Nat.le_refl _)] at hbk
      go_wp2_with fail
      go_ret
      exact ⟨ret_bool (by rw [HR.out]; rfl), hgr, fun zs' h => by rw [HR.out] at h; injection h with h; subst h; exact hbk⟩
set_option maxHeartbeats 400000 in
theorem ref4_whole (s : ByteArray) (w : World) (hsz : s.size ≤ 9223372036854775807) : 
    Calls Try.prog 58 #[.string s] w fun e w' => (∃ x : Int, e = .returned (.tuple #[.int .i64 x, .bool (wholeN s).isSome]) ∧ Hid (∀ z, wholeN s = some z → x = z)) ∧ Below w.heap.size w w' := by
  obtain ⟨cap, w4, HCV, s4, hb5⟩ := conv_bytes (P := Try.prog) w 9 27 5 s Try.underlying9 Try.underlying27 Try.underlying5
  cases hg : getN s.data.toList with
  | none =>
    have hw : wholeN s = none := by unfold wholeN; rw [hg]
    have HG := hide (gotN_none hg)
    rw [hw]
    clear hg hw
    go_enter Try.func58, Try.ntmps58
    go_wp2_with fail
    refine (ref2_GetNum _ s4 (by omega)).mono ?_
    rintro e w5 ⟨rfl, hb6⟩
    rw [HG.out]
    have hb7 := below_then hb5 hb6
    clear hb6 hb5 s4
    go_wp2_with fail
    go_ret2
    exact ⟨⟨_, rfl, fun z h => by cases h⟩, hb7⟩
  | some p =>
    obtain ⟨x, y⟩ := p
    have HG := hide (gotN_some hg)
    have hy0 := (getN_some hg).2.2.2.1
    have hw : wholeN s = if y = s.size then some (x : Int) else none := by unfold wholeN; rw [hg]
    by_cases hy : y = s.size
    · rw [if_pos hy] at hw
      have hyb : ((y : Int) == (s.size : Int)) = true := by simp; omega
      rw [hw]
      clear hg hw hy
      go_enter Try.func58, Try.ntmps58
      go_wp2_with fail
      refine (ref2_GetNum _ s4 (by omega)).mono ?_
      rintro e w5 ⟨rfl, hb6⟩
      rw [HG.out]
      have hb7 := below_then hb5 hb6
      clear hb6 hb5 s4
      go_wp2_with fail
      go_ret2
      exact ⟨⟨_, rfl, fun z h => by injection h⟩, hb7⟩
    · rw [if_neg hy] at hw
      have hyb : ((y : Int) == (s.size : Int)) = false := by simp; omega
      rw [hw]
      clear hg hw hy
      go_enter Try.func58, Try.ntmps58
      go_wp2_with fail
      refine (ref2_GetNum _ s4 (by omega)).mono ?_
      rintro e w5 ⟨rfl, hb6⟩
      rw [HG.out]
      have hb7 := below_then hb5 hb6
      clear hb6 hb5 s4
      go_wp2_with fail
      go_ret2
      exact ⟨⟨_, rfl, fun z h => by cases h⟩, hb7⟩
end Go.Proofs.Ytihpmaifcebpiaa
/-
  Contracts: the batch that bytes are: the program's.
-/
namespace Go.Proofs.Ytihpmaifcebpiaa
open Go.RowKit
attribute [local go_sem ↓] Go.wp_at_zero Go.wp_at_succ

theorem grown_new {w wa wb : World} {g g' : Nat} (h : w.grownBy wa (some g)) (h' : wa.grownBy wb (some g')) (hg : w.heap.size ≤ g') : w.grownBy wb (some g) :=
  ⟨h'.os.trans h.os, h'.tape.trans h.tape, h'.output.trans h.output, Nat.le_trans h.size h'.size, fun k hk hr => (h'.block k (Nat.lt_of_lt_of_le hk h.size) (by intro e; injection e with e; omega)).trans (h.block k hk hr)⟩
theorem grown_row {w wa wb : World} {g : Nat} {row : Option Nat} (h : w.grownBy wa (some g)) (h' : wa.grownBy wb row) (hg : ∀ g', row = some g' → w.heap.size ≤ g') : w.grownBy wb (some g) :=
  ⟨h'.os.trans h.os, h'.tape.trans h.tape, h'.output.trans h.output, Nat.le_trans h.size h'.size, fun k hk hr => (h'.block k (Nat.lt_of_lt_of_le hk h.size) (by intro e; have := hg k e.symm; omega)).trans (h.block k hk hr)⟩
theorem grown_alloc {w wa : World} {g : Nat} (h : w.grownBy wa (some g)) (o : Obj) : w.grownBy (wa.alloc o) (some g) := grown_trans h (World.grownBy_alloc wa o _)
theorem below_of_grown {B : Nat} {w wa wb : World} {g : Nat} (hb : Below B w wa) (hg : wa.grownBy wb (some g)) (hB : B ≤ wa.heap.size) (h : B ≤ g) : Below B w wb := hb.grown hg hB (fun k hk => by injection hk with hk; omega)
theorem Sl.drop_ {w : World} {g o n : Nat} {cs : List Value} (h : Sl w 1 (some ⟨g, o, none⟩) n cs) {k : Nat} (hk : k ≤ n) : Sl w 1 (some ⟨g, o + k, none⟩) (n - k) (cs.drop k) := by
  refine ⟨by rw [List.length_drop, h.1]; omega, fun hn => ?_⟩
  obtain ⟨b, off, e, hb, hc⟩ := h.2 (by omega)
  injection e with e
  injection e with e1 e2
  subst e1; subst e2
  refine ⟨g, o + k, rfl, hb, fun j u hu => ?_⟩
  rw [Nat.add_assoc]
  exact hc _ u (by rw [← hu, List.getElem?_drop])
theorem strs_drop (ls : List ByteArray) (k : Nat) : (strs ls).drop k = strs (ls.drop k) := by rw [strs, strs, List.map_drop]
theorem Sl.lit {w : World} {g o n j : Nat} {ls : List ByteArray} {u : ByteArray} (h : Sl w 1 (some ⟨g, o, none⟩) n (strs ls)) (hj : ls[j]? = some u) (hn : 0 < n) : w.cell? ⟨g, o + j, none⟩ = some (.string u) := by
  obtain ⟨b, off, e, hb, hc⟩ := h.2 hn
  injection e with e
  injection e with e1 e2
  subst e1; subst e2
  exact hc j _ (by simp [strs, hj])
theorem Try.infoTx : (Try.prog.info? 67).map (fun i => (i.zero, i.size, i.bytes)) = some (some (.agg #[.int .i64 0, .int .i64 0, .string ByteArray.empty, .string ByteArray.empty]), 4, 48) := by kernel_rfl
theorem grown_drew {w wa : World} {row : Option Nat} (h : w.grownBy wa row) : w.grownBy wa.drew row := ⟨h.os, h.tape, h.output, h.size, h.block⟩
theorem txsC_one (l : List TxD) : ∀ u ∈ txsC l, u.oneCell' = true := by
  intro u hu
  simp only [txsC, List.mem_flatMap] at hu
  obtain ⟨t, _, hu⟩ := hu
  simp only [txC, List.mem_cons, List.not_mem_nil, or_false] at hu
  rcases hu with rfl | rfl | rfl | rfl <;> rfl
/-- What the batch's reader answers. -/
def sliceLen : Value → Nat
  | .slice _ n _ => n
  | _ => 0
def zeroB : Value := .agg #[.int .i64 0, .int .i64 0, .slice none 0 0]
/-- What holds at each round's head. -/
def ParseRel (w3 : World) (gb g2 m : Nat) (a b : Int) (l : List TxD) (s : Value) (wr : World) : Prop :=
  ∃ (k o c' : Nat) (v : Value), k ≤ m ∧ s = .slice (some ⟨g2, o, none⟩) ((m - k) * 4) c' ∧ (m - k) * 4 ≤ c' ∧ c' ≤ 9223372036854775807 ∧ Sl w3 1 (some ⟨g2, o, none⟩) ((m - k) * 4) (strs ((l.drop k).flatMap txT)) ∧ w3.grownBy wr (some gb) ∧ Blk wr gb 26 #[.int .i64 a, .int .i64 b, v] ∧ wr.ownsRow w3.heap.size 67 4 v k (txsC (l.take k))
set_option maxRecDepth 100000 in
set_option maxHeartbeats 4000000 in
theorem batch_Parse_yes {A : Option Addr} {n c : Nat} {bs : List UInt8} {a b : Int} {l : List TxD} (w : World) (hs : Sl w 1 A n (bytes8 bs)) (hnc : n ≤ c) (hc : c ≤ 9223372036854775807) (hg : parseB bs = some (a, b, l)) :
    Calls Try.prog 23 #[.slice A n c] w fun e w' => ∃ v, e = .returned (.tuple #[.agg #[.int .i64 a, .int .i64 b, v], .int .i64 0]) ∧ w'.ownsRow w.heap.size 67 4 v l.length (txsC l) ∧ Below w.heap.size w w' := by
  obtain ⟨hB, hm⟩ := parseB_back hg
  have hall := mayB_iff.1 hm
  obtain ⟨hsize1, hsize2⟩ := batch_size hm
  have HGT : Hid (getT bs = some (batchT a b l)) := by
    rw [Hid, hB]
    exact getL_there codecT (fun s hs => by have := hsize1 s hs; omega) (by rw [putL_T]; show (batchB a b l).length ≤ _; omega)
  obtain ⟨m, HM⟩ : ∃ m, Hid (l.length = m) := ⟨_, rfl⟩
  have hm8 : m ≤ 8 := by rw [← HM.out]; exact hall.2.2.1.2
  obtain ⟨L, HLL⟩ : ∃ L, Hid ((batchT a b l).length = L) := ⟨_, rfl⟩
  have hL : L = 3 + m * 4 := by rw [← HLL.out, batchT_len, HM.out]
  have hL4 : ((L : Int) % 4 != 3) = false := by rw [bne_eq_false_iff_eq]; omega
  have hm1 : 1 ≤ m := by rw [← HM.out]; exact hall.2.2.1.1
  have hL3 : 7 ≤ L := by omega
  have hd3 : decide ((L : Int) < 3) = false := by rw [decide_eq_false_iff_not]; omega
  have hLX : L ≤ 35 := by omega
  have HLM := hide hL
  have HSZ := hide hsize1
  have HALL := hide hall
  have HMB := hide hm
  have hs2 := (hs.alloc (.cells #[.int .i64 0, .int .i64 0, .slice none 0 0] 26)).alloc (.cells #[.int .i64 0, .int .i64 0, .slice none 0 0] 26)
  have kb := Blk.new2 w (.cells #[.int .i64 0, .int .i64 0, .slice none 0 0] 26) 26 #[.int .i64 0, .int .i64 0, .slice none 0 0]
  have kr := (Blk.new w 26 #[.int .i64 0, .int .i64 0, .slice none 0 0]).alloc (.cells #[.int .i64 0, .int .i64 0, .slice none 0 0] 26)
  have hb0 : Below w.heap.size w ((w.alloc (.cells #[.int .i64 0, .int .i64 0, .slice none 0 0] 26)).alloc (.cells #[.int .i64 0, .int .i64 0, .slice none 0 0] 26)) := (below_alloc w _).alloc (by simp) _
  obtain ⟨j0, hj, hj0, hj1, hj2⟩ := info_parts Try.infoTx
  clear hs hg hB hm hall hsize1 hsize2 hL
  go_enter Try.func23, Try.ntmps23
  go_wp2_with fail
  go_step3
  go_wp2_with fail
  generalize (w.alloc (.cells #[.int .i64 0, .int .i64 0, .slice none 0 0] 26)).alloc (.cells #[.int .i64 0, .int .i64 0, .slice none 0 0] 26) = w1 at hs2 kb kr hb0 ⊢
  refine (wire_Get_yes _ hs2 hnc hc HGT.out).mono ?_
  rintro e w2 ⟨v2, rfl, hown2, hb2⟩
  rw [HLL.out] at hown2
  obtain ⟨A2, c2, rfl, hc2, hc2m⟩ := own_slice_cap hown2
  unfold maxLen at hc2m
  have hsz1 : w.heap.size + 1 < w1.heap.size := kb.lt
  obtain ⟨g2, cap2, hv2, hg2, hg2l⟩ := hown2.form (by omega)
  injection hv2 with hA2 _ hcap
  subst hA2
  have kb2 := kb.later hb2
  have kr2 := kr.later hb2
  have hbb := hb0.trans (hb2.mono (by omega))
  have hs4 := Sl.of_own hown2
  have q0 : w2.cell? ⟨g2, 0, none⟩ = some (.string ⟨#[98, 97, 116, 99, 104]⟩) := by
    have := hown2.cellAt 0 (by omega)
    rw [this]; rfl
  clear kb kr hb0 hb2 hs2 hown2
  go_wp2_with fail
  have hsA := (hs4.drop_ (k := 1) (by omega)).alloc (.cells #[.pointer (some ⟨w.heap.size + 1, 0, none⟩), .pointer (some ⟨w.heap.size + 1, 1, none⟩)] 89)
  rw [strs_drop, Nat.zero_add] at hsA
  have hp := Sl.of_blk (size := 1) (n := 2) (Blk.new w2 89 #[.pointer (some ⟨w.heap.size + 1, 0, none⟩), .pointer (some ⟨w.heap.size + 1, 1, none⟩)]) rfl
  have hw2 : w1.heap.size ≤ g2 := hg2
  have HR : Hid (wholes (((batchT a b l).drop 1).take 2) = some [a, b]) := by
    have h1 := wholeN_numS (n := a) (by have := HALL.out.1; omega) (by have := HALL.out.1; omega)
    have h2 := wholeN_numS (n := b) (by have := HALL.out.2.1; omega) (by have := HALL.out.2.1; omega)
    show wholes [numS a, numS b] = _
    rw [wholes, wholes, wholes, h1, h2]
  refine (wire_Read (os := [0, 1]) (g := w.heap.size + 1) _ hsA hp (kb2.alloc _) (by omega) (by omega) (fun b off _ e => by injection e with e; injection e; omega) (fun b off _ e => by injection e with e; injection e; omega) (by simp) (fun s hs => by have := HSZ.out s (List.mem_of_mem_drop hs); omega) HR).mono ?_
  rintro e w3 ⟨rfl, hgr3, HB3⟩
  have kb3 : Blk w3 (w.heap.size + 1) 26 #[.int .i64 a, .int .i64 b, .slice none 0 0] := HB3.out _ rfl
  have hs5 := (hs4.alloc (.cells #[.pointer (some ⟨w.heap.size + 1, 0, none⟩), .pointer (some ⟨w.heap.size + 1, 1, none⟩)] 89)).grown_ne hgr3 (fun b off _ e => by injection e with e; injection e; omega)
  have kr3 := (kr2.alloc (.cells #[.pointer (some ⟨w.heap.size + 1, 0, none⟩), .pointer (some ⟨w.heap.size + 1, 1, none⟩)] 89)).grown hgr3 (by intro e; injection e with e; omega)
  have hzz2 := hbb.size
  have hb3 : Below w.heap.size w w3 := below_of_grown (hbb.alloc (by omega) _) hgr3 (by simp; omega) (by omega)
  have hzz3 := hgr3.size
  simp at hzz3
  clear HB3 hgr3 hp hsA hbb kb2 kr2 hs4 q0 HR
  go_wp2_with fail
  have hg2b : g2 ≠ w.heap.size + 1 := by omega
  have hsR : Sl w3 1 (some ⟨g2, 3, none⟩) (L - 3) (strs (l.flatMap txT)) := by
    have := hs5.drop_ (k := 3) (by omega)
    rw [strs_drop, Nat.zero_add] at this
    exact this
  have hR0 : L - 3 = (m - 0) * 4 := by have := HLM.out; omega
  rw [hR0] at hsR ⊢
  clear hs5 hR0
  have HKR := hide kr3
  have HB3 := hide hb3
  go_loopw [5] (fun s wr => ParseRel w3 (w.heap.size + 1) g2 m a b l s wr) (fun s _ => sliceLen s)
  case atStart => exact ⟨0, 3, _, _, Nat.zero_le _, rfl, by have := HLM.out; omega, by omega, hsR, grown_refl _ _, kb3, World.ownsRow_nil _ _ _ _⟩
  case round =>
    obtain ⟨k, o, c', v, hk, rfl, hkc, hcm, hsk, hgr, hkb, hown⟩ := hrel
    obtain ⟨wo, rfl⟩ : ∃ wo : World, wo = wr := ⟨_, rfl⟩
    clear hsR kb3 kr3 hb3
    have hszo := hgr.size
    have b2 : wo.cell? ⟨w.heap.size + 1, 2, none⟩ = some v := hkb.at_ rfl
    by_cases hlt : k < m
    · obtain ⟨R, HRR⟩ : ∃ R, Hid ((m - k) * 4 = R) := ⟨_, rfl⟩
      have hR4 : 4 ≤ R := by rw [← HRR.out]; omega
      have hR32 : R ≤ 32 := by rw [← HRR.out]; omega
      rw [HRR.out] at hkc hsk ⊢
      have hRi0 : (0 : Int) < (R : Int) := by omega
      have hRi2 : (2 : Int) < (R : Int) := by omega
      have hRi3 : (3 : Int) < (R : Int) := by omega
      have HU : Hid (l[k]? = some (l[k]'(by rw [HM.out]; exact hlt))) := List.getElem?_eq_getElem _
      obtain ⟨t, ht⟩ : ∃ t, l[k]'(by rw [HM.out]; exact hlt) = t := ⟨_, rfl⟩
      rw [ht] at HU
      have HD : Hid (l.drop k = t :: l.drop (k + 1)) := drop_at HU.out
      have htx := mayTx_iff.1 (HALL.out.2.2.2 t (List.mem_of_getElem? HU.out))
      have hsk' := hsk.grown_ne hgr (fun b off _ e => by injection e with e; injection e; omega)
      clear ht
      obtain ⟨s, q, tk, tv⟩ := t
      have HFM : Hid ((l.drop k).flatMap txT = numS s :: numS q :: tk :: tv :: (l.drop (k + 1)).flatMap txT) := by rw [Hid, HD.out]; rfl
      rw [HFM.out] at hsk hsk'
      have q2 : wo.cell? ⟨g2, o + 2, none⟩ = some (.string tk) := hsk'.lit rfl (by omega)
      have q3 : wo.cell? ⟨g2, o + 3, none⟩ = some (.string tv) := hsk'.lit rfl (by omega)
      go_wp2_with fail
      go_region_held3 (fun w' => w'.cell? ⟨g2, o + 2, none⟩ = some (.string tk) ∧ w'.cell? ⟨g2, o + 3, none⟩ = some (.string tv)) (go_keep) (fail)
      all_goals go_wp2_with fail
      have sx := (hsk'.alloc (.cells #[.int .i64 0, .int .i64 0, .string tk, .string tv] 67)).alloc (.cells #[.pointer (some ⟨wo.heap.size, 0, none⟩), .pointer (some ⟨wo.heap.size, 1, none⟩)] 89) |>.drew
      have px := (Sl.of_blk (size := 1) (n := 2) (Blk.new2 wo (.cells #[.int .i64 0, .int .i64 0, .string tk, .string tv] 67) 89 #[.pointer (some ⟨wo.heap.size, 0, none⟩), .pointer (some ⟨wo.heap.size, 1, none⟩)]) rfl).drew
      have tx := ((Blk.new wo 67 #[.int .i64 0, .int .i64 0, .string tk, .string tv]).alloc (.cells #[.pointer (some ⟨wo.heap.size, 0, none⟩), .pointer (some ⟨wo.heap.size, 1, none⟩)] 89)).drew
      have kbx := ((hkb.alloc (.cells #[.int .i64 0, .int .i64 0, .string tk, .string tv] 67)).alloc (.cells #[.pointer (some ⟨wo.heap.size, 0, none⟩), .pointer (some ⟨wo.heap.size, 1, none⟩)] 89)).drew
      have ownx := ((hown.alloc (.cells #[.int .i64 0, .int .i64 0, .string tk, .string tv] 67)).alloc (.cells #[.pointer (some ⟨wo.heap.size, 0, none⟩), .pointer (some ⟨wo.heap.size, 1, none⟩)] 89)).drew
      have grx := grown_drew (grown_alloc (grown_alloc hgr (.cells #[.int .i64 0, .int .i64 0, .string tk, .string tv] 67)) (.cells #[.pointer (some ⟨wo.heap.size, 0, none⟩), .pointer (some ⟨wo.heap.size, 1, none⟩)] 89))
      have hgt : ∀ g, v.ownBlock = some g → g < wo.heap.size := fun g h => (hown.lt g h).2
      have hgbo : w.heap.size + 1 < wo.heap.size := hkb.lt
      generalize ((wo.alloc (.cells #[.int .i64 0, .int .i64 0, .string tk, .string tv] 67)).alloc (.cells #[.pointer (some ⟨wo.heap.size, 0, none⟩), .pointer (some ⟨wo.heap.size, 1, none⟩)] 89)).drew = wx at sx px tx kbx ownx grx ⊢
      have HR : Hid (wholes ((numS s :: numS q :: tk :: tv :: (l.drop (k + 1)).flatMap txT).take 2) = some [s, q]) := by
        have h1 := wholeN_numS (n := s) (by have := htx.1; omega) (by have := htx.1; omega)
        have h2 := wholeN_numS (n := q) (by have := htx.2.1; omega) (by have := htx.2.1; omega)
        show wholes [numS s, numS q] = _
        rw [wholes, wholes, wholes, h1, h2]
      have HSM : Hid (∀ x ∈ (numS s :: numS q :: tk :: tv :: (l.drop (k + 1)).flatMap txT), x.size ≤ 9223372036854775807) := by
        intro x hx
        have h1 : x ∈ batchT a b l := by
          rw [← HFM.out] at hx
          simp only [batchT, List.mem_cons]
          refine Or.inr (Or.inr (Or.inr ?_))
          obtain ⟨y, hy, hx⟩ := List.mem_flatMap.1 hx
          exact List.mem_flatMap.2 ⟨y, List.mem_of_mem_drop hy, hx⟩
        have := HSZ.out x h1
        omega
      refine (wire_Read (os := [0, 1]) (g := wo.heap.size) _ sx px tx (by omega) (by omega) (fun b off _ e => by injection e with e; injection e; omega) (fun b off _ e => by injection e with e; injection e; omega) (by simp) HSM.out HR).mono ?_
      rintro e w6 ⟨rfl, hgr6, HB6⟩
      have tb6 : Blk w6 wo.heap.size 67 #[.int .i64 s, .int .i64 q, .string tk, .string tv] := HB6.out _ rfl
      have own6 := ownx.kept hgr6 (Or.inr (fun e => by have := hgt _ e; omega))
      have kb6 := kbx.grown hgr6 (by intro e; injection e with e; omega)
      have gr6 := grown_new grx hgr6 hszo
      have hz6 := gr6.size
      obtain ⟨Av, cv, rfl⟩ := own_slice own6
      have b26 : w6.cell? ⟨w.heap.size + 1, 2, none⟩ = some (.slice Av k cv) := kb6.at_ rfl
      have t0 : w6.cell? ⟨wo.heap.size, 0, none⟩ = some (.int .i64 s) := tb6.at_ rfl
      have t1 : w6.cell? ⟨wo.heap.size, 1, none⟩ = some (.int .i64 q) := tb6.at_ rfl
      have t2 : w6.cell? ⟨wo.heap.size, 2, none⟩ = some (.string tk) := tb6.at_ rfl
      have t3 : w6.cell? ⟨wo.heap.size, 3, none⟩ = some (.string tv) := tb6.at_ rfl
      clear HB6 hgr6 sx px tx kbx ownx grx hown hkb hgr hsk' q2 q3 b2 tb6
      go_wp2_with (at_builtin; refine wpList_append_any _ rfl _ _ 24 rfl w3.heap.size 67 j0 _ 4 48 Try.underlying24 hj hj0 hj1 hj2 rfl (by decide) _ _ _ rfl (own6.alloc _) _ 1 1 (txsC [⟨s, q, tk, tv⟩]) rfl (Sl.of_blk (size := 4) (n := 1) (Blk.new w6 67 #[.int .i64 s, .int .i64 q, .string tk, .string tv]) rfl) (txsC_one _) (by unfold maxLen; omega) (by omega) (by simp; omega) ?_)
      intro v8 w8 hown8 hg8
      obtain ⟨A8, c8, rfl⟩ := own_slice hown8
      have gr8 := grown_row (grown_alloc gr6 _) hg8 (fun g h => (own6.lt g h).1)
      have kb8 := (kb6.alloc _).grown hg8 (Ne.symm (own_blk_ne own6 kb6 (by decide)))
      have f8 := kb8.frozen 2
      have b28 : w8.cell? ⟨w.heap.size + 1, 2, none⟩ = some (.slice Av k cv) := kb8.at_ rfl
      have own9 : w8.ownsRow w3.heap.size 67 4 (.slice A8 (k + 1) c8) (k + 1) (txsC (l.take (k + 1))) := by
        rw [take_at HU.out, txsC_append]; exact hown8
      have OWN := hide (own9.kept (grown_set w8 (w.heap.size + 1) 2 (.slice A8 (k + 1) c8)) (Or.inr (own_blk_ne own9 kb8 (by decide))))
      have KB := hide (kb8.set_ 2 (.slice A8 (k + 1) c8))
      have GR := hide (grown_trans gr8 (grown_set w8 (w.heap.size + 1) 2 (.slice A8 (k + 1) c8)))
      have HR4 : Hid (R - 4 = (m - (k + 1)) * 4) := by have := HRR.out; rw [Hid]; omega
      have HSA : Hid (c' = 4 → Sl w3 1 (some ⟨g2, o, none⟩) (R - 4) (strs ((l.drop (k + 1)).flatMap txT))) := fun e => by
        have h1 := hsk.drop_ (k := 4) hR4
        rw [strs_drop] at h1
        have h2 : R - 4 = 0 := by omega
        refine ⟨h1.1, fun h => by omega⟩
      have HSB : Hid (Sl w3 1 (some ⟨g2, o + 4, none⟩) (R - 4) (strs ((l.drop (k + 1)).flatMap txT))) := by
        have h1 := hsk.drop_ (k := 4) hR4
        rw [strs_drop] at h1
        exact h1
      clear hown8 hg8 gr8 kb8 own9 own6 kb6 gr6 b26 t0 t1 t2 t3 hsk
      go_wp2_with fail
      all_goals
        go_roundw
        case rel =>
          have h4 := HR4.out
          first
            | exact ⟨k + 1, o, 0, _, by omega, by rw [h4], by omega, by omega, by rw [← h4]; exact HSA.out (by assumption), GR.out, KB.out, OWN.out⟩
            | exact ⟨k + 1, o + 4, c' - 4, _, by omega, by rw [h4], by omega, by omega, by rw [← h4]; exact HSB.out, GR.out, KB.out, OWN.out⟩
        case measure => simp [sliceLen]; omega
    · obtain rfl : k = m := by omega
      rw [List.take_of_length_le (by rw [HM.out]; exact Nat.le_refl _)] at hown
      obtain ⟨Av, cv, rfl⟩ := own_slice hown
      have b0 : wo.cell? ⟨w.heap.size + 1, 0, none⟩ = some (.int .i64 a) := hkb.at_ rfl
      have b1 : wo.cell? ⟨w.heap.size + 1, 1, none⟩ = some (.int .i64 b) := hkb.at_ rfl
      have krw := HKR.out.grown hgr (by intro e; injection e with e; omega)
      have hbw : Below w.heap.size w wo := below_of_grown HB3.out hgr (by omega) (by omega)
      have HTZ : TxZ l := fun t ht => by have := mayTx_iff.1 (HALL.out.2.2.2 t ht); omega
      clear hsk hgr hkb
      go_wp2_with fail
      refine (batch_May (c := cv) a b _ (Sl.of_own hown) (by omega) HTZ HMB).mono ?_
      rintro e w6 ⟨rfl, hb6⟩
      have own6 := own_later hown hb6
      have b06 := cell_later hb6 b0
      have b16 := cell_later hb6 b1
      have b26 := cell_later hb6 b2
      have kr6 := krw.later hb6
      have hb7 := hbw.trans (hb6.mono (by omega))
      have r0 : w6.cell? ⟨w.heap.size, 0, none⟩ = some (.int .i64 0) := kr6.at_ rfl
      have r1 : w6.cell? ⟨w.heap.size, 1, none⟩ = some (.int .i64 0) := kr6.at_ rfl
      have r2 : w6.cell? ⟨w.heap.size, 2, none⟩ = some (.slice none 0 0) := kr6.at_ rfl
      have f0 := kr6.frozen 0
      have f1 := kr6.frozen 1
      have f2 := kr6.frozen 2
      clear hown hb6 b0 b1 b2 krw hbw
      go_wp2_with fail
      rw [Exit.noGoto_ret]
      have KRF : Blk (((w6.setCell ⟨w.heap.size, 0, none⟩ (.int .i64 a)).setCell ⟨w.heap.size, 1, none⟩ (.int .i64 b)).setCell ⟨w.heap.size, 2, none⟩ (.slice Av k cv)) w.heap.size 26 #[.int .i64 a, .int .i64 b, .slice Av k cv] := ((kr6.set_ 0 _).set_ 1 _).set_ 2 _
      have hne := own_blk_ne own6 kr6 (by decide)
      have OWF := ((own6.kept (grown_set w6 w.heap.size 0 (.int .i64 a)) (Or.inr hne)).kept (grown_set _ w.heap.size 1 (.int .i64 b)) (Or.inr hne)).kept (grown_set _ w.heap.size 2 (.slice Av k cv)) (Or.inr hne)
      have HBF := ((hb7.setCell (p := ⟨w.heap.size, 0, none⟩) (Nat.le_refl _) (.int .i64 a)).setCell (p := ⟨w.heap.size, 1, none⟩) (Nat.le_refl _) (.int .i64 b)).setCell (p := ⟨w.heap.size, 2, none⟩) (Nat.le_refl _) (.slice Av k cv)
      clear own6 kr6 hb7 r0 r1 r2 f0 f1 f2 b06 b16 b26 hne
      generalize ((w6.setCell ⟨w.heap.size, 0, none⟩ (.int .i64 a)).setCell ⟨w.heap.size, 1, none⟩ (.int .i64 b)).setCell ⟨w.heap.size, 2, none⟩ (.slice Av k cv) = wf at KRF OWF HBF ⊢
      have r0 : wf.cell? ⟨w.heap.size, 0, none⟩ = some (.int .i64 a) := KRF.at_ rfl
      have r1 : wf.cell? ⟨w.heap.size, 1, none⟩ = some (.int .i64 b) := KRF.at_ rfl
      have r2 : wf.cell? ⟨w.heap.size, 2, none⟩ = some (.slice Av k cv) := KRF.at_ rfl
      refine bodyPost_ret (v := .tuple #[.agg #[.int .i64 a, .int .i64 b, .slice Av k cv], .int .i64 0]) (by simp [results, Try.results23, go_sem, r0, r1, r2]) rfl ⟨_, rfl, ?_, HBF⟩
      rw [HM.out]
      exact own_mono OWF (by omega)
end Go.Proofs.Ytihpmaifcebpiaa
/-
  Two transactions compared by Go's own words.
-/
namespace Go.Proofs.Ytihpmaifcebpiaa
open Go.RowKit
theorem toList_iff {a b : ByteArray} : a.toList = b.toList ↔ a = b := ⟨toList_inj', fun h => by rw [h]⟩
theorem tx_fields : Try.prog.underlying 67 = some (.struct (Try.prog.fieldsOf 67)) := by kernel_rfl
theorem tx_guard : Try.prog.eqGuardType Try.prog.depth 67 = false := by kernel_rfl
theorem tx_held : Try.prog.stoodInHeld 67 = false := by kernel_rfl
theorem run_eq_tx (s1 q1 s2 q2 : Int) (k1 v1 k2 v2 : ByteArray) (w : World) : (Op.equalIn 10000 67 (.agg #[.int .i64 s1, .int .i64 q1, .string k1, .string v1]) (.agg #[.int .i64 s2, .int .i64 q2, .string k2, .string v2])).run Try.prog w =
    .ok (decide ((⟨s1, q1, k1, v1⟩ : TxD) = ⟨s2, q2, k2, v2⟩)) w := by
  rw [run_equalIn_agg w 9999 67 _ _ tx_fields tx_held]
  simp [go_sem, Try.underlying67]
  simp only [toList_iff]
  by_cases h1 : s1 = s2 <;> by_cases h2 : q1 = q2 <;> by_cases h3 : k1 = k2 <;> by_cases h4 : v1 = v2 <;> simp [h1, h2, h3, h4]
theorem run_neq_tx (s1 q1 s2 q2 : Int) (k1 v1 k2 v2 : ByteArray) (w : World) {r : Bool} (hr : decide ((⟨s1, q1, k1, v1⟩ : TxD) = ⟨s2, q2, k2, v2⟩) = r) :
    (binOp .neq 67 (.agg #[.int .i64 s1, .int .i64 q1, .string k1, .string v1]) (.agg #[.int .i64 s2, .int .i64 q2, .string k2, .string v2])).run Try.prog w = .ok (.bool (!r)) w := by
  rw [run_neq_struct, run_eq_tx, hr]; rfl
theorem run_guard_tx (op : BinOp) (x y : Operand) (xs ys : Array Value) (w : World) : (eqGuard op 67 x y (.agg xs) (.agg ys)).run Try.prog w = .ok () w := run_eqGuard_agg w op _ x y xs ys tx_guard
end Go.Proofs.Ytihpmaifcebpiaa
