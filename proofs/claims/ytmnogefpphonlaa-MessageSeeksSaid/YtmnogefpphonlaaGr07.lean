/-
  Texts joined: words and contracts that later texts use; lemmas alone, no conditions of a statement.
-/
import Derived.Test.YtmnogefpphonlaaGr06
import Derived.Test.YtmnogefpphonlaaGr00
import Derived.Laws.Rows
import Derived.Laws.CopyRow
set_option linter.unusedVariables false
set_option linter.unusedSimpArgs false
/-
  Contracts: which batches may be, and what is told of it: the program's and the reference's.
-/
namespace Go.Proofs.Ytmnogefpphonlaa
open Go.RowKit

/-- A transaction's texts are no longer than can be. -/
def TxZ (l : List TxD) : Prop := ∀ t ∈ l, t.k.size ≤ 9223372036854775807 ∧ t.v.size ≤ 9223372036854775807
def batchV (a n : Int) (A : Option Addr) (m c : Nat) : Value := .agg #[.int .i64 a, .int .i64 n, .slice A m c]
set_option maxRecDepth 100000 in
set_option maxHeartbeats 2000000 in
theorem batch_May {A : Option Addr} {m c : Nat} {l : List TxD} (a n : Int) (w : World) (hs : Sl w 4 A m (txsC l)) (hn : m ≤ 9223372036854775807) (hz : TxZ l) {r : Bool} (hr : Hid (mayB a n l = r)) :
    Calls Try.prog 53 #[batchV a n A m c] w fun e w' => e = .returned (.bool r) ∧ Below w.heap.size w w' := by
  have HL := hide hs.txlen
  obtain ⟨x, HX⟩ : ∃ x, Hid (l.all mayTx = x) := ⟨_, rfl⟩
  have hb0 := below_alloc w (.cells #[.int .i64 a, .int .i64 n, .slice A m c] 25)
  have HC := hide (slices_ContainsFunc (c := c) _ (hs.below hb0) hn hz HX.out)
  have HB := hide hb0
  have HALL : Hid (r = true ↔ (1 ≤ a ∧ a ≤ 16) ∧ (1 ≤ n ∧ n ≤ 1099511627776) ∧ (1 ≤ m ∧ m ≤ 8) ∧ x = true) := by
    rw [Hid, ← hr.out, ← HX.out, ← HL.out, mayB_iff, List.all_eq_true]
  clear hb0 hz hs
  unfold batchV
  go_enter Try.func53, Try.ntmps53
  go_wp2_with (first | (go_at_call 77; refine HC.out.mono ?_; rintro e w1 ⟨rfl, hb1⟩; have HB1 := hide (HB.out.trans (hb1.mono HB.out.size)); clear hb1))
  all_goals
    go_ret
    refine ⟨ret_bool ?_, by first | exact HB1.out | exact HB.out⟩
    rw [Bool.eq_iff_iff, HALL.out]
    first
      | (simp; done)
      | (simp; omega)
      | omega
      | (constructor; (· intro h; exact ⟨⟨by omega, by omega⟩, ⟨by omega, by omega⟩, ⟨by omega, by omega⟩, by simpa using h⟩); (· rintro ⟨_, _, _, h⟩; simpa using h))

/-! The reference. -/
set_option maxHeartbeats 400000 in
theorem ref4_id (n : Int) (w : World) : Calls Try.prog 66 #[.int .i64 n] w fun e w' => e = .returned (.bool (idOk n)) ∧ w = w' := by
  obtain ⟨r, HR⟩ : ∃ r, Hid (idOk n = r) := ⟨_, rfl⟩
  rw [HR.out]
  go_enter Try.func66, Try.ntmps66
  go_wp2_with fail
  all_goals
    go_ret
    refine ⟨ret_bool ?_, rfl⟩
    rw [← HR.out, Bool.eq_iff_iff, idOk_iff]
    simp
    try omega
set_option maxRecDepth 100000 in
set_option maxHeartbeats 1000000 in
theorem ref4_Tx (t : TxD) (w : World) (hk : t.k.size ≤ 9223372036854775807) (hv : t.v.size ≤ 9223372036854775807) {r : Bool} (hr : Hid (mayTx t = r)) :
    Calls Try.prog 86 #[txV t] w fun e w' => e = .returned (.bool r) ∧ Below w.heap.size w w' := by
  have HB := hide (below_alloc w (.cells #[.int .i64 t.s, .int .i64 t.q, .string t.k, .string t.v] 87))
  obtain ⟨s, q, k, v⟩ := t
  obtain ⟨x, HX⟩ : ∃ x, Hid (idOk s = x) := ⟨_, rfl⟩
  obtain ⟨y, HY⟩ : ∃ y, Hid (idOk q = y) := ⟨_, rfl⟩
  have HALL : Hid (r = true ↔ x = true ∧ y = true ∧ (1 ≤ k.size ∧ k.size ≤ 16) ∧ v.size ≤ 32) := by
    rw [Hid, ← hr.out, ← HX.out, ← HY.out]; simp [mayTx]
  unfold txV
  simp only at HB hk hv ⊢
  clear hr
  go_enter Try.func86, Try.ntmps86
  go_wp2_with (first
    | (go_at_call 66; refine (ref4_id s _).mono ?_; rintro e w1 ⟨rfl, rfl⟩; rw [HX.out])
    | (go_at_call 66; refine (ref4_id q _).mono ?_; rintro e w1 ⟨rfl, rfl⟩; rw [HY.out]))
  all_goals
    go_ret
    refine ⟨ret_bool ?_, HB.out⟩
    rw [Bool.eq_iff_iff, HALL.out]
    simp [*]
    try omega
set_option maxRecDepth 100000 in
set_option maxHeartbeats 1000000 in
theorem ref4_Txs {A : Option Addr} {n c : Nat} {l : List TxD} (w : World) (hs : Sl w 4 A n (txsC l)) (hn : n ≤ 9223372036854775807) (hz : TxZ l) {r : Bool} (hr : Hid (l.all mayTx = r)) :
    Calls Try.prog 67 #[.slice A n c] w fun e w' => e = .returned (.bool r) ∧ Below w.heap.size w w' := by
  have HL := hide hs.txlen
  have HZ := hide hz
  clear hz
  go_enter Try.func67, Try.ntmps67
  go_wp2_with fail
  go_loopw [3] (fun i wr => ∃ k : Nat, k ≤ n ∧ i = .int .i64 k ∧ Hid (∀ t ∈ l.take k, mayTx t = true) ∧ Below w.heap.size w wr) (fun i _ => n - (intOf i).toNat)
  case atStart => exact ⟨0, Nat.zero_le _, rfl, by simp [Hid], Below.refl _ _⟩
  case round =>
    obtain ⟨k, hk, rfl, HT, hb⟩ := hrel
    obtain ⟨wo, rfl⟩ : ∃ wo : World, wo = wr := ⟨_, rfl⟩
    by_cases hlt : k < n
    · obtain ⟨b, off, t, rfl, HU, q0, q1, q2, q3, _⟩ := (hs.below hb).tx hlt
      obtain ⟨z1, z2⟩ := HZ.out t (List.mem_of_getElem? HU.out)
      have hcall := fun r (h : Hid (mayTx t = r)) => ref4_Tx t wo z1 z2 h
      clear hs z1 z2
      obtain ⟨s, q, kk, v⟩ := t
      unfold txV at hcall
      simp only at q0 q1 q2 q3 hcall
      cases hx : mayTx ⟨s, q, kk, v⟩ with
      | true =>
        have HC := hide (hcall true hx)
        have HT2 : Hid (∀ t ∈ l.take (k + 1), mayTx t = true) := by
          intro t ht
          rw [take_at HU.out, List.mem_append] at ht
          rcases ht with ht | ht
          · exact HT.out t ht
          · simp at ht; rw [ht]; exact hx
        clear hcall hx
        go_wp2_with fail
        refine HC.out.mono ?_
        rintro e w1 ⟨rfl, hb1⟩
        have hb2 := below_then hb hb1
        clear HC hb1 q0 q1 q2 q3
        go_wp2_with fail
        go_roundw
        case rel => exact ⟨k + 1, by omega, by go_num, HT2, hb2⟩
        case measure => simp [intOf]; omega
      | false =>
        have HC := hide (hcall false hx)
        have HA : Hid (r = false) := by
          rw [Hid, ← hr.out, List.all_eq_false]
          exact ⟨_, List.mem_of_getElem? HU.out, by simp [hx]⟩
        clear hcall hx
        go_wp2_with fail
        refine HC.out.mono ?_
        rintro e w1 ⟨rfl, hb1⟩
        have hb2 := below_then hb hb1
        clear HC hb1 q0 q1 q2 q3
        go_wp2_with fail
        go_ret
        exact ⟨ret_bool HA.out.symm, hb2⟩
    · obtain rfl : k = n := by omega
      have HA : Hid (r = true) := by
        rw [Hid, ← hr.out, List.all_eq_true]
        have := HT.out
        rw [List.take_of_length_le (by rw [HL.out]; exact Nat.le_refl _)] at this
        exact this
      go_wp2_with fail
      go_ret
      exact ⟨ret_bool HA.out.symm, hb⟩
set_option maxRecDepth 100000 in
set_option maxHeartbeats 2000000 in
theorem ref4_Batch {A : Option Addr} {m c : Nat} {l : List TxD} (a n : Int) (w : World) (hs : Sl w 4 A m (txsC l)) (hn : m ≤ 9223372036854775807) (hz : TxZ l) {r : Bool} (hr : Hid (mayB a n l = r)) :
    Calls Try.prog 41 #[batchV a n A m c] w fun e w' => e = .returned (.bool r) ∧ Below w.heap.size w w' := by
  have HL := hide hs.txlen
  obtain ⟨x, HX⟩ : ∃ x, Hid (l.all mayTx = x) := ⟨_, rfl⟩
  obtain ⟨y, HY⟩ : ∃ y, Hid (idOk n = y) := ⟨_, rfl⟩
  have hb0 := below_alloc w (.cells #[.int .i64 a, .int .i64 n, .slice A m c] 25)
  have HC := hide (ref4_Txs (c := c) _ (hs.below hb0) hn hz HX)
  have HB := hide hb0
  have HALL : Hid (r = true ↔ (1 ≤ a ∧ a ≤ 16) ∧ y = true ∧ (1 ≤ m ∧ m ≤ 8) ∧ x = true) := by
    rw [Hid, ← hr.out, ← HX.out, ← HL.out, ← HY.out, mayB_iff, List.all_eq_true, idOk_iff]
  clear hb0 hz hs hr
  unfold batchV
  go_enter Try.func41, Try.ntmps41
  go_wp2_with (first | (go_at_call 66; refine (ref4_id n _).mono ?_; rintro e w1 ⟨rfl, rfl⟩; rw [HY.out]) | (go_at_call 67; refine HC.out.mono ?_; rintro e w1 ⟨rfl, hb1⟩; have HB1 := hide (HB.out.trans (hb1.mono HB.out.size)); clear hb1))
  all_goals
    go_ret
    refine ⟨ret_bool ?_, by first | exact HB1.out | exact HB.out⟩
    rw [Bool.eq_iff_iff, HALL.out]
    first
      | (simp [*]; done)
      | (simp [*]; omega)
      | omega
end Go.Proofs.Ytmnogefpphonlaa
/-
  A whole record stored into a block of its own, and loaded: no cell by cell. Over any program.
-/
namespace Go.Proofs.Ytmnogefpphonlaa
open Go.RowKit

section
variable {P : Program}
theorem grown_setRow (w : World) (g : Nat) (cs : Array Value) : w.grownBy (w.setRow g cs) (some g) :=
  ⟨rfl, rfl, rfl, by simp, fun k _ hk => setRow_other w g k cs (by intro e; exact hk (by rw [e]))⟩
theorem run_storeVar_row (w : World) (g : Nat) (t ty : TypeId) (cs : Array Value) (v : Value) (hg : Blk w g t cs) (hz : (P.info? ty).map (·.size) = some v.cells.size) (hs : cs.size = v.cells.size) (h1 : ∀ u ∈ v.cells.toList, u.oneCell' = true) :
    (storeVar ty ⟨g, 0, none⟩ v).run P w = .ok () (w.setRow g v.cells) := by
  have hst := run_storeCells_at P g 0 t v.cells.toList 0 cs w hg (by simp; omega) h1
  have e : (cs.toList.take (0 + 0) ++ v.cells.toList ++ cs.toList.drop (0 + 0 + v.cells.toList.length)).toArray = v.cells := by
    rw [List.drop_eq_nil_of_le (by simp; omega)]; simp
  rw [e] at hst
  cases hq : P.info? ty with
  | none => simp [hq] at hz
  | some i =>
    have hi : i.size = v.cells.size := by simpa [hq] using hz
    simp [storeVar, Sem.run_bind, sizeOf, typeInfo, hq, hi, hst]
theorem wp_store_row {o : Oper} {a : Act} {w : World} {K : Act → World → Prop} {Q : Exit → Act → World → Prop} (ty : TypeId) (x y : Operand) (ho : o.op = .store ty x y)
    (g : Nat) (hx : a.eval x = .pointer (some ⟨g, 0, none⟩)) (t : TypeId) (cs : Array Value) (v : Value) (hy : a.eval y = v) (hg : Blk w g t cs) (hz : (P.info? ty).map (·.size) = some v.cells.size) (hs : cs.size = v.cells.size) (h1 : ∀ u ∈ v.cells.toList, u.oneCell' = true)
    (h : ∀ w', Blk w' g t v.cells → w.grownBy w' (some g) → K (a.put o.dst (.tuple #[])) w') : o.wp P a w K Q := by
  have hr := run_storeVar_row w g t ty cs v hg hz hs h1
  have hk : Blk (w.setRow g v.cells) g t v.cells := setRow_heap w g cs v.cells t (0, 0) hg
  unfold Oper.wp execOp
  simp only [ho, hx, hy, Instr.storeAt, Instr.sureAddr, Sem.run_bind, Sem.run_pure, Result.andThen_ok, hr]
  exact h _ hk (grown_setRow w g _)
theorem wpList_store_row {ops : Array Oper} {rest : List Oper} {o : Oper} {a : Act} {w : World} {Q : Exit → Act → World → Prop} (hgd : o.guard = none) (ty : TypeId) (x y : Operand) (ho : o.op = .store ty x y)
    (g : Nat) (hx : a.eval x = .pointer (some ⟨g, 0, none⟩)) (t : TypeId) (cs : Array Value) (v : Value) (hy : a.eval y = v) (hg : Blk w g t cs) (hz : (P.info? ty).map (·.size) = some v.cells.size) (hs : cs.size = v.cells.size) (h1 : ∀ u ∈ v.cells.toList, u.oneCell' = true)
    (h : ∀ w', Blk w' g t v.cells → w.grownBy w' (some g) → wpList P ops Q rest (a.put o.dst (.tuple #[])) w') : wpList P ops Q (o :: rest) a w :=
  wpList_plain hgd fun _ hK => wp_store_row ty x y ho g hx t cs v hy hg hz hs h1 fun w' h2 h3 => hK _ _ (h w' h2 h3)
theorem wpList_load_blk {ops : Array Oper} {rest : List Oper} {o : Oper} {a : Act} {w : World} {Q : Exit → Act → World → Prop} (hgd : o.guard = none) (ty : TypeId) (x : Operand) (ho : o.op = .load ty x)
    (g : Nat) (hx : a.eval x = .pointer (some ⟨g, 0, none⟩)) (t : TypeId) (cs : Array Value) (d : TypeDesc) (hg : Blk w g t cs)
    (hu : P.underlying ty = some d) (hd : (match d with | .struct _ | .array _ _ => true | _ => false) = true) (hi : (P.info? ty).map (·.size) = some cs.size)
    (h : wpList P ops Q rest (a.put o.dst (.agg cs)) w) : wpList P ops Q (o :: rest) a w :=
  wpList_load_row hgd ty x ho g hx t cs (0, 0) d hg hu hd hi h
end
end Go.Proofs.Ytmnogefpphonlaa
