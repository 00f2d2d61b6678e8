/-
  Texts joined: words and contracts that later texts use; lemmas alone, no conditions of a statement.
-/
import Derived.Test.YtebaojcfmkobjaaGr02
import Derived.Test.YtebaojcfmkobjaaGr03
set_option linter.unusedVariables false
set_option linter.unusedSimpArgs false
/-
  Contracts: which transactions and batches may be: the program's and the reference's.
-/
namespace Go.Proofs.Ytebaojcfmkobjaa
open Go.RowKit

theorem str_empty {s : ByteArray} (h : s.size = 0) : s.toList = [] := by
  rw [ByteArray.toList_eq]
  exact List.eq_nil_of_length_eq_zero (by rw [bytes_len]; exact h)
theorem str_some {s : ByteArray} (h : s.size ≠ 0) : s.toList.isEmpty = false := by
  rw [ByteArray.toList_eq, List.isEmpty_eq_false_iff]
  intro e
  have := congrArg List.length e
  rw [bytes_len] at this
  exact h this
theorem below_alloc (w : World) (o : Obj) : Below w.heap.size w (w.alloc o) := (Below.refl _ _).alloc (Nat.le_refl _) o
set_option maxRecDepth 100000 in
set_option maxHeartbeats 1000000 in
theorem batch_MayTx (t : TxD) (w : World) (hk : t.k.size ≤ 9223372036854775807) (hv : t.v.size ≤ 9223372036854775807) :
    Calls Try.prog 100 #[txV t] w fun e w' => e = .returned (.bool (mayTx t)) ∧ Below w.heap.size w w' := by
  obtain ⟨s, q, k, v⟩ := t
  have HB := hide (below_alloc w (.cells #[.int .i64 s, .int .i64 q, .string k, .string v] 101))
  simp only at hk hv
  unfold txV
  obtain ⟨b, HV⟩ : ∃ b, Hid (mayTx ⟨s, q, k, v⟩ = b) := ⟨_, rfl⟩
  rw [HV.out]
  by_cases h0 : k.size = 0
  · have e0 := str_empty h0
    have H0 := hide h0
    clear h0
    go_enter Try.func100, Try.ntmps100
    go_wp2_with fail
    all_goals
      go_ret
      refine ⟨ret_bool ?_, HB.out⟩
      have h1 := H0.out
      rw [← HV.out, Bool.eq_iff_iff, mayTx_iff]
      simp
      try omega
  · have e0 := str_some h0
    go_enter Try.func100, Try.ntmps100
    go_wp2_with fail
    all_goals
      go_ret
      refine ⟨ret_bool ?_, HB.out⟩
      rw [← HV.out, Bool.eq_iff_iff, mayTx_iff]
      simp
      try omega
set_option maxRecDepth 100000 in
set_option maxHeartbeats 1000000 in
theorem batch_May1 (t : TxD) (w : World) (hk : t.k.size ≤ 9223372036854775807) (hv : t.v.size ≤ 9223372036854775807) {r : Bool} (hr : mayTx t = r) :
    Calls Try.prog 99 #[txV t] w fun e w' => e = .returned (.bool (!r)) ∧ Below w.heap.size w w' := by
  have hc := batch_MayTx t (w.alloc (.cells #[.int .i64 t.s, .int .i64 t.q, .string t.k, .string t.v] 101)) hk hv
  have HB := hide (below_alloc w (.cells #[.int .i64 t.s, .int .i64 t.q, .string t.k, .string t.v] 101))
  rw [hr] at hc
  have HC := hide hc
  obtain ⟨s, q, k, v⟩ := t
  unfold txV at HC ⊢
  simp only at HC HB ⊢
  clear hc hr hk hv
  go_enter Try.func99, Try.ntmps99
  go_wp2_with fail
  refine HC.out.mono ?_
  rintro e w1 ⟨rfl, hb1⟩
  have HB1 := hide (HB.out.trans (hb1.mono HB.out.size))
  clear hb1 HC
  go_wp2_with fail
  go_ret
  exact ⟨rfl, HB1.out⟩

set_option maxRecDepth 100000 in
set_option maxHeartbeats 1000000 in
theorem slices_IndexFunc {A : Option Addr} {n c : Nat} {l : List TxD} (w : World) (hs : Sl w 4 A n (txsC l)) (hn : n ≤ 9223372036854775807) (hz : ∀ t ∈ l, t.k.size ≤ 9223372036854775807 ∧ t.v.size ≤ 9223372036854775807) :
    Calls Try.prog 106 #[.slice A n c, .func (.func 99) #[] #[]] w fun e w' => (∃ r : Int, e = .returned (.int .i64 r) ∧ Hid (0 ≤ r ↔ l.all mayTx = false)) ∧ Below w.heap.size w w' := by
  have HL := hide hs.txlen
  have HZ := hide hz
  clear hz
  go_enter Try.func106, Try.ntmps106
  go_wp2_with fail
  go_loopw [8] (fun i wr => ∃ k : Nat, k ≤ n ∧ i = .int .i64 k ∧ Hid (∀ t ∈ l.take k, mayTx t = true) ∧ Below w.heap.size w wr) (fun i _ => n - (intOf i).toNat)
  case atStart => exact ⟨0, Nat.zero_le _, rfl, by simp [Hid], Below.refl _ _⟩
  case round =>
    obtain ⟨k, hk, rfl, HT, hb⟩ := hrel
    obtain ⟨wo, rfl⟩ : ∃ wo : World, wo = wr := ⟨_, rfl⟩
    by_cases hlt : k < n
    · obtain ⟨b, off, t, rfl, HU, q0, q1, q2, q3, _⟩ := (hs.below hb).tx hlt
      obtain ⟨z1, z2⟩ := HZ.out t (List.mem_of_getElem? HU.out)
      have hcall := fun r (h : mayTx t = r) => batch_May1 t wo z1 z2 h
      clear hs z1 z2
      obtain ⟨s, q, kk, v⟩ := t
      unfold txV at hcall
      simp only at q0 q1 q2 q3 hcall
      cases hr : mayTx ⟨s, q, kk, v⟩ with
      | true =>
        have HC := hide (hcall true hr)
        have HT2 : Hid (∀ t ∈ l.take (k + 1), mayTx t = true) := by
          intro t ht
          rw [take_at HU.out, List.mem_append] at ht
          rcases ht with ht | ht
          · exact HT.out t ht
          · simp at ht; rw [ht]; exact hr
        clear hcall hr
        go_wp2_with fail
        refine HC.out.mono ?_
        rintro e w1 ⟨rfl, hb1⟩
        have hb2 := below_then hb hb1
        clear HC hb1 q0 q1 q2 q3
        go_wp2_with fail
        go_roundw
        case rel => exact ⟨k + 1, by omega, by go_num, HT2, hb2⟩
        case measure => simp [intOf]; omega
      | false =>
        have HC := hide (hcall false hr)
        have HA : Hid (l.all mayTx = false) := by
          rw [Hid, List.all_eq_false]
          exact ⟨_, List.mem_of_getElem? HU.out, by simp [hr]⟩
        clear hcall hr
        go_wp2_with fail
        refine HC.out.mono ?_
        rintro e w1 ⟨rfl, hb1⟩
        have hb2 := below_then hb hb1
        clear HC hb1 q0 q1 q2 q3
        go_wp2_with fail
        go_ret
        exact ⟨⟨_, rfl, ⟨fun _ => HA.out, fun _ => by omega⟩⟩, hb2⟩
    · obtain rfl : k = n := by omega
      have HA : Hid (l.all mayTx = true) := by
        rw [Hid, List.all_eq_true]
        have := HT.out
        rw [List.take_of_length_le (by rw [HL.out]; exact Nat.le_refl _)] at this
        exact this
      go_wp2_with fail
      go_ret
      exact ⟨⟨_, rfl, ⟨fun h => by omega, fun h => by rw [HA.out] at h; cases h⟩⟩, hb⟩
set_option maxRecDepth 100000 in
set_option maxHeartbeats 1000000 in
theorem slices_ContainsFunc {A : Option Addr} {n c : Nat} {l : List TxD} (w : World) (hs : Sl w 4 A n (txsC l)) (hn : n ≤ 9223372036854775807) (hz : ∀ t ∈ l, t.k.size ≤ 9223372036854775807 ∧ t.v.size ≤ 9223372036854775807) {r : Bool} (hr : l.all mayTx = r) :
    Calls Try.prog 98 #[.slice A n c, .func (.func 99) #[] #[]] w fun e w' => e = .returned (.bool (!r)) ∧ Below w.heap.size w w' := by
  have HZ := hide hz
  have HR := hide hr
  clear hz hr
  go_enter Try.func98, Try.ntmps98
  go_wp2_with fail
  refine (slices_IndexFunc _ hs hn HZ.out).mono ?_
  rintro e w1 ⟨⟨i, rfl, HI⟩, hb⟩
  cases r with
  | true =>
    have hi : ¬ 0 ≤ i := by
      intro h
      have := HI.out.1 h
      rw [HR.out] at this; cases this
    go_wp2_with fail
    go_ret
    refine ⟨ret_bool ?_, hb⟩
    simp; try omega
  | false =>
    have hi : 0 ≤ i := HI.out.2 HR.out
    go_wp2_with fail
    go_ret
    refine ⟨ret_bool ?_, hb⟩
    simp; try omega
end Go.Proofs.Ytebaojcfmkobjaa
/-
  Contracts: which batches may be, and what is told of it: the program's and the reference's.
-/
namespace Go.Proofs.Ytebaojcfmkobjaa
open Go.RowKit

/-- A transaction's texts are no longer than can be. -/
def TxZ (l : List TxD) : Prop := ∀ t ∈ l, t.k.size ≤ 9223372036854775807 ∧ t.v.size ≤ 9223372036854775807
def batchV (a n : Int) (A : Option Addr) (m c : Nat) : Value := .agg #[.int .i64 a, .int .i64 n, .slice A m c]
set_option maxRecDepth 100000 in
set_option maxHeartbeats 2000000 in
theorem batch_May {A : Option Addr} {m c : Nat} {l : List TxD} (a n : Int) (w : World) (hs : Sl w 4 A m (txsC l)) (hn : m ≤ 9223372036854775807) (hz : TxZ l) {r : Bool} (hr : Hid (mayB a n l = r)) :
    Calls Try.prog 87 #[batchV a n A m c] w fun e w' => e = .returned (.bool r) ∧ Below w.heap.size w w' := by
  have HL := hide hs.txlen
  obtain ⟨x, HX⟩ : ∃ x, Hid (l.all mayTx = x) := ⟨_, rfl⟩
  have hb0 := below_alloc w (.cells #[.int .i64 a, .int .i64 n, .slice A m c] 36)
  have HC := hide (slices_ContainsFunc (c := c) _ (hs.below hb0) hn hz HX.out)
  have HB := hide hb0
  have HALL : Hid (r = true ↔ (1 ≤ a ∧ a ≤ 16) ∧ (1 ≤ n ∧ n ≤ 1099511627776) ∧ (1 ≤ m ∧ m ≤ 8) ∧ x = true) := by
    rw [Hid, ← hr.out, ← HX.out, ← HL.out, mayB_iff, List.all_eq_true]
  clear hb0 hz hs
  unfold batchV
  go_enter Try.func87, Try.ntmps87
  go_wp2_with (first | (go_at_call 98; refine HC.out.mono ?_; rintro e w1 ⟨rfl, hb1⟩; have HB1 := hide (HB.out.trans (hb1.mono HB.out.size)); clear hb1))
  all_goals
    go_ret
    refine ⟨ret_bool ?_, by first | exact HB1.out | exact HB.out⟩
    rw [Bool.eq_iff_iff, HALL.out]
    first
      | (simp; done)
      | (simp; omega)
      | omega
      | (constructor; (· intro h; exact ⟨⟨by omega, by omega⟩, ⟨by omega, by omega⟩, ⟨by omega, by omega⟩, by simpa using h⟩); (· rintro ⟨_, _, _, h⟩; simpa using h))

/-! The reference. -/
end Go.Proofs.Ytebaojcfmkobjaa
