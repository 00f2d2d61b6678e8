/-
  Contracts of the committee's exported functions, of the reference's sizes, and of the laws' helpers: what each call answers, for every input.
-/
import Derived.Test.YtkjdhjkmnkcgoaaComB
namespace Go.Proofs.Ytkjdhjkmnkcgoaa
open Go.RowKit

def enoughB (m : Int) (xs : List Int) : Bool := comIs m && decide (2 * ((m - 1) / 3) + 1 ≤ (cnt m.toNat xs : Int))
def someB (m : Int) (xs : List Int) : Bool := comIs m && decide ((m - 1) / 3 < (cnt m.toNat xs : Int))

theorem tup_bool {a b : Bool} {x y : Int} (h : a = b) (g : x = y) : Ending.returned (.tuple #[.bool a, .int .i64 x]) = .returned (.tuple #[.bool b, .int .i64 y]) := by rw [h, g]

set_option maxHeartbeats 400000 in
theorem com_Enough (m : Int) (A : Option Addr) (n c : Nat) (xs : List Int) (w : World) (hs : Sl w 1 A n (ints xs)) (hn : n ≤ 9223372036854775807) :
    Calls Try.prog 38 #[.int .i64 m, .slice A n c] w fun e w' => e = .returned (.tuple #[.bool (enoughB m xs), .int .i64 (formE (comIs m))]) ∧ Below w.heap.size w w' := by
  by_cases hI : comIs m = true
  · have h1 := comIs_true hI
    obtain ⟨j, rfl⟩ := Int.eq_ofNat_of_zero_le (by omega : 0 ≤ m)
    have hc := cnt_le j xs
    go_enter Try.func38, Try.ntmps38
    go_wp2_with (first | (go_at_call 49; refine (com_Is _ _).mono ?_; rintro e w' ⟨rfl, rfl⟩) | (go_at_call 55; refine (com_Q _ _ (by omega) (by omega)).mono ?_; rintro e w' ⟨rfl, rfl⟩) | (go_at_call 56; refine (com_Unlike _ _ _ _ _ _ hs hn (by omega)).mono ?_; rintro e w' ⟨rfl, hb⟩))
    go_ret2
    exact ⟨tup_bool (by simp [enoughB, hI]) (by simp [hI, formE]), hb⟩
  · have hI : comIs m = false := by simpa using hI
    go_enter Try.func38, Try.ntmps38
    go_wp2_with (first | (go_at_call 49; refine (com_Is _ _).mono ?_; rintro e w' ⟨rfl, rfl⟩))
    go_ret2
    exact ⟨tup_bool (by simp [enoughB, hI]) (by simp [hI, formE]), Below.refl _ _⟩

set_option maxHeartbeats 400000 in
theorem com_Some (m : Int) (A : Option Addr) (n c : Nat) (xs : List Int) (w : World) (hs : Sl w 1 A n (ints xs)) (hn : n ≤ 9223372036854775807) :
    Calls Try.prog 39 #[.int .i64 m, .slice A n c] w fun e w' => e = .returned (.tuple #[.bool (someB m xs), .int .i64 (formE (comIs m))]) ∧ Below w.heap.size w w' := by
  by_cases hI : comIs m = true
  · have h1 := comIs_true hI
    obtain ⟨j, rfl⟩ := Int.eq_ofNat_of_zero_le (by omega : 0 ≤ m)
    have hc := cnt_le j xs
    go_enter Try.func39, Try.ntmps39
    go_wp2_with (first | (go_at_call 49; refine (com_Is _ _).mono ?_; rintro e w' ⟨rfl, rfl⟩) | (go_at_call 54; refine (com_F _ _ (by omega) (by omega)).mono ?_; rintro e w' ⟨rfl, rfl⟩) | (go_at_call 56; refine (com_Unlike _ _ _ _ _ _ hs hn (by omega)).mono ?_; rintro e w' ⟨rfl, hb⟩))
    go_ret2
    exact ⟨tup_bool (by simp [someB, hI]) (by simp [hI, formE]), hb⟩
  · have hI : comIs m = false := by simpa using hI
    go_enter Try.func39, Try.ntmps39
    go_wp2_with (first | (go_at_call 49; refine (com_Is _ _).mono ?_; rintro e w' ⟨rfl, rfl⟩))
    go_ret2
    exact ⟨tup_bool (by simp [someB, hI]) (by simp [hI, formE]), Below.refl _ _⟩

theorem ref2_Count_int (m : Int) (A : Option Addr) (n c : Nat) (xs : List Int) (w : World) (hs : Sl w 1 A n (ints xs)) (hn : n ≤ 9223372036854775807) (h0 : 0 ≤ m) (hm : m ≤ 16) :
    Calls Try.prog 41 #[.int .i64 m, .slice A n c] w fun e w' => e = .returned (.int .i64 (cnt m.toNat xs)) ∧ w = w' := by
  obtain ⟨j, rfl⟩ := Int.eq_ofNat_of_zero_le h0
  exact ref2_Count j A n c xs w hs hn (by omega)

set_option maxHeartbeats 400000 in
theorem com_Faults (n : Int) (w : World) :
    Calls Try.prog 29 #[.int .i64 n] w fun e w' => e = .returned (.tuple #[.int .i64 (orZero (comIs n) ((n - 1) / 3)), .int .i64 (formE (comIs n))]) ∧ w = w' := by
  by_cases hn : comIs n = true
  · have h1 := comIs_true hn
    go_enter Try.func29, Try.ntmps29
    go_wp2_with (first | (go_at_call 49; refine (com_Is _ _).mono ?_; rintro e w' ⟨rfl, rfl⟩) | (go_at_call 54; refine (com_F _ _ (by omega) (by omega)).mono ?_; rintro e w' ⟨rfl, rfl⟩))
    go_ret2
    exact ⟨numOr_yes (by simp [hn]), rfl⟩
  · have hn : comIs n = false := by simpa using hn
    go_enter Try.func29, Try.ntmps29
    go_wp2_with (first | (go_at_call 49; refine (com_Is _ _).mono ?_; rintro e w' ⟨rfl, rfl⟩))
    go_ret2
    exact ⟨numOr_no (by simp [hn]), rfl⟩

set_option maxHeartbeats 400000 in
theorem com_Few (n : Int) (w : World) :
    Calls Try.prog 31 #[.int .i64 n] w fun e w' => e = .returned (.tuple #[.int .i64 (orZero (comIs n) ((n - 1) / 3 + 1)), .int .i64 (formE (comIs n))]) ∧ w = w' := by
  by_cases hn : comIs n = true
  · have h1 := comIs_true hn
    go_enter Try.func31, Try.ntmps31
    go_wp2_with (first | (go_at_call 49; refine (com_Is _ _).mono ?_; rintro e w' ⟨rfl, rfl⟩) | (go_at_call 54; refine (com_F _ _ (by omega) (by omega)).mono ?_; rintro e w' ⟨rfl, rfl⟩))
    go_ret2
    exact ⟨numOr_yes (by simp [hn]), rfl⟩
  · have hn : comIs n = false := by simpa using hn
    go_enter Try.func31, Try.ntmps31
    go_wp2_with (first | (go_at_call 49; refine (com_Is _ _).mono ?_; rintro e w' ⟨rfl, rfl⟩))
    go_ret2
    exact ⟨numOr_no (by simp [hn]), rfl⟩

set_option maxHeartbeats 400000 in
theorem com_Check (n : Int) (w : World) :
    Calls Try.prog 32 #[.int .i64 n] w fun e w' => e = .returned (.int .i64 (formE (comIs n))) ∧ w = w' := by
  cases hn : comIs n
  all_goals
    go_enter Try.func32, Try.ntmps32
    go_wp2_with (first | (go_at_call 49; refine (com_Is _ _).mono ?_; rintro e w' ⟨rfl, rfl⟩))
    go_ret
    exact ⟨rfl, rfl⟩

set_option maxHeartbeats 400000 in
theorem ref2_Faults (n : Int) (w : World) (h : comIs n = true) :
    Calls Try.prog 33 #[.int .i64 n] w fun e w' => e = .returned (.int .i64 ((n - 1) / 3)) ∧ w = w' := by
  have h1 := comIs_true h
  go_enter Try.func33, Try.ntmps33
  go_wp2
  go_ret
  exact ⟨ret_int (by omega), rfl⟩

set_option maxHeartbeats 400000 in
theorem ref2_Quorum (n : Int) (w : World) (h : comIs n = true) :
    Calls Try.prog 34 #[.int .i64 n] w fun e w' => e = .returned (.int .i64 (2 * ((n - 1) / 3) + 1)) ∧ w = w' := by
  have h1 := comIs_true h
  go_enter Try.func34, Try.ntmps34
  go_wp2
  go_ret
  exact ⟨ret_int (by omega), rfl⟩

set_option maxHeartbeats 400000 in
theorem ref2_Few (n : Int) (w : World) (h : comIs n = true) :
    Calls Try.prog 35 #[.int .i64 n] w fun e w' => e = .returned (.int .i64 ((n - 1) / 3 + 1)) ∧ w = w' := by
  have h1 := comIs_true h
  go_enter Try.func35, Try.ntmps35
  go_wp2
  go_ret
  exact ⟨ret_int (by omega), rfl⟩

set_option maxHeartbeats 400000 in
theorem ref2_Faults_any (n : Int) (w : World) :
    Calls Try.prog 33 #[.int .i64 n] w fun e w' => (∃ z, e = .returned (.int .i64 z)) ∧ w = w' := by
  go_enter Try.func33, Try.ntmps33
  go_wp2
  go_ret
  exact ⟨⟨_, rfl⟩, rfl⟩

set_option maxHeartbeats 400000 in
theorem ref2_Quorum_any (n : Int) (w : World) :
    Calls Try.prog 34 #[.int .i64 n] w fun e w' => (∃ z, e = .returned (.int .i64 z)) ∧ w = w' := by
  go_enter Try.func34, Try.ntmps34
  go_wp2
  go_ret
  exact ⟨⟨_, rfl⟩, rfl⟩

set_option maxHeartbeats 400000 in
theorem ref2_Few_any (n : Int) (w : World) :
    Calls Try.prog 35 #[.int .i64 n] w fun e w' => (∃ z, e = .returned (.int .i64 z)) ∧ w = w' := by
  go_enter Try.func35, Try.ntmps35
  go_wp2
  go_ret
  exact ⟨⟨_, rfl⟩, rfl⟩

set_option maxHeartbeats 400000 in
theorem law3_heavy (N R : Value) (A : Option Addr) (n c : Nat) (w : World) (hn : n ≤ 9223372036854775807) :
    Calls Try.prog 36 #[.agg #[N, R, .slice A n c]] w fun e w' => e = .returned (.bool (decide (300 < n))) ∧ Below w.heap.size w w' := by
  go_enter Try.func36, Try.ntmps36
  go_wp2
  go_ret
  exact ⟨ret_bool (by rw [Bool.eq_iff_iff]; simp; omega), (Below.refl _ _).alloc (Nat.le_refl _) _⟩

/-- Law 3's argument: at each place a number of nodes, a round, a list of numbers. -/
def Asks3 (w : World) (A : Option Addr) (n : Nat) : Prop :=
  n ≤ 9223372036854775807 ∧ (0 < n → ∃ b off, A = some ⟨b, off, none⟩ ∧ ∀ k, k < n → ∃ N R A' n' c' xs, w.cell? ⟨b, off + k * 3, none⟩ = some (.int .i64 N) ∧ w.cell? ⟨b, off + k * 3 + 1, none⟩ = some (.int .i64 R) ∧
    w.cell? ⟨b, off + k * 3 + 2, none⟩ = some (.slice A' n' c') ∧ Sl w 1 A' n' (ints xs) ∧ n' ≤ 9223372036854775807)
end Go.Proofs.Ytkjdhjkmnkcgoaa
