/-
  Contracts of the committee's plain functions and of the reference's: what each call answers, for every input. No conditions but that the integers are of kind int.
-/
import Derived.Test.YtkjdhjkmnkcgoaaProg
import Derived.Test.YtkjdhjkmnkcgoaaMem
namespace Go.Proofs.Ytkjdhjkmnkcgoaa
open Go.RowKit

/-- A committee of so many nodes may be. -/
def comIs (n : Int) : Bool := decide (1 ≤ n ∧ n ≤ 16 ∧ n % 3 = 1)
def comAnch (r : Int) : Bool := decide (2 ≤ r ∧ r ≤ 1099511627776 ∧ r % 2 = 0)

theorem comIs_true {n : Int} (h : comIs n = true) : 1 ≤ n ∧ n ≤ 16 ∧ n % 3 = 1 := by simpa [comIs] using h
theorem comIs_mk {n : Int} (h : 1 ≤ n ∧ n ≤ 16 ∧ n % 3 = 1) : comIs n = true := by simpa [comIs] using h
theorem comIs_false {n : Int} (h : comIs n = false) : ¬ (1 ≤ n ∧ n ≤ 16 ∧ n % 3 = 1) := by simpa [comIs] using h
theorem comAnch_true {n : Int} (h : comAnch n = true) : 2 ≤ n ∧ n ≤ 1099511627776 ∧ n % 2 = 0 := by simpa [comAnch] using h

set_option maxHeartbeats 400000 in
theorem com_Is (n : Int) (w : World) :
    Calls Try.prog 49 #[.int .i64 n] w fun e w' => e = .returned (.bool (comIs n)) ∧ w = w' := by
  go_enter Try.func49, Try.ntmps49
  go_wp2
  all_goals go_ret
  all_goals exact ⟨ret_bool (by rw [Bool.eq_iff_iff]; simp [comIs]; try omega), rfl⟩

set_option maxHeartbeats 400000 in
theorem ref2_May (n : Int) (w : World) :
    Calls Try.prog 21 #[.int .i64 n] w fun e w' => e = .returned (.bool (comIs n)) ∧ w = w' := by
  go_enter Try.func21, Try.ntmps21
  go_wp2
  all_goals go_ret
  all_goals exact ⟨ret_bool (by rw [Bool.eq_iff_iff]; simp [comIs]; try omega), rfl⟩

set_option maxHeartbeats 400000 in
theorem com_Anchors (n : Int) (w : World) :
    Calls Try.prog 50 #[.int .i64 n] w fun e w' => e = .returned (.bool (comAnch n)) ∧ w = w' := by
  go_enter Try.func50, Try.ntmps50
  go_wp2
  all_goals go_ret
  all_goals exact ⟨ret_bool (by rw [Bool.eq_iff_iff]; simp [comAnch]; try omega), rfl⟩

set_option maxHeartbeats 400000 in
theorem ref2_Even (n : Int) (w : World) :
    Calls Try.prog 22 #[.int .i64 n] w fun e w' => e = .returned (.bool (comAnch n)) ∧ w = w' := by
  go_enter Try.func22, Try.ntmps22
  go_wp2
  all_goals go_ret
  all_goals exact ⟨ret_bool (by rw [Bool.eq_iff_iff]; simp [comAnch]; try omega), rfl⟩

/-- Who leads. -/
def comLead (n r : Int) : Int := (r / 2 - 1) % n + 1

set_option maxHeartbeats 400000 in
theorem com_Leads (n r : Int) (w : World) (hn : 1 ≤ n) (hm : n ≤ 16) (hr : 2 ≤ r) (hq : r ≤ 1099511627776) :
    Calls Try.prog 51 #[.int .i64 n, .int .i64 r] w fun e w' => e = .returned (.int .i64 (comLead n r)) ∧ w = w' := by
  have b1 := Int.emod_nonneg (r / 2 - 1) (show n ≠ 0 by omega)
  have b2 := Int.emod_lt_of_pos (r / 2 - 1) (show 0 < n by omega)
  go_enter Try.func51, Try.ntmps51
  go_wp2
  all_goals go_ret
  all_goals exact ⟨ret_int (by simp [comLead]), rfl⟩

set_option maxHeartbeats 400000 in
theorem ref2_Leader (n r : Int) (w : World) (hn : 1 ≤ n) (hm : n ≤ 16) (hr : 2 ≤ r) (hq : r ≤ 1099511627776) :
    Calls Try.prog 23 #[.int .i64 n, .int .i64 r] w fun e w' => e = .returned (.int .i64 (comLead n r)) ∧ w = w' := by
  have b1 := Int.emod_nonneg (r / 2 - 1) (show n ≠ 0 by omega)
  have b2 := Int.emod_lt_of_pos (r / 2 - 1) (show 0 < n by omega)
  go_enter Try.func23, Try.ntmps23
  go_wp2
  all_goals go_ret
  all_goals exact ⟨ret_int (by simp [comLead]), rfl⟩

set_option maxHeartbeats 400000 in
theorem com_F (n : Int) (w : World) (hn : 1 ≤ n) (hm : n ≤ 16) :
    Calls Try.prog 54 #[.int .i64 n] w fun e w' => e = .returned (.int .i64 ((n - 1) / 3)) ∧ w = w' := by
  go_enter Try.func54, Try.ntmps54
  go_wp2
  all_goals go_ret
  all_goals exact ⟨rfl, rfl⟩

set_option maxHeartbeats 400000 in
theorem com_Q (n : Int) (w : World) (hn : 1 ≤ n) (hm : n ≤ 16) :
    Calls Try.prog 55 #[.int .i64 n] w fun e w' => e = .returned (.int .i64 (2 * ((n - 1) / 3) + 1)) ∧ w = w' := by
  go_enter Try.func55, Try.ntmps55
  go_wp2
  all_goals go_ret
  all_goals exact ⟨rfl, rfl⟩

theorem comQ_eq {n : Int} (h : comIs n = true) : 2 * ((n - 1) / 3) + 1 = 2 * (n / 3) + 1 := by have := comIs_true h; omega

/-- Two results: a number and an error, by whether it may be. -/
def numOr (ok : Bool) (n : Int) : Value := .tuple #[.int .i64 (orZero ok n), .int .i64 (formE ok)]

theorem numOr_yes {ok : Bool} {n : Int} (h : ok = true) : Ending.returned (.tuple #[.int .i64 n, .int .i64 0]) = .returned (.tuple #[.int .i64 (orZero ok n), .int .i64 (formE ok)]) := by subst h; rfl
theorem numOr_no {ok : Bool} {n : Int} (h : ok = false) : Ending.returned (.tuple #[.int .i64 0, .int .i64 1]) = .returned (.tuple #[.int .i64 (orZero ok n), .int .i64 (formE ok)]) := by subst h; rfl

set_option maxHeartbeats 400000 in
theorem com_Leader (n r : Int) (w : World) :
    Calls Try.prog 20 #[.int .i64 n, .int .i64 r] w fun e w' => e = .returned (.tuple #[.int .i64 (orZero (comIs n && comAnch r) (comLead n r)), .int .i64 (formE (comIs n && comAnch r))]) ∧ w = w' := by
  by_cases hn : comIs n = true
  · by_cases hr : comAnch r = true
    · have h1 := comIs_true hn
      have h2 := comAnch_true hr
      go_enter Try.func20, Try.ntmps20
      go_wp2_with (first | (go_at_call 49; refine (com_Is _ _).mono ?_; rintro e w' ⟨rfl, rfl⟩) | (go_at_call 50; refine (com_Anchors _ _).mono ?_; rintro e w' ⟨rfl, rfl⟩) | (go_at_call 51; refine (com_Leads _ _ _ (by omega) (by omega) (by omega) (by omega)).mono ?_; rintro e w' ⟨rfl, rfl⟩))
      go_ret2
      exact ⟨numOr_yes (by simp [hn, hr]), rfl⟩
    · have hr : comAnch r = false := by simpa using hr
      go_enter Try.func20, Try.ntmps20
      go_wp2_with (first | (go_at_call 49; refine (com_Is _ _).mono ?_; rintro e w' ⟨rfl, rfl⟩) | (go_at_call 50; refine (com_Anchors _ _).mono ?_; rintro e w' ⟨rfl, rfl⟩))
      go_ret2
      exact ⟨numOr_no (by simp [hn, hr]), rfl⟩
  · have hn : comIs n = false := by simpa using hn
    go_enter Try.func20, Try.ntmps20
    go_wp2_with (first | (go_at_call 49; refine (com_Is _ _).mono ?_; rintro e w' ⟨rfl, rfl⟩))
    go_ret2
    exact ⟨numOr_no (by simp [hn]), rfl⟩

set_option maxHeartbeats 400000 in
theorem law3_num (n : Int) (w : World) :
    Calls Try.prog 26 #[.int .i64 n] w fun e w' => e = .returned (.int .i64 n) ∧ w = w' := by
  go_enter Try.func26, Try.ntmps26
  go_wp2
  all_goals go_ret
  all_goals exact ⟨rfl, rfl⟩

def toldB (n e want : Int) (ok : Bool) : Bool := if ok then e == 0 && n == want else e == 1 && n == 0

set_option maxHeartbeats 400000 in
theorem law3_told (n e want : Int) (ok : Bool) (w : World) :
    Calls Try.prog 24 #[.int .i64 n, .int .i64 e, .int .i64 want, .bool ok] w fun r w' => r = .returned (.bool (toldB n e want ok)) ∧ w = w' := by
  cases ok
  all_goals
    go_enter Try.func24, Try.ntmps24
    go_wp2
    all_goals go_ret
    all_goals exact ⟨ret_bool (by simp_all [toldB]), rfl⟩

theorem toldB_yes (m : Int) : toldB m 0 m true = true := by simp [toldB]
theorem toldB_no (m : Int) : toldB 0 1 m false = true := by simp [toldB]
attribute [go_sem] toldB_yes toldB_no

set_option maxHeartbeats 400000 in
theorem com_Quorum (n : Int) (w : World) :
    Calls Try.prog 30 #[.int .i64 n] w fun e w' => e = .returned (.tuple #[.int .i64 (orZero (comIs n) (2 * ((n - 1) / 3) + 1)), .int .i64 (formE (comIs n))]) ∧ w = w' := by
  by_cases hn : comIs n = true
  · have h1 := comIs_true hn
    go_enter Try.func30, Try.ntmps30
    go_wp2_with (first | (go_at_call 49; refine (com_Is _ _).mono ?_; rintro e w' ⟨rfl, rfl⟩) | (go_at_call 55; refine (com_Q _ _ (by omega) (by omega)).mono ?_; rintro e w' ⟨rfl, rfl⟩))
    go_ret2
    exact ⟨numOr_yes (by simp [hn]), rfl⟩
  · have hn : comIs n = false := by simpa using hn
    go_enter Try.func30, Try.ntmps30
    go_wp2_with (first | (go_at_call 49; refine (com_Is _ _).mono ?_; rintro e w' ⟨rfl, rfl⟩))
    go_ret2
    exact ⟨numOr_no (by simp [hn]), rfl⟩

set_option maxHeartbeats 400000 in
theorem law3_wakes (w : World) :
    Calls Try.prog 25 #[] w fun r w' => r = .returned (.bool true) ∧ w = w' := by
  have h4 : comIs 4 = true := by decide
  go_enter Try.func25, Try.ntmps25
  go_wp2_with (first | (go_at_call 30; refine (com_Quorum _ _).mono ?_; rintro e w' ⟨rfl, rfl⟩) | (go_at_call 26; refine (law3_num _ _).mono ?_; rintro e w' ⟨rfl, rfl⟩))
  all_goals go_ret
  all_goals exact ⟨rfl, rfl⟩

end Go.Proofs.Ytkjdhjkmnkcgoaa
