/-
  Contracts of the place's exported functions and of the reference's: what each call answers, for every input.
-/
import Derived.Test.YtkjdhjkmnkcgoaaPla
namespace Go.Proofs.Ytkjdhjkmnkcgoaa
open Go.RowKit


def plaIs (r a : Int) : Bool := decide (0 ≤ r ∧ r ≤ 1099511627776 ∧ 1 ≤ a ∧ a ≤ 16)
theorem plaIs_true {r a : Int} (h : plaIs r a = true) : 0 ≤ r ∧ r ≤ 1099511627776 ∧ 1 ≤ a ∧ a ≤ 16 := by simpa [plaIs] using h
theorem plaIs_mk {r a : Int} (h : 0 ≤ r ∧ r ≤ 1099511627776 ∧ 1 ≤ a ∧ a ≤ 16) : plaIs r a = true := by simpa [plaIs] using h
theorem plaIs_no {r a : Int} (h : ¬ (0 ≤ r ∧ r ≤ 1099511627776 ∧ 1 ≤ a ∧ a ≤ 16)) : plaIs r a = false := by simpa [plaIs] using h

set_option maxHeartbeats 400000 in
theorem pla_Is (r a : Int) (w : World) :
    Calls Try.prog 47 #[.int .i64 r, .int .i64 a] w fun e w' => e = .returned (.bool (plaIs r a)) ∧ w = w' := by
  go_enter Try.func47, Try.ntmps47
  go_wp2
  all_goals go_ret
  all_goals exact ⟨ret_bool (by rw [Bool.eq_iff_iff]; simp [plaIs]; try omega), rfl⟩

set_option maxHeartbeats 400000 in
theorem ref1_May (r a : Int) (w : World) :
    Calls Try.prog 16 #[.int .i64 r, .int .i64 a] w fun e w' => e = .returned (.bool (plaIs r a)) ∧ w = w' := by
  go_enter Try.func16, Try.ntmps16
  go_wp2
  all_goals go_ret
  all_goals exact ⟨ret_bool (by rw [Bool.eq_iff_iff]; simp [plaIs]; try omega), rfl⟩

/-- A place as a value. -/
def plaV (r a : Int) : Value := .complex .f64 (floatOfInt .f64 r) (floatOfInt .f64 a)

set_option maxHeartbeats 400000 in
theorem pla_Of (r a : Int) (w : World) :
    Calls Try.prog 48 #[.int .i64 r, .int .i64 a] w fun e w' => e = .returned (.complex .f64 (floatOfInt .f64 r) (floatOfInt .f64 a)) ∧ w = w' := by
  go_enter Try.func48, Try.ntmps48
  go_wp2
  go_ret
  exact ⟨rfl, rfl⟩

set_option maxHeartbeats 400000 in
theorem ref1_At (r a : Int) (w : World) :
    Calls Try.prog 18 #[.int .i64 r, .int .i64 a] w fun e w' => e = .returned (.complex .f64 (floatOfInt .f64 r) (floatOfInt .f64 a)) ∧ w = w' := by
  go_enter Try.func18, Try.ntmps18
  go_wp2
  go_ret
  exact ⟨rfl, rfl⟩

set_option maxHeartbeats 400000 in
theorem pla_At_yes (r a : Int) (w : World) (h : plaIs r a = true) :
    Calls Try.prog 15 #[.int .i64 r, .int .i64 a] w fun e w' => e = .returned (.tuple #[.complex .f64 (floatOfInt .f64 r) (floatOfInt .f64 a), .int .i64 0]) ∧ w = w' := by
  go_enter Try.func15, Try.ntmps15
  go_wp2_with (first | (go_at_call 47; refine (pla_Is _ _ _).mono ?_; rintro e w' ⟨rfl, rfl⟩) | (go_at_call 48; refine (pla_Of _ _ _).mono ?_; rintro e w' ⟨rfl, rfl⟩))
  go_ret2
  exact ⟨rfl, rfl⟩

set_option maxHeartbeats 400000 in
theorem pla_At_no (r a : Int) (w : World) (h : plaIs r a = false) :
    Calls Try.prog 15 #[.int .i64 r, .int .i64 a] w fun e w' => e = .returned (.tuple #[.complex .f64 0 0, .int .i64 1]) ∧ w = w' := by
  go_enter Try.func15, Try.ntmps15
  go_wp2_with (first | (go_at_call 47; refine (pla_Is _ _ _).mono ?_; rintro e w' ⟨rfl, rfl⟩))
  go_ret2
  exact ⟨rfl, rfl⟩

/-- The parts of a place, or that it has none. -/
def partsIs (x y : Nat) (r a : Int) : Prop := wholeIs x 0 1099511627776 r ∧ wholeIs y 1 16 a
def partsNot (x y : Nat) : Prop := wholeNot x 0 1099511627776 ∨ wholeNot y 1 16
theorem parts_em (x y : Nat) : (∃ r a, partsIs x y r a) ∨ partsNot x y := by
  rcases whole_em x 0 1099511627776 with ⟨r, hr⟩ | h
  · rcases whole_em y 1 16 with ⟨a, ha⟩ | h
    · exact .inl ⟨r, a, hr, ha⟩
    · exact .inr (.inr h)
  · exact .inr (.inl h)

set_option maxHeartbeats 400000 in
theorem pla_Parts_yes {x y : Nat} {r a : Int} (w : World) (h : partsIs x y r a) :
    Calls Try.prog 27 #[.complex .f64 x y] w fun e w' => e = .returned (.tuple #[.int .i64 r, .int .i64 a, .int .i64 0]) ∧ w = w' := by
  obtain ⟨h1, h2⟩ := h
  have H1 := hide h1
  have H2 := hide h2
  clear h1 h2
  go_enter Try.func27, Try.ntmps27
  go_wp2_with fail
  refine (pla_whole_yes _ H1.out (by decide) (by decide)).mono ?_
  rintro e w' ⟨rfl, rfl⟩
  go_wp2_with fail
  refine (pla_whole_yes _ H2.out (by decide) (by decide)).mono ?_
  rintro e w' ⟨rfl, rfl⟩
  go_wp2_with fail
  go_ret3
  exact ⟨rfl, rfl⟩

set_option maxHeartbeats 400000 in
theorem pla_Parts_no {x y : Nat} (w : World) (h : partsNot x y) :
    Calls Try.prog 27 #[.complex .f64 x y] w fun e w' => e = .returned (.tuple #[.int .i64 0, .int .i64 0, .int .i64 1]) ∧ w = w' := by
  have H := hide h
  clear h
  have em1 := hide (whole_em x 0 1099511627776)
  have em2 := hide (whole_em y 1 16)
  rcases em1.out with ⟨n, h1⟩ | h1
  all_goals rcases em2.out with ⟨m, h2⟩ | h2
  · exact (H.out.elim (fun h => h _ h1) (fun h => h _ h2)).elim
  · have H1 := hide h1
    have H2 := hide h2
    clear h1 h2
    go_enter Try.func27, Try.ntmps27
    go_wp2_with fail
    refine (pla_whole_yes _ H1.out (by decide) (by decide)).mono ?_
    rintro e w' ⟨rfl, rfl⟩
    go_wp2_with fail
    refine (pla_whole_no _ H2.out (by decide) (by decide) (by decide)).mono ?_
    rintro e w' ⟨⟨z, rfl⟩, rfl⟩
    go_wp2_with fail
    go_ret3
    exact ⟨rfl, rfl⟩
  · have H1 := hide h1
    have H2 := hide h2
    clear h1 h2
    go_enter Try.func27, Try.ntmps27
    go_wp2_with fail
    refine (pla_whole_no _ H1.out (by decide) (by decide) (by decide)).mono ?_
    rintro e w' ⟨⟨z, rfl⟩, rfl⟩
    go_wp2_with fail
    refine (pla_whole_yes _ H2.out (by decide) (by decide)).mono ?_
    rintro e w' ⟨rfl, rfl⟩
    go_wp2_with fail
    go_ret3
    exact ⟨rfl, rfl⟩
  · have H1 := hide h1
    have H2 := hide h2
    clear h1 h2
    go_enter Try.func27, Try.ntmps27
    go_wp2_with fail
    refine (pla_whole_no _ H1.out (by decide) (by decide) (by decide)).mono ?_
    rintro e w' ⟨⟨z, rfl⟩, rfl⟩
    go_wp2_with fail
    refine (pla_whole_no _ H2.out (by decide) (by decide) (by decide)).mono ?_
    rintro e w' ⟨⟨z', rfl⟩, rfl⟩
    go_wp2_with fail
    go_ret3
    exact ⟨rfl, rfl⟩

set_option maxHeartbeats 400000 in
theorem ref1_Parts_yes {x y : Nat} {r a : Int} (w : World) (h : partsIs x y r a) :
    Calls Try.prog 28 #[.complex .f64 x y] w fun e w' => e = .returned (.tuple #[.int .i64 r, .int .i64 a, .bool true]) ∧ w = w' := by
  obtain ⟨h1, h2⟩ := h
  have H1 := hide h1
  have H2 := hide h2
  clear h1 h2
  go_enter Try.func28, Try.ntmps28
  go_wp2_with fail
  refine (ref1_whole_yes _ H1.out (by decide) (by decide)).mono ?_
  rintro e w' ⟨rfl, rfl⟩
  go_wp2_with fail
  refine (ref1_whole_yes _ H2.out (by decide) (by decide)).mono ?_
  rintro e w' ⟨rfl, rfl⟩
  go_wp2_with fail
  go_ret3
  exact ⟨rfl, rfl⟩

set_option maxHeartbeats 400000 in
theorem ref1_Parts_no {x y : Nat} (w : World) (h : partsNot x y) :
    Calls Try.prog 28 #[.complex .f64 x y] w fun e w' => e = .returned (.tuple #[.int .i64 0, .int .i64 0, .bool false]) ∧ w = w' := by
  have H := hide h
  clear h
  have em1 := hide (whole_em x 0 1099511627776)
  have em2 := hide (whole_em y 1 16)
  rcases em1.out with ⟨n, h1⟩ | h1
  all_goals rcases em2.out with ⟨m, h2⟩ | h2
  · exact (H.out.elim (fun h => h _ h1) (fun h => h _ h2)).elim
  · have H1 := hide h1
    have H2 := hide h2
    clear h1 h2
    go_enter Try.func28, Try.ntmps28
    go_wp2_with fail
    refine (ref1_whole_yes _ H1.out (by decide) (by decide)).mono ?_
    rintro e w' ⟨rfl, rfl⟩
    go_wp2_with fail
    refine (ref1_whole_no _ H2.out (by decide) (by decide) (by decide)).mono ?_
    rintro e w' ⟨⟨z, rfl⟩, rfl⟩
    go_wp2_with fail
    go_ret3
    exact ⟨rfl, rfl⟩
  · have H1 := hide h1
    have H2 := hide h2
    clear h1 h2
    go_enter Try.func28, Try.ntmps28
    go_wp2_with fail
    refine (ref1_whole_no _ H1.out (by decide) (by decide) (by decide)).mono ?_
    rintro e w' ⟨⟨z, rfl⟩, rfl⟩
    go_wp2_with fail
    refine (ref1_whole_yes _ H2.out (by decide) (by decide)).mono ?_
    rintro e w' ⟨rfl, rfl⟩
    go_wp2_with fail
    go_ret3
    exact ⟨rfl, rfl⟩
  · have H1 := hide h1
    have H2 := hide h2
    clear h1 h2
    go_enter Try.func28, Try.ntmps28
    go_wp2_with fail
    refine (ref1_whole_no _ H1.out (by decide) (by decide) (by decide)).mono ?_
    rintro e w' ⟨⟨z, rfl⟩, rfl⟩
    go_wp2_with fail
    refine (ref1_whole_no _ H2.out (by decide) (by decide) (by decide)).mono ?_
    rintro e w' ⟨⟨z', rfl⟩, rfl⟩
    go_wp2_with fail
    go_ret3
    exact ⟨rfl, rfl⟩

def befB (r a s b : Int) : Bool := decide (r < s ∨ r = s ∧ a < b)
set_option maxHeartbeats 400000 in
theorem ref1_Before (r a s b : Int) (w : World) :
    Calls Try.prog 43 #[.int .i64 r, .int .i64 a, .int .i64 s, .int .i64 b] w fun e w' => e = .returned (.bool (befB r a s b)) ∧ w = w' := by
  go_enter Try.func43, Try.ntmps43
  go_wp2
  all_goals go_ret
  all_goals exact ⟨ret_bool (by rw [Bool.eq_iff_iff]; simp [befB]; try omega), rfl⟩

set_option maxHeartbeats 1000000 in
theorem pla_Less {x y u v : Nat} {r a s b : Int} (w : World) (h1 : partsIs x y r a) (h2 : partsIs u v s b) :
    Calls Try.prog 58 #[.complex .f64 x y, .complex .f64 u v] w fun e w' => e = .returned (.bool (befB r a s b)) ∧ w = w' := by
  have o1 : FloatKind.f64.format.order x u = some (compare r s) := order_ints h1.1.1 h2.1.1
  have o2 : FloatKind.f64.format.order y v = some (compare a b) := order_ints h1.2.1 h2.2.1
  clear h1 h2
  rcases Int.lt_trichotomy r s with g | g | g
  · rw [compare_lt g] at o1
    clear o2
    go_enter Try.func58, Try.ntmps58
    go_wp2_with fail
    go_ret
    exact ⟨ret_bool (by simp [befB, g]), rfl⟩
  · subst g
    rw [compare_eq] at o1
    rcases Int.lt_trichotomy a b with k | k | k
    · rw [compare_lt k] at o2
      go_enter Try.func58, Try.ntmps58
      go_wp2_with fail
      go_ret
      exact ⟨ret_bool (by simp [befB, k]), rfl⟩
    · subst k
      rw [compare_eq] at o2
      go_enter Try.func58, Try.ntmps58
      go_wp2_with fail
      go_ret
      exact ⟨ret_bool (by simp [befB]), rfl⟩
    · rw [compare_gt k] at o2
      have k' : ¬ a < b := by omega
      go_enter Try.func58, Try.ntmps58
      go_wp2_with fail
      go_ret
      exact ⟨ret_bool (by simp [befB, k']), rfl⟩
  · rw [compare_gt g] at o1
    clear o2
    have g1 : ¬ r < s := by omega
    have g2 : ¬ r = s := by omega
    go_enter Try.func58, Try.ntmps58
    go_wp2_with fail
    go_ret
    exact ⟨ret_bool (by simp [befB, g1, g2]), rfl⟩

set_option maxHeartbeats 400000 in
theorem law1_num (n : Int) (w : World) :
    Calls Try.prog 17 #[.int .i64 n] w fun e w' => e = .returned (.int .i64 n) ∧ w = w' := by
  go_enter Try.func17, Try.ntmps17
  go_wp2
  all_goals go_ret
  all_goals exact ⟨rfl, rfl⟩

set_option maxHeartbeats 400000 in
theorem law1_wakes (w : World) :
    Calls Try.prog 19 #[] w fun r w' => r = .returned (.bool true) ∧ w = w' := by
  have h1 : FloatKind.f64.format.order (floatOfInt .f64 3) 4613937818241073152 = some .eq := by decide +kernel
  have h2 : FloatKind.f64.format.order (floatOfInt .f64 2) 4611686018427387904 = some .eq := by decide +kernel
  go_enter Try.func19, Try.ntmps19
  go_wp2_with (first | (go_at_call 15; refine (pla_At_yes _ _ _ (by decide)).mono ?_; rintro e w' ⟨rfl, rfl⟩) | (go_at_call 17; refine (law1_num _ _).mono ?_; rintro e w' ⟨rfl, rfl⟩))
  go_ret
  exact ⟨rfl, rfl⟩
end Go.Proofs.Ytkjdhjkmnkcgoaa
