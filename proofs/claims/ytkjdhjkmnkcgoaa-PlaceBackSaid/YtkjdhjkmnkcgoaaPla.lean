/-
  Contracts of the place's functions and of the reference's: what each call answers, for every input.
-/
import Derived.Test.YtkjdhjkmnkcgoaaProg
import Derived.Test.YtkjdhjkmnkcgoaaFlo
namespace Go.Proofs.Ytkjdhjkmnkcgoaa
open Go.RowKit

/-- x is the whole number n, from a to b. -/
def wholeIs (x : Nat) (a b n : Int) : Prop := val x = some (n * scale) ∧ a ≤ n ∧ n ≤ b
def wholeNot (x : Nat) (a b : Int) : Prop := ∀ n, ¬ wholeIs x a b n
theorem whole_em (x : Nat) (a b : Int) : (∃ n, wholeIs x a b n) ∨ wholeNot x a b := by
  by_cases h : ∃ n, wholeIs x a b n
  · exact .inl h
  · exact .inr (fun n hn => h ⟨n, hn⟩)

set_option maxHeartbeats 1000000 in
theorem pla_whole_yes {x : Nat} {a b n : Int} (w : World) (h : wholeIs x a b n) (ha : -4503599627370496 < a) (hb : b < 4503599627370496) :
    Calls Try.prog 52 #[.float .f64 x, .int .i64 a, .int .i64 b] w fun e w' => e = .returned (.tuple #[.int .i64 n, .bool true]) ∧ w = w' := by
  obtain ⟨hv, h1, h2⟩ := h
  have oA : FloatKind.f64.format.order x (floatOfInt .f64 a) = some (compare n a) := order_ints hv (val_floatOfInt (by omega))
  have oB : FloatKind.f64.format.order x (floatOfInt .f64 b) = some (compare n b) := order_ints hv (val_floatOfInt (by omega))
  have oC : FloatKind.f64.format.order (floatOfInt .f64 n) x = some .eq := by rw [← compare_eq n]; exact order_ints (val_floatOfInt (by omega)) hv
  have hq := floatToInt_val hv (by rw [tdiv_scale]; omega) (by rw [tdiv_scale]; omega)
  rw [tdiv_scale] at hq
  have hc := fun W : World => run_convert_float_int (P := Try.prog) (w := W) 27 3 .f64 .i64 x n (by kernel_rfl) Try.underlying3 hq
  have HV := hide hv
  clear hv hq
  rcases Int.lt_or_eq_of_le h1 with g1 | g1
  all_goals rcases Int.lt_or_eq_of_le h2 with g2 | g2
  all_goals
    first | (rw [compare_gt g1] at oA) | (rw [g1, compare_eq] at oA)
    first | (rw [compare_lt g2] at oB) | (rw [← g2, compare_eq] at oB)
    try subst g1
    try subst g2
    clear h1 h2 ha hb
    go_enter Try.func52, Try.ntmps52
    go_wp2_with fail
    go_ret2
    exact ⟨rfl, rfl⟩

set_option maxHeartbeats 1000000 in
theorem pla_whole_no {x : Nat} {a b : Int} (w : World) (h : wholeNot x a b) (ha : -4503599627370496 < a) (hb : b < 4503599627370496) (hab : a ≤ b) :
    Calls Try.prog 52 #[.float .f64 x, .int .i64 a, .int .i64 b] w fun e w' => (∃ n, e = .returned (.tuple #[.int .i64 n, .bool false])) ∧ w = w' := by
  have go1 : FloatKind.f64.format.order x (floatOfInt .f64 a) = none ∨ FloatKind.f64.format.order x (floatOfInt .f64 a) = some .lt ∨ FloatKind.f64.format.order x (floatOfInt .f64 a) = some .eq ∨ FloatKind.f64.format.order x (floatOfInt .f64 a) = some .gt := by
    cases FloatKind.f64.format.order x (floatOfInt .f64 a) with
    | none => exact .inl rfl
    | some o => cases o <;> simp
  have go2 : FloatKind.f64.format.order x (floatOfInt .f64 b) = none ∨ FloatKind.f64.format.order x (floatOfInt .f64 b) = some .lt ∨ FloatKind.f64.format.order x (floatOfInt .f64 b) = some .eq ∨ FloatKind.f64.format.order x (floatOfInt .f64 b) = some .gt := by
    cases FloatKind.f64.format.order x (floatOfInt .f64 b) with
    | none => exact .inl rfl
    | some o => cases o <;> simp
  have hin : ∀ o p, FloatKind.f64.format.order x (floatOfInt .f64 a) = some o → FloatKind.f64.format.order x (floatOfInt .f64 b) = some p → o ≠ .lt → p ≠ .gt →
      ∃ t, floatToIntVal .f64 x .i64 = some t ∧ FloatKind.f64.format.order (floatOfInt .f64 t) x ≠ some .eq := by
    intro o p ho hp h1 h2
    obtain ⟨V, hV, l1, l2⟩ := val_between (a := a) (b := b) (by omega) (by omega) ho hp h1 h2
    have tb := tdiv_between l1 l2 (by omega) (by omega)
    refine ⟨_, floatToInt_val hV tb.1 tb.2, fun he => ?_⟩
    have tb2 : -4503599627370496 ≤ V.tdiv scale ∧ V.tdiv scale ≤ 4503599627370496 := tdiv_small l1 l2 (by omega) (by omega)
    have he' := order_val (val_floatOfInt (n := V.tdiv scale) (by omega)) hV
    rw [show Ieee.double.order (floatOfInt .f64 (V.tdiv scale)) x = some Ordering.eq from he] at he'
    injection he' with he'
    have hVt := eq_of_compare he'.symm
    refine h (V.tdiv scale) ⟨by rw [hVt]; exact hV, ?_, ?_⟩
    · rw [← hVt] at l1
      exact Int.le_of_mul_le_mul_right l1 (Int.natCast_pos.2 scale_pos)
    · rw [← hVt] at l2
      exact Int.le_of_mul_le_mul_right l2 (Int.natCast_pos.2 scale_pos)
  have HIN := hide hin
  have HN := hide h
  clear hin h
  rcases go1 with g1 | g1 | g1 | g1
  · clear go2; (clear HIN; go_enter Try.func52, Try.ntmps52; go_wp2_with fail; go_ret2; exact ⟨⟨_, rfl⟩, rfl⟩)
  · clear go2; (clear HIN; go_enter Try.func52, Try.ntmps52; go_wp2_with fail; go_ret2; exact ⟨⟨_, rfl⟩, rfl⟩)
  · rcases go2 with g2 | g2 | g2 | g2
    · (clear HIN; go_enter Try.func52, Try.ntmps52; go_wp2_with fail; go_ret2; exact ⟨⟨_, rfl⟩, rfl⟩)
    · (obtain ⟨t, hq, hne⟩ := HIN.out _ _ g1 g2 (by decide) (by decide); clear HIN; have hc := (fun W : World => run_convert_float_int (P := Try.prog) (w := W) 27 3 .f64 .i64 x t (by kernel_rfl) Try.underlying3 hq); have he : (FloatKind.f64.format.order (floatOfInt .f64 t) x == some Ordering.eq) = false := (by simpa using hne); clear hq hne; go_enter Try.func52, Try.ntmps52; go_wp2_with fail; go_ret2; exact ⟨⟨_, rfl⟩, rfl⟩)
    · (obtain ⟨t, hq, hne⟩ := HIN.out _ _ g1 g2 (by decide) (by decide); clear HIN; have hc := (fun W : World => run_convert_float_int (P := Try.prog) (w := W) 27 3 .f64 .i64 x t (by kernel_rfl) Try.underlying3 hq); have he : (FloatKind.f64.format.order (floatOfInt .f64 t) x == some Ordering.eq) = false := (by simpa using hne); clear hq hne; go_enter Try.func52, Try.ntmps52; go_wp2_with fail; go_ret2; exact ⟨⟨_, rfl⟩, rfl⟩)
    · (clear HIN; go_enter Try.func52, Try.ntmps52; go_wp2_with fail; go_ret2; exact ⟨⟨_, rfl⟩, rfl⟩)
  · rcases go2 with g2 | g2 | g2 | g2
    · (clear HIN; go_enter Try.func52, Try.ntmps52; go_wp2_with fail; go_ret2; exact ⟨⟨_, rfl⟩, rfl⟩)
    · (obtain ⟨t, hq, hne⟩ := HIN.out _ _ g1 g2 (by decide) (by decide); clear HIN; have hc := (fun W : World => run_convert_float_int (P := Try.prog) (w := W) 27 3 .f64 .i64 x t (by kernel_rfl) Try.underlying3 hq); have he : (FloatKind.f64.format.order (floatOfInt .f64 t) x == some Ordering.eq) = false := (by simpa using hne); clear hq hne; go_enter Try.func52, Try.ntmps52; go_wp2_with fail; go_ret2; exact ⟨⟨_, rfl⟩, rfl⟩)
    · (obtain ⟨t, hq, hne⟩ := HIN.out _ _ g1 g2 (by decide) (by decide); clear HIN; have hc := (fun W : World => run_convert_float_int (P := Try.prog) (w := W) 27 3 .f64 .i64 x t (by kernel_rfl) Try.underlying3 hq); have he : (FloatKind.f64.format.order (floatOfInt .f64 t) x == some Ordering.eq) = false := (by simpa using hne); clear hq hne; go_enter Try.func52, Try.ntmps52; go_wp2_with fail; go_ret2; exact ⟨⟨_, rfl⟩, rfl⟩)
    · (clear HIN; go_enter Try.func52, Try.ntmps52; go_wp2_with fail; go_ret2; exact ⟨⟨_, rfl⟩, rfl⟩)


set_option maxHeartbeats 1000000 in
theorem ref1_whole_yes {x : Nat} {a b n : Int} (w : World) (h : wholeIs x a b n) (ha : -4503599627370496 < a) (hb : b < 4503599627370496) :
    Calls Try.prog 53 #[.float .f64 x, .int .i64 a, .int .i64 b] w fun e w' => e = .returned (.tuple #[.int .i64 n, .bool true]) ∧ w = w' := by
  obtain ⟨hv, h1, h2⟩ := h
  have oA : FloatKind.f64.format.order x (floatOfInt .f64 a) = some (compare n a) := order_ints hv (val_floatOfInt (by omega))
  have oB : FloatKind.f64.format.order x (floatOfInt .f64 b) = some (compare n b) := order_ints hv (val_floatOfInt (by omega))
  have oC : FloatKind.f64.format.order (floatOfInt .f64 n) x = some .eq := by rw [← compare_eq n]; exact order_ints (val_floatOfInt (by omega)) hv
  have hq := floatToInt_val hv (by rw [tdiv_scale]; omega) (by rw [tdiv_scale]; omega)
  rw [tdiv_scale] at hq
  have hc := fun W : World => run_convert_float_int (P := Try.prog) (w := W) 27 3 .f64 .i64 x n (by kernel_rfl) Try.underlying3 hq
  have HV := hide hv
  clear hv hq
  rcases Int.lt_or_eq_of_le h1 with g1 | g1
  all_goals rcases Int.lt_or_eq_of_le h2 with g2 | g2
  all_goals
    first | (rw [compare_gt g1] at oA) | (rw [g1, compare_eq] at oA)
    first | (rw [compare_lt g2] at oB) | (rw [← g2, compare_eq] at oB)
    try subst g1
    try subst g2
    clear h1 h2 ha hb
    go_enter Try.func53, Try.ntmps53
    go_wp2_with fail
    go_ret2
    exact ⟨rfl, rfl⟩

set_option maxHeartbeats 1000000 in
theorem ref1_whole_no {x : Nat} {a b : Int} (w : World) (h : wholeNot x a b) (ha : -4503599627370496 < a) (hb : b < 4503599627370496) (hab : a ≤ b) :
    Calls Try.prog 53 #[.float .f64 x, .int .i64 a, .int .i64 b] w fun e w' => (∃ n, e = .returned (.tuple #[.int .i64 n, .bool false])) ∧ w = w' := by
  have go1 : FloatKind.f64.format.order x (floatOfInt .f64 a) = none ∨ FloatKind.f64.format.order x (floatOfInt .f64 a) = some .lt ∨ FloatKind.f64.format.order x (floatOfInt .f64 a) = some .eq ∨ FloatKind.f64.format.order x (floatOfInt .f64 a) = some .gt := by
    cases FloatKind.f64.format.order x (floatOfInt .f64 a) with
    | none => exact .inl rfl
    | some o => cases o <;> simp
  have go2 : FloatKind.f64.format.order x (floatOfInt .f64 b) = none ∨ FloatKind.f64.format.order x (floatOfInt .f64 b) = some .lt ∨ FloatKind.f64.format.order x (floatOfInt .f64 b) = some .eq ∨ FloatKind.f64.format.order x (floatOfInt .f64 b) = some .gt := by
    cases FloatKind.f64.format.order x (floatOfInt .f64 b) with
    | none => exact .inl rfl
    | some o => cases o <;> simp
  have hin : ∀ o p, FloatKind.f64.format.order x (floatOfInt .f64 a) = some o → FloatKind.f64.format.order x (floatOfInt .f64 b) = some p → o ≠ .lt → p ≠ .gt →
      ∃ t, floatToIntVal .f64 x .i64 = some t ∧ FloatKind.f64.format.order (floatOfInt .f64 t) x ≠ some .eq := by
    intro o p ho hp h1 h2
    obtain ⟨V, hV, l1, l2⟩ := val_between (a := a) (b := b) (by omega) (by omega) ho hp h1 h2
    have tb := tdiv_between l1 l2 (by omega) (by omega)
    refine ⟨_, floatToInt_val hV tb.1 tb.2, fun he => ?_⟩
    have tb2 : -4503599627370496 ≤ V.tdiv scale ∧ V.tdiv scale ≤ 4503599627370496 := tdiv_small l1 l2 (by omega) (by omega)
    have he' := order_val (val_floatOfInt (n := V.tdiv scale) (by omega)) hV
    rw [show Ieee.double.order (floatOfInt .f64 (V.tdiv scale)) x = some Ordering.eq from he] at he'
    injection he' with he'
    have hVt := eq_of_compare he'.symm
    refine h (V.tdiv scale) ⟨by rw [hVt]; exact hV, ?_, ?_⟩
    · rw [← hVt] at l1
      exact Int.le_of_mul_le_mul_right l1 (Int.natCast_pos.2 scale_pos)
    · rw [← hVt] at l2
      exact Int.le_of_mul_le_mul_right l2 (Int.natCast_pos.2 scale_pos)
  have HIN := hide hin
  have HN := hide h
  clear hin h
  rcases go1 with g1 | g1 | g1 | g1
  · clear go2; (clear HIN; go_enter Try.func53, Try.ntmps53; go_wp2_with fail; go_ret2; exact ⟨⟨_, rfl⟩, rfl⟩)
  · clear go2; (clear HIN; go_enter Try.func53, Try.ntmps53; go_wp2_with fail; go_ret2; exact ⟨⟨_, rfl⟩, rfl⟩)
  · rcases go2 with g2 | g2 | g2 | g2
    · (clear HIN; go_enter Try.func53, Try.ntmps53; go_wp2_with fail; go_ret2; exact ⟨⟨_, rfl⟩, rfl⟩)
    · (obtain ⟨t, hq, hne⟩ := HIN.out _ _ g1 g2 (by decide) (by decide); clear HIN; have hc := (fun W : World => run_convert_float_int (P := Try.prog) (w := W) 27 3 .f64 .i64 x t (by kernel_rfl) Try.underlying3 hq); have he : (FloatKind.f64.format.order (floatOfInt .f64 t) x == some Ordering.eq) = false := (by simpa using hne); clear hq hne; go_enter Try.func53, Try.ntmps53; go_wp2_with fail; go_ret2; exact ⟨⟨_, rfl⟩, rfl⟩)
    · (obtain ⟨t, hq, hne⟩ := HIN.out _ _ g1 g2 (by decide) (by decide); clear HIN; have hc := (fun W : World => run_convert_float_int (P := Try.prog) (w := W) 27 3 .f64 .i64 x t (by kernel_rfl) Try.underlying3 hq); have he : (FloatKind.f64.format.order (floatOfInt .f64 t) x == some Ordering.eq) = false := (by simpa using hne); clear hq hne; go_enter Try.func53, Try.ntmps53; go_wp2_with fail; go_ret2; exact ⟨⟨_, rfl⟩, rfl⟩)
    · (clear HIN; go_enter Try.func53, Try.ntmps53; go_wp2_with fail; go_ret2; exact ⟨⟨_, rfl⟩, rfl⟩)
  · rcases go2 with g2 | g2 | g2 | g2
    · (clear HIN; go_enter Try.func53, Try.ntmps53; go_wp2_with fail; go_ret2; exact ⟨⟨_, rfl⟩, rfl⟩)
    · (obtain ⟨t, hq, hne⟩ := HIN.out _ _ g1 g2 (by decide) (by decide); clear HIN; have hc := (fun W : World => run_convert_float_int (P := Try.prog) (w := W) 27 3 .f64 .i64 x t (by kernel_rfl) Try.underlying3 hq); have he : (FloatKind.f64.format.order (floatOfInt .f64 t) x == some Ordering.eq) = false := (by simpa using hne); clear hq hne; go_enter Try.func53, Try.ntmps53; go_wp2_with fail; go_ret2; exact ⟨⟨_, rfl⟩, rfl⟩)
    · (obtain ⟨t, hq, hne⟩ := HIN.out _ _ g1 g2 (by decide) (by decide); clear HIN; have hc := (fun W : World => run_convert_float_int (P := Try.prog) (w := W) 27 3 .f64 .i64 x t (by kernel_rfl) Try.underlying3 hq); have he : (FloatKind.f64.format.order (floatOfInt .f64 t) x == some Ordering.eq) = false := (by simpa using hne); clear hq hne; go_enter Try.func53, Try.ntmps53; go_wp2_with fail; go_ret2; exact ⟨⟨_, rfl⟩, rfl⟩)
    · (clear HIN; go_enter Try.func53, Try.ntmps53; go_wp2_with fail; go_ret2; exact ⟨⟨_, rfl⟩, rfl⟩)

end Go.Proofs.Ytkjdhjkmnkcgoaa
