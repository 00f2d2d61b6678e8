/-
  The walks of PlaceAll and PlaceBack: at every list of records the calls answer true and change nothing that was there.
-/
import Derived.Test.YtkjdhjkmnkcgoaaPld
namespace Go.Proofs.Ytkjdhjkmnkcgoaa
open Go.RowKit

theorem parts_mk {x y : Nat} {r a : Int} (hx : val x = some (r * scale)) (hy : val y = some (a * scale)) (h : plaIs r a = true) : partsIs x y r a := by
  have := plaIs_true h
  exact ⟨⟨hx, by omega, by omega⟩, ⟨hy, by omega, by omega⟩⟩
theorem step_mk {x y : Nat} {r a : Int} (hx : val x = some (r * scale)) (hy : val y = some (a * scale)) (h : -1099511627776 ≤ r ∧ r ≤ 1099511627776 ∧ -1099511627776 ≤ a ∧ a ≤ 1099511627776) : stepIs x y r a :=
  ⟨⟨hx, by omega, by omega⟩, ⟨hy, by omega, by omega⟩⟩
theorem val_0 : val 0 = some ((0 : Int) * (scale : Int)) := by
  have h := val_floatOfInt (n := 0) (by decide)
  have e : floatOfInt .f64 0 = 0 := by decide +kernel
  rwa [e] at h
theorem val_1 : val 4607182418800017408 = some ((1 : Int) * (scale : Int)) := by
  have h := val_floatOfInt (n := 1) (by decide)
  have e : floatOfInt .f64 1 = 4607182418800017408 := by decide +kernel
  rwa [e] at h
theorem val_m1 : val 13830554455654793216 = some ((-1 : Int) * (scale : Int)) := by
  have h := val_floatOfInt (n := -1) (by decide)
  have e : floatOfInt .f64 (-1) = 13830554455654793216 := by decide +kernel
  rwa [e] at h
theorem val_half : ∃ v : Int, val 4602678819172646912 = some v ∧ 2 * v = scale := by
  have hr : Ieee.double.read 4602678819172646912 = .number false 4503599627370496 (-53) := by decide +kernel
  have hs := scale_split 53 (bigE - 53) (by have := bigE_eq; omega)
  have e : ((-53 : Int) + 1074).toNat = bigE - 53 := by have := bigE_eq; omega
  refine ⟨_, by unfold val; rw [hr], ?_⟩
  rw [signed_eq, e, hs]
  generalize 2 ^ (bigE - 53) = Z
  simp only [Bool.false_eq_true, if_false, Int.one_mul]
  omega
theorem half_not : stepNot 4602678819172646912 0 := by
  refine .inl (fun n hn => ?_)
  obtain ⟨v, hv, h2⟩ := val_half
  have h1 := hn.1
  rw [hv] at h1
  injection h1 with h1
  subst h1
  have hp : (0 : Int) < scale := Int.natCast_pos.2 scale_pos
  have h3 : (2 * n) * (scale : Int) = 1 * scale := by rw [Int.mul_assoc]; omega
  have h4 := Int.eq_of_mul_eq_mul_right (by omega) h3
  omega

set_option maxRecDepth 100000 in
set_option maxHeartbeats 2000000 in
theorem walk_PlaceAll {v : Value} {w : World} (ho : ∃ A n c, v = .slice A n c ∧ Asks1 w A n) :
    Calls Try.prog 14 #[v] w fun r w' => r = .returned (.bool true) ∧ Below w.heap.size w w' := by
  obtain ⟨A, n, c, rfl, hn, h⟩ := ho
  go_enter Try.func14, Try.ntmps14
  go_wp2_with fail
  go_loop [3] (fun i => ∃ k : Nat, k ≤ n ∧ i = .int .i64 k) (fun i => n - (intOf i).toNat)
  case atStart => exact ⟨0, Nat.zero_le _, rfl⟩
  case round =>
    obtain ⟨k, hk, rfl⟩ := hrel
    by_cases hlt : k < n
    · obtain ⟨b, off, rfl, hc⟩ := h (by omega)
      obtain ⟨R, U, x, y, u, v, c0, c1, c2, c3, c4, c5⟩ := hc k hlt
      clear hc h c1 c2 c3 c4 c5
      by_cases hm : k < 4
      · by_cases hR : 0 ≤ R ∧ R ≤ 1099511627776
        · obtain ⟨r1, r2⟩ := hR
          have hI := plaIs_mk (r := R) (a := 1) ⟨r1, r2, by omega, by omega⟩
          have hp1 := parts_mk (val_floatOfInt (n := R) (by omega)) (val_floatOfInt (n := 1) (by omega)) hI
          obtain ⟨re0, im0, hs0⟩ := sum_of hp1 (step_mk val_0 val_m1 (by omega))
          have HI := hide hI
          have HP1 := hide hp1
          have HS0 := hide hs0
          have H0 : Hid (plaIs (R + 0) (1 + -1) = false) := plaIs_no (by omega)
          clear hI hp1 hs0
          go_wp2_with fail
          refine (pla_At_yes _ _ _ HI.out).mono ?_
          rintro e w' ⟨rfl, rfl⟩
          go_wp2_with (first | (go_at_call 17; refine (law1_num _ _).mono ?_; rintro e w' ⟨rfl, rfl⟩))
          refine (pla_Move_no _ HP1.out (step_mk val_0 val_m1 (by omega)) HS0.out H0.out).mono ?_
          rintro e w' ⟨rfl, rfl⟩
          go_wp2_with (first | (go_at_call 17; refine (law1_num _ _).mono ?_; rintro e w' ⟨rfl, rfl⟩))
          go_loop [5, 9] (fun p i => ∃ (a : Nat) (x y : Nat), 2 ≤ a ∧ a ≤ 17 ∧ i = .int .i64 a ∧ p = .complex .f64 x y ∧ Hid (partsIs x y R (a - 1))) (fun _ i => 17 - (intOf i).toNat)
          case atStart => exact ⟨2, _, _, by omega, by omega, rfl, rfl, HP1.out⟩
          case round =>
            obtain ⟨a, px, py, ha1, ha2, rfl, rfl, HP⟩ := hrel
            obtain ⟨re, im, hs⟩ := sum_of HP.out (step_mk val_0 val_1 (by omega))
            have HS := hide hs
            clear hs
            by_cases hle : a ≤ 16
            · have HJ : Hid (plaIs (R + 0) ((a : Int) - 1 + 1) = true) := plaIs_mk (by omega)
              have HA : Hid (plaIs R (a : Int) = true) := plaIs_mk (by omega)
              have hq := sum_parts HS.out HJ.out
              rw [show R + 0 = R by omega, show (a : Int) - 1 + 1 = a by omega] at hq
              have o1 : FloatKind.f64.format.order re (floatOfInt .f64 R) = some .eq := by rw [← compare_eq R]; exact order_ints hq.1.1 (val_floatOfInt (by omega))
              have o2 : FloatKind.f64.format.order im (floatOfInt .f64 a) = some .eq := by rw [← compare_eq (a : Int)]; exact order_ints hq.2.1 (val_floatOfInt (by omega))
              have HQ := hide hq
              have hB : befB R ((a : Int) - 1) R a = true := by simp [befB]; omega
              clear hq
              go_wp2_with fail
              refine (pla_Move_yes _ HP.out (step_mk val_0 val_1 (by omega)) HS.out HJ.out).mono ?_
              rintro e w' ⟨rfl, rfl⟩
              go_wp2_with fail
              refine (pla_At_yes _ _ _ HA.out).mono ?_
              rintro e w' ⟨rfl, rfl⟩
              go_wp2_with fail
              refine (pla_Before_yes _ HP.out HQ.out).mono ?_
              rintro e w' ⟨rfl, rfl⟩
              go_wp2_with (first | (go_at_call 17; refine (law1_num _ _).mono ?_; rintro e w' ⟨rfl, rfl⟩))
              go_round
              case rel => exact ⟨a + 1, _, _, by omega, by omega, by go_num, rfl, by rw [show ((a + 1 : Nat) : Int) - 1 = a by omega]; exact HQ.out⟩
              case measure => simp [intOf]; omega
            · obtain rfl : a = 17 := by omega
              have HJ : Hid (plaIs (R + 0) ((17 : Nat) - 1 + 1 : Int) = false) := plaIs_no (by omega)
              go_wp2_with fail
              refine (pla_Move_no _ HP.out (step_mk val_0 val_1 (by omega)) HS.out HJ.out).mono ?_
              rintro e w' ⟨rfl, rfl⟩
              go_wp2_with fail
              refine (pla_Move_none _ (.inr half_not)).mono ?_
              rintro e w' ⟨rfl, rfl⟩
              go_wp2_with (first | (go_at_call 17; refine (law1_num _ _).mono ?_; rintro e w' ⟨rfl, rfl⟩))
              go_round
              case rel => exact ⟨k + 1, by omega, by go_num⟩
              case measure => simp [intOf]; omega
        · have hR' : 0 ≤ R → 1099511627776 < R := by omega
          clear hR
          by_cases hR0 : 0 ≤ R
          all_goals
            go_wp2_with fail
            go_round
            case rel => exact ⟨k + 1, by omega, by go_num⟩
            case measure => simp [intOf]; omega
      · go_wp2_with (first | (go_at_call 19; refine (law1_wakes _).mono ?_; rintro e w' ⟨rfl, rfl⟩))
        go_ret
        exact ⟨rfl, Below.refl _ _⟩
    · go_wp2_with (first | (go_at_call 19; refine (law1_wakes _).mono ?_; rintro e w' ⟨rfl, rfl⟩))
      go_ret
      exact ⟨rfl, Below.refl _ _⟩
end Go.Proofs.Ytkjdhjkmnkcgoaa
