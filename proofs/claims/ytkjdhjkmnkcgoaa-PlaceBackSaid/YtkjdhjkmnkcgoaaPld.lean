/-
  The walks of PlaceAts, PlaceParts, PlaceBefore, PlaceMoves: at every list of records the calls answer true and change nothing that was there.
-/
import Derived.Test.YtkjdhjkmnkcgoaaPlc
namespace Go.Proofs.Ytkjdhjkmnkcgoaa
open Go.RowKit

/-- Law 1's argument: at each place a round, an author, two pairs of floats. -/
def Asks1 (w : World) (A : Option Addr) (n : Nat) : Prop :=
  n ≤ 9223372036854775807 ∧ (0 < n → ∃ b off, A = some ⟨b, off, none⟩ ∧ ∀ k, k < n → ∃ R U x y u v, w.cell? ⟨b, off + k * 6, none⟩ = some (.int .i64 R) ∧ w.cell? ⟨b, off + k * 6 + 1, none⟩ = some (.int .i64 U) ∧
    w.cell? ⟨b, off + k * 6 + 2, none⟩ = some (.float .f64 x) ∧ w.cell? ⟨b, off + k * 6 + 3, none⟩ = some (.float .f64 y) ∧ w.cell? ⟨b, off + k * 6 + 4, none⟩ = some (.float .f64 u) ∧ w.cell? ⟨b, off + k * 6 + 5, none⟩ = some (.float .f64 v))

theorem order_self {n : Int} (hn : n.natAbs < 2 ^ 53) : FloatKind.f64.format.order (floatOfInt .f64 n) (floatOfInt .f64 n) = some .eq := by
  rw [← compare_eq n]; exact order_ints (val_floatOfInt hn) (val_floatOfInt hn)
theorem order_zero : FloatKind.f64.format.order 0 0 = some .eq := by decide +kernel

set_option maxRecDepth 100000 in
set_option maxHeartbeats 1000000 in
theorem walk_PlaceAts {v : Value} {w : World} (ho : ∃ A n c, v = .slice A n c ∧ Asks1 w A n) :
    Calls Try.prog 3 #[v] w fun r w' => r = .returned (.bool true) ∧ Below w.heap.size w w' := by
  obtain ⟨A, n, c, rfl, hn, h⟩ := ho
  go_enter Try.func3, Try.ntmps3
  go_wp2_with fail
  go_loopw [3] (fun i wr => ∃ k : Nat, k ≤ n ∧ i = .int .i64 k ∧ ∃ q, wr = w.drewN q) (fun i _ => n - (intOf i).toNat)
  case atStart => exact ⟨0, Nat.zero_le _, rfl, 0, rfl⟩
  case round =>
    obtain ⟨k, hk, rfl, q, rfl⟩ := hrel
    by_cases hlt : k < n
    · obtain ⟨b, off, rfl, hc⟩ := h (by omega)
      obtain ⟨R, U, x, y, u, v, c0, c1, c2, c3, c4, c5⟩ := hc k hlt
      clear hc h
      have hk0 : (0 : Int) ≤ (k : Int) := Int.natCast_nonneg _
      have hk1 : (k : Int) < (n : Int) := by omega
      by_cases hm : k < 30
      · cases hI : plaIs R U
        case false =>
          have oz := order_zero
          go_wp2_with fail
          go_quiet ((go_at_call 15; exact quiet_add_left (pla_At_no _ _ _ hI)))
          go_wp2_with fail
          go_quiet ((go_at_call 16; exact quiet_add_left (ref1_May _ _ _)))
          go_wp2_with (first | (go_at_call 17; refine (law1_num _ _).mono ?_; rintro e w' ⟨rfl, rfl⟩))
          go_roundw
          case rel => exact ⟨k + 1, by omega, by go_num, _, rfl⟩
          case measure => simp [intOf]; omega
        case true =>
          have hI' := plaIs_true hI
          have o1 := order_self (n := R) (by omega)
          have o2 := order_self (n := U) (by omega)
          clear hI'
          go_wp2_with fail
          go_quiet ((go_at_call 15; exact quiet_add_left (pla_At_yes _ _ _ hI)))
          go_wp2_with fail
          go_quiet ((go_at_call 16; exact quiet_add_left (ref1_May _ _ _)))
          go_wp2_with (first | (go_at_call 17; refine (law1_num _ _).mono ?_; rintro e w' ⟨rfl, rfl⟩))
          go_quiet ((first | (go_at_call 18; exact quiet_add_left (ref1_At _ _ _)) | (go_at_call 17; exact quiet_add_left (law1_num _ _))))
          go_wp2_with fail
          go_roundw
          case rel => exact ⟨k + 1, by omega, by go_num, _, rfl⟩
          case measure => simp [intOf]; omega
      · go_wp2_with (first | (go_at_call 19; refine (law1_wakes _).mono ?_; rintro e w' ⟨rfl, rfl⟩))
        go_ret
        exact ⟨rfl, below_drewN (Below.refl _ _) _⟩
    · go_wp2_with (first | (go_at_call 19; refine (law1_wakes _).mono ?_; rintro e w' ⟨rfl, rfl⟩))
      go_ret
      exact ⟨rfl, below_drewN (Below.refl _ _) _⟩

set_option maxRecDepth 100000 in
set_option maxHeartbeats 1000000 in
theorem walk_PlaceParts {v : Value} {w : World} (ho : ∃ A n c, v = .slice A n c ∧ Asks1 w A n) :
    Calls Try.prog 6 #[v] w fun r w' => r = .returned (.bool true) ∧ Below w.heap.size w w' := by
  obtain ⟨A, n, c, rfl, hn, h⟩ := ho
  go_enter Try.func6, Try.ntmps6
  go_wp2_with fail
  go_loopw [3] (fun i wr => ∃ k : Nat, k ≤ n ∧ i = .int .i64 k ∧ ∃ q, wr = w.drewN q) (fun i _ => n - (intOf i).toNat)
  case atStart => exact ⟨0, Nat.zero_le _, rfl, 0, rfl⟩
  case round =>
    obtain ⟨k, hk, rfl, q, rfl⟩ := hrel
    by_cases hlt : k < n
    · obtain ⟨b, off, rfl, hc⟩ := h (by omega)
      obtain ⟨R, U, x, y, u, v, c0, c1, c2, c3, c4, c5⟩ := hc k hlt
      clear hc h
      have hk0 : (0 : Int) ≤ (k : Int) := Int.natCast_nonneg _
      have hk1 : (k : Int) < (n : Int) := by omega
      by_cases hm : k < 30
      · rcases parts_em x y with ⟨r, a, h1⟩ | h1
        all_goals
          have H1 := hide h1
          clear h1
        · go_wp2_with fail
          go_quiet (fail)
          go_wp2_with fail
          refine (pla_Parts_yes _ H1.out).mono ?_
          rintro e w' ⟨rfl, rfl⟩
          go_wp2_with fail
          refine (ref1_Parts_yes _ H1.out).mono ?_
          rintro e w' ⟨rfl, rfl⟩
          go_wp2_with fail
          go_wp2_with (first | (go_at_call 17; refine (law1_num _ _).mono ?_; rintro e w' ⟨rfl, rfl⟩))
          go_roundw
          case rel => exact ⟨k + 1, by omega, by go_num, _, rfl⟩
          case measure => simp [intOf]; omega
        · go_wp2_with fail
          go_quiet (fail)
          go_wp2_with fail
          refine (pla_Parts_no _ H1.out).mono ?_
          rintro e w' ⟨rfl, rfl⟩
          go_wp2_with fail
          refine (ref1_Parts_no _ H1.out).mono ?_
          rintro e w' ⟨rfl, rfl⟩
          go_wp2_with fail
          go_wp2_with (first | (go_at_call 17; refine (law1_num _ _).mono ?_; rintro e w' ⟨rfl, rfl⟩))
          go_roundw
          case rel => exact ⟨k + 1, by omega, by go_num, _, rfl⟩
          case measure => simp [intOf]; omega
      · go_wp2_with (first | (go_at_call 19; refine (law1_wakes _).mono ?_; rintro e w' ⟨rfl, rfl⟩))
        go_ret
        exact ⟨rfl, below_drewN (Below.refl _ _) _⟩
    · go_wp2_with (first | (go_at_call 19; refine (law1_wakes _).mono ?_; rintro e w' ⟨rfl, rfl⟩))
      go_ret
      exact ⟨rfl, below_drewN (Below.refl _ _) _⟩

set_option maxRecDepth 100000 in
set_option maxHeartbeats 2000000 in
theorem walk_PlaceBefore {v : Value} {w : World} (ho : ∃ A n c, v = .slice A n c ∧ Asks1 w A n) :
    Calls Try.prog 10 #[v] w fun r w' => r = .returned (.bool true) ∧ Below w.heap.size w w' := by
  obtain ⟨A, n, c, rfl, hn, h⟩ := ho
  go_enter Try.func10, Try.ntmps10
  go_wp2_with fail
  go_loopw [3] (fun i wr => ∃ k : Nat, k ≤ n ∧ i = .int .i64 k ∧ ∃ q, wr = w.drewN q) (fun i _ => n - (intOf i).toNat)
  case atStart => exact ⟨0, Nat.zero_le _, rfl, 0, rfl⟩
  case round =>
    obtain ⟨k, hk, rfl, q, rfl⟩ := hrel
    by_cases hlt : k < n
    · obtain ⟨b, off, rfl, hc⟩ := h (by omega)
      obtain ⟨R, U, x, y, u, v, c0, c1, c2, c3, c4, c5⟩ := hc k hlt
      clear hc h
      have hk0 : (0 : Int) ≤ (k : Int) := Int.natCast_nonneg _
      have hk1 : (k : Int) < (n : Int) := by omega
      by_cases hm : k < 30
      · rcases parts_em x y with ⟨r, a, h1⟩ | h1
        all_goals rcases parts_em u v with ⟨s, b', h2⟩ | h2
        all_goals
          have H1 := hide h1
          have H2 := hide h2
          clear h1 h2
        · go_wp2_with fail
          go_quiet (fail)
          go_wp2_with fail
          refine (ref1_Parts_yes _ H1.out).mono ?_
          rintro e w' ⟨rfl, rfl⟩
          go_wp2_with fail
          refine (ref1_Parts_yes _ H2.out).mono ?_
          rintro e w' ⟨rfl, rfl⟩
          go_wp2_with fail
          refine (pla_Before_yes _ H1.out H2.out).mono ?_
          rintro e w' ⟨rfl, rfl⟩
          go_wp2_with fail
          go_wp2_with (first | (go_at_call 17; refine (law1_num _ _).mono ?_; rintro e w' ⟨rfl, rfl⟩) | (go_at_call 43; refine (ref1_Before _ _ _ _ _).mono ?_; rintro e w' ⟨rfl, rfl⟩))
          go_roundw
          case rel => exact ⟨k + 1, by omega, by go_num, _, rfl⟩
          case measure => simp [intOf]; omega
        · go_wp2_with fail
          go_quiet (fail)
          go_wp2_with fail
          refine (ref1_Parts_yes _ H1.out).mono ?_
          rintro e w' ⟨rfl, rfl⟩
          go_wp2_with fail
          refine (ref1_Parts_no _ H2.out).mono ?_
          rintro e w' ⟨rfl, rfl⟩
          go_wp2_with fail
          refine (pla_Before_no _ (.inr H2.out)).mono ?_
          rintro e w' ⟨rfl, rfl⟩
          go_wp2_with fail
          go_wp2_with (first | (go_at_call 17; refine (law1_num _ _).mono ?_; rintro e w' ⟨rfl, rfl⟩))
          go_roundw
          case rel => exact ⟨k + 1, by omega, by go_num, _, rfl⟩
          case measure => simp [intOf]; omega
        · go_wp2_with fail
          go_quiet (fail)
          go_wp2_with fail
          refine (ref1_Parts_no _ H1.out).mono ?_
          rintro e w' ⟨rfl, rfl⟩
          go_wp2_with fail
          refine (ref1_Parts_yes _ H2.out).mono ?_
          rintro e w' ⟨rfl, rfl⟩
          go_wp2_with fail
          refine (pla_Before_no _ (.inl H1.out)).mono ?_
          rintro e w' ⟨rfl, rfl⟩
          go_wp2_with fail
          go_wp2_with (first | (go_at_call 17; refine (law1_num _ _).mono ?_; rintro e w' ⟨rfl, rfl⟩))
          go_roundw
          case rel => exact ⟨k + 1, by omega, by go_num, _, rfl⟩
          case measure => simp [intOf]; omega
        · go_wp2_with fail
          go_quiet (fail)
          go_wp2_with fail
          refine (ref1_Parts_no _ H1.out).mono ?_
          rintro e w' ⟨rfl, rfl⟩
          go_wp2_with fail
          refine (ref1_Parts_no _ H2.out).mono ?_
          rintro e w' ⟨rfl, rfl⟩
          go_wp2_with fail
          refine (pla_Before_no _ (.inl H1.out)).mono ?_
          rintro e w' ⟨rfl, rfl⟩
          go_wp2_with fail
          go_wp2_with (first | (go_at_call 17; refine (law1_num _ _).mono ?_; rintro e w' ⟨rfl, rfl⟩))
          go_roundw
          case rel => exact ⟨k + 1, by omega, by go_num, _, rfl⟩
          case measure => simp [intOf]; omega
      · go_wp2_with (first | (go_at_call 19; refine (law1_wakes _).mono ?_; rintro e w' ⟨rfl, rfl⟩))
        go_ret
        exact ⟨rfl, below_drewN (Below.refl _ _) _⟩
    · go_wp2_with (first | (go_at_call 19; refine (law1_wakes _).mono ?_; rintro e w' ⟨rfl, rfl⟩))
      go_ret
      exact ⟨rfl, below_drewN (Below.refl _ _) _⟩

set_option maxRecDepth 100000 in
set_option maxHeartbeats 2000000 in
theorem walk_PlaceMoves {v : Value} {w : World} (ho : ∃ A n c, v = .slice A n c ∧ Asks1 w A n) :
    Calls Try.prog 11 #[v] w fun r w' => r = .returned (.bool true) ∧ Below w.heap.size w w' := by
  obtain ⟨A, n, c, rfl, hn, h⟩ := ho
  go_enter Try.func11, Try.ntmps11
  go_wp2_with fail
  go_loopw [3] (fun i wr => ∃ k : Nat, k ≤ n ∧ i = .int .i64 k ∧ ∃ q, wr = w.drewN q) (fun i _ => n - (intOf i).toNat)
  case atStart => exact ⟨0, Nat.zero_le _, rfl, 0, rfl⟩
  case round =>
    obtain ⟨k, hk, rfl, q, rfl⟩ := hrel
    by_cases hlt : k < n
    · obtain ⟨b, off, rfl, hc⟩ := h (by omega)
      obtain ⟨R, U, x, y, u, v, c0, c1, c2, c3, c4, c5⟩ := hc k hlt
      clear hc h
      have hk0 : (0 : Int) ≤ (k : Int) := Int.natCast_nonneg _
      have hk1 : (k : Int) < (n : Int) := by omega
      by_cases hm : k < 30
      · have oz := order_zero
        have E1 := hide (parts_em x y)
        have E2 := hide (step_em u v)
        rcases E1.out with ⟨r, a, h1⟩ | h1
        all_goals rcases E2.out with ⟨s, b', h2⟩ | h2
        · obtain ⟨re, im, h3⟩ := sum_of h1 h2
          have H1 := hide h1
          have H2 := hide h2
          have H3 := hide h3
          cases hP : plaIs (r + s) (a + b')
          case false =>
            have HP := hide hP
            clear h1 h2 h3 hP
            go_wp2_with fail
            go_quiet (fail)
            go_wp2_with fail
            refine (pla_Move_no _ H1.out H2.out H3.out HP.out).mono ?_
            rintro e w' ⟨rfl, rfl⟩
            go_wp2_with fail
            refine (ref1_Move _ H1.out H2.out false HP.out).mono ?_
            rintro e w' ⟨rfl, rfl⟩
            go_wp2_with (first | (go_at_call 17; refine (law1_num _ _).mono ?_; rintro e w' ⟨rfl, rfl⟩))
            go_roundw
            case rel => exact ⟨k + 1, by omega, by go_num, _, rfl⟩
            case measure => simp [intOf]; omega
          case true =>
            have HP := hide hP
            have hb := plaIs_true hP
            have o1 : FloatKind.f64.format.order re (floatOfInt .f64 (r + s)) = some .eq := by rw [← compare_eq (r + s)]; exact order_ints h3.2.1 (val_floatOfInt (by omega))
            have o2 : FloatKind.f64.format.order im (floatOfInt .f64 (a + b')) = some .eq := by rw [← compare_eq (a + b')]; exact order_ints h3.2.2 (val_floatOfInt (by omega))
            clear h1 h2 h3 hP hb
            go_wp2_with fail
            go_quiet (fail)
            go_wp2_with fail
            refine (pla_Move_yes _ H1.out H2.out H3.out HP.out).mono ?_
            rintro e w' ⟨rfl, rfl⟩
            go_wp2_with fail
            refine (ref1_Move _ H1.out H2.out true HP.out).mono ?_
            rintro e w' ⟨rfl, rfl⟩
            go_wp2_with (first | (go_at_call 17; refine (law1_num _ _).mono ?_; rintro e w' ⟨rfl, rfl⟩))
            go_roundw
            case rel => exact ⟨k + 1, by omega, by go_num, _, rfl⟩
            case measure => simp [intOf]; omega
        · have H2 := hide h2
          clear h1 h2
          go_wp2_with fail
          go_quiet (fail)
          go_wp2_with fail
          refine (pla_Move_none _ (.inr H2.out)).mono ?_
          rintro e w' ⟨rfl, rfl⟩
          go_wp2_with fail
          refine (ref1_Move_none _ (.inr H2.out)).mono ?_
          rintro e w' ⟨rfl, rfl⟩
          go_wp2_with fail
          go_wp2_with (first | (go_at_call 17; refine (law1_num _ _).mono ?_; rintro e w' ⟨rfl, rfl⟩))
          go_roundw
          case rel => exact ⟨k + 1, by omega, by go_num, _, rfl⟩
          case measure => simp [intOf]; omega
        · have H1 := hide h1
          clear h1 h2
          go_wp2_with fail
          go_quiet (fail)
          go_wp2_with fail
          refine (pla_Move_none _ (.inl H1.out)).mono ?_
          rintro e w' ⟨rfl, rfl⟩
          go_wp2_with fail
          refine (ref1_Move_none _ (.inl H1.out)).mono ?_
          rintro e w' ⟨rfl, rfl⟩
          go_wp2_with fail
          go_wp2_with (first | (go_at_call 17; refine (law1_num _ _).mono ?_; rintro e w' ⟨rfl, rfl⟩))
          go_roundw
          case rel => exact ⟨k + 1, by omega, by go_num, _, rfl⟩
          case measure => simp [intOf]; omega
        · have H1 := hide h1
          clear h1 h2
          go_wp2_with fail
          go_quiet (fail)
          go_wp2_with fail
          refine (pla_Move_none _ (.inl H1.out)).mono ?_
          rintro e w' ⟨rfl, rfl⟩
          go_wp2_with fail
          refine (ref1_Move_none _ (.inl H1.out)).mono ?_
          rintro e w' ⟨rfl, rfl⟩
          go_wp2_with fail
          go_wp2_with (first | (go_at_call 17; refine (law1_num _ _).mono ?_; rintro e w' ⟨rfl, rfl⟩))
          go_roundw
          case rel => exact ⟨k + 1, by omega, by go_num, _, rfl⟩
          case measure => simp [intOf]; omega
      · go_wp2_with (first | (go_at_call 19; refine (law1_wakes _).mono ?_; rintro e w' ⟨rfl, rfl⟩))
        go_ret
        exact ⟨rfl, below_drewN (Below.refl _ _) _⟩
    · go_wp2_with (first | (go_at_call 19; refine (law1_wakes _).mono ?_; rintro e w' ⟨rfl, rfl⟩))
      go_ret
      exact ⟨rfl, below_drewN (Below.refl _ _) _⟩
end Go.Proofs.Ytkjdhjkmnkcgoaa
