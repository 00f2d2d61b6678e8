/-
  The walk of PlaceBack: at every list of records the call answers true and changes nothing that was there.
-/
import Derived.Test.YtkjdhjkmnkcgoaaPle
namespace Go.Proofs.Ytkjdhjkmnkcgoaa
open Go.RowKit

/-- The way from one place to another, as the program reckons it. -/
theorem diff_of {x y u v : Nat} {r a s b : Int} (h1 : partsIs x y r a) (h2 : partsIs u v s b) : ∃ re im, cSumBits .sub .f64 x y u v = some (re, im) ∧ stepIs re im (r - s) (a - b) := by
  obtain ⟨⟨v1, l1, l2⟩, ⟨v2, l3, l4⟩⟩ := h1
  obtain ⟨⟨v3, l5, l6⟩, ⟨v4, l7, l8⟩⟩ := h2
  obtain ⟨re, e1, f1⟩ := sub_val v1 v3 (by omega) (by omega)
  obtain ⟨im, e2, f2⟩ := sub_val v2 v4 (by omega) (by omega)
  refine ⟨re, im, ?_, ⟨f1, by omega, by omega⟩, ⟨f2, by omega, by omega⟩⟩
  unfold cSumBits
  have e1' : floatBits .sub .f64 x u = some re := e1
  have e2' : floatBits .sub .f64 y v = some im := e2
  rw [e1', e2']
  rfl
theorem order_parts {x y u v : Nat} {r a s b : Int} (h1 : partsIs x y r a) (h2 : partsIs u v s b) : FloatKind.f64.format.order x u = some (compare r s) ∧ FloatKind.f64.format.order y v = some (compare a b) :=
  ⟨order_ints h1.1.1 h2.1.1, order_ints h1.2.1 h2.2.1⟩
theorem order_same {x y u v : Nat} {r a : Int} (h1 : partsIs x y r a) (h2 : partsIs u v r a) : FloatKind.f64.format.order x u = some .eq ∧ FloatKind.f64.format.order y v = some .eq := by
  have h := order_parts h1 h2
  rw [compare_eq, compare_eq] at h
  exact h
/-- Of two places: they are one, or just one of them is ahead: as the program's own tests show it. -/
def Apart2 (A B : Nat × Nat) (r a s b : Int) (e1 e2 : Option Ordering) (p q : Bool) : Prop :=
  FloatKind.f64.format.order A.1 B.1 = e1 ∧ FloatKind.f64.format.order A.2 B.2 = e2 ∧ befB r a s b = p ∧ befB s b r a = q
theorem apart_em {x y u v : Nat} {r a s b : Int} (h1 : partsIs x y r a) (h2 : partsIs u v s b) :
    Apart2 (x, y) (u, v) r a s b (some .lt) (some (compare a b)) true false ∨ Apart2 (x, y) (u, v) r a s b (some .gt) (some (compare a b)) false true ∨ Apart2 (x, y) (u, v) r a s b (some .eq) (some .lt) true false ∨
    Apart2 (x, y) (u, v) r a s b (some .eq) (some .gt) false true ∨ Apart2 (x, y) (u, v) r a s b (some .eq) (some .eq) false false := by
  obtain ⟨o1, o2⟩ := order_parts h1 h2
  rcases Int.lt_trichotomy r s with g | g | g
  · rw [compare_lt g] at o1
    exact .inl ⟨o1, o2, by simp [befB, g], by simp [befB]; omega⟩
  · subst g
    rw [compare_eq] at o1
    rcases Int.lt_trichotomy a b with k | k | k
    · rw [compare_lt k] at o2
      exact .inr (.inr (.inl ⟨o1, o2, by simp [befB, k], by simp [befB]; omega⟩))
    · subst k
      rw [compare_eq] at o2
      exact .inr (.inr (.inr (.inr ⟨o1, o2, by simp [befB], by simp [befB]⟩)))
    · rw [compare_gt k] at o2
      exact .inr (.inr (.inr (.inl ⟨o1, o2, by simp [befB]; omega, by simp [befB, k]⟩)))
  · rw [compare_gt g] at o1
    exact .inr (.inl ⟨o1, o2, by simp [befB]; omega, by simp [befB, g]⟩)

set_option maxRecDepth 100000 in
set_option maxHeartbeats 4000000 in
theorem walk_PlaceBack {v : Value} {w : World} (ho : ∃ A n c, v = .slice A n c ∧ Asks1 w A n) :
    Calls Try.prog 13 #[v] w fun r w' => r = .returned (.bool true) ∧ Below w.heap.size w w' := by
  obtain ⟨A, n, c, rfl, hn, h⟩ := ho
  go_enter Try.func13, Try.ntmps13
  go_wp2_with fail
  go_loopw [3] (fun i wr => ∃ k : Nat, k ≤ 30 ∧ i = .int .i64 k ∧ ∃ q, wr = w.drewN q) (fun i _ => 30 - (intOf i).toNat)
  case atStart => exact ⟨0, Nat.zero_le _, rfl, 0, rfl⟩
  case round =>
    obtain ⟨k, hk, rfl, q, rfl⟩ := hrel
    by_cases hlt : k + 1 < n
    · obtain ⟨b, off, rfl, hc⟩ := h (by omega)
      obtain ⟨R, U, _, _, _, _, c0, c1, _, _, _, _⟩ := hc k (by omega)
      obtain ⟨S, V, _, _, _, _, d0, d1, _, _, _, _⟩ := hc (k + 1) hlt
      clear hc h
      have hk0 : (0 : Int) ≤ (k : Int) := Int.natCast_nonneg _
      have hk1 : (k : Int) + 1 < (n : Int) := by omega
      by_cases hm : k < 30
      · cases hI : plaIs R U
        case false =>
          have HI := hide hI
          cases hJ : plaIs S V
          case false =>
            have HJ := hide hJ
            clear hI hJ
            go_wp2_with fail
            go_quiet ((go_at_call 15; exact quiet_add_left (pla_At_no _ _ _ HI.out)))
            go_wp2_with fail
            go_quiet ((go_at_call 15; exact quiet_add_left (pla_At_no _ _ _ HJ.out)))
            go_wp2_with (first | (go_at_call 17; refine (law1_num _ _).mono ?_; rintro e w' ⟨rfl, rfl⟩))
            go_roundw
            case rel => exact ⟨k + 1, by omega, by go_num, _, rfl⟩
            case measure => simp [intOf]; omega
          case true =>
            have HJ := hide hJ
            clear hI hJ
            go_wp2_with fail
            go_quiet ((go_at_call 15; exact quiet_add_left (pla_At_no _ _ _ HI.out)))
            go_wp2_with fail
            go_quiet ((go_at_call 15; exact quiet_add_left (pla_At_yes _ _ _ HJ.out)))
            go_wp2_with (first | (go_at_call 17; refine (law1_num _ _).mono ?_; rintro e w' ⟨rfl, rfl⟩))
            go_roundw
            case rel => exact ⟨k + 1, by omega, by go_num, _, rfl⟩
            case measure => simp [intOf]; omega
        case true =>
          have HI := hide hI
          cases hJ : plaIs S V
          case false =>
            have HJ := hide hJ
            clear hI hJ
            go_wp2_with fail
            go_quiet ((go_at_call 15; exact quiet_add_left (pla_At_yes _ _ _ HI.out)))
            go_wp2_with fail
            go_quiet ((go_at_call 15; exact quiet_add_left (pla_At_no _ _ _ HJ.out)))
            go_wp2_with (first | (go_at_call 17; refine (law1_num _ _).mono ?_; rintro e w' ⟨rfl, rfl⟩))
            go_roundw
            case rel => exact ⟨k + 1, by omega, by go_num, _, rfl⟩
            case measure => simp [intOf]; omega
          case true =>
            have HJ := hide hJ
            have bI := plaIs_true hI
            have bJ := plaIs_true hJ
            clear hI hJ
            have HA := hide (parts_mk (val_floatOfInt (n := R) (by omega)) (val_floatOfInt (n := U) (by omega)) HI.out)
            have HB := hide (parts_mk (val_floatOfInt (n := S) (by omega)) (val_floatOfInt (n := V) (by omega)) HJ.out)
            obtain ⟨x1, y1, hs1, ht1⟩ := diff_of HB.out HA.out
            obtain ⟨x2, y2, hs2, ht2⟩ := diff_of HA.out HB.out
            have hsub1 := fun W : World => run_complex_sum (P := Try.prog) W .sub (.inr rfl) 23 .f64 _ _ _ _ _ _ hs1
            have hsub2 := fun W : World => run_complex_sum (P := Try.prog) W .sub (.inr rfl) 23 .f64 _ _ _ _ _ _ hs2
            have HT1 := hide ht1
            have HT2 := hide ht2
            obtain ⟨re1, im1, hu1⟩ := sum_of HA.out HT1.out
            have HU1 := hide hu1
            have HP1 : Hid (plaIs (R + (S - R)) (U + (V - U)) = true) := plaIs_mk (by omega)
            have hc1 : partsIs re1 im1 S V := by have := sum_parts HU1.out HP1.out; rwa [show R + (S - R) = S by omega, show U + (V - U) = V by omega] at this
            have HC1 := hide hc1
            obtain ⟨re2, im2, hu2⟩ := sum_of HC1.out HT2.out
            have HU2 := hide hu2
            have HP2 : Hid (plaIs (S + (R - S)) (V + (U - V)) = true) := plaIs_mk (by omega)
            have hc2 : partsIs re2 im2 R U := by have := sum_parts HU2.out HP2.out; rwa [show S + (R - S) = R by omega, show V + (U - V) = U by omega] at this
            obtain ⟨q1, q2⟩ := order_same hc1 HB.out
            obtain ⟨q3, q4⟩ := order_same hc2 HA.out
            have HT3 : Hid (stepIs 4607182418800017408 0 1 0) := step_mk val_1 val_0 (by omega)
            obtain ⟨re3, im3, hu3⟩ := sum_of HA.out HT3.out
            have HU3 := hide hu3
            have HE := hide (apart_em HA.out HB.out)
            clear hs1 hs2 ht1 ht2 hu1 hu2 hu3 hc1 hc2
            obtain ⟨bI1, bI2, bI3, bI4⟩ := bI
            obtain ⟨bJ1, bJ2, bJ3, bJ4⟩ := bJ
            by_cases hR : R = 1099511627776
            · have HP3 : Hid (plaIs (R + 1) (U + 0) = false) := plaIs_no (by omega)
              subst hR
              rcases HE.out with hE | hE | hE | hE | hE
              all_goals
                obtain ⟨e1, e2, e3, e4⟩ := hE
                simp only at e1 e2
                go_wp2_with fail
                go_quiet ((go_at_call 15; exact quiet_add_left (pla_At_yes _ _ _ HI.out)))
                go_wp2_with fail
                go_quiet ((go_at_call 15; exact quiet_add_left (pla_At_yes _ _ _ HJ.out)))
                go_wp2_with (first | (go_at_call 17; refine (law1_num _ _).mono ?_; rintro e w' ⟨rfl, rfl⟩))
                refine (pla_Parts_yes _ HA.out).mono ?_
                rintro e w' ⟨rfl, rfl⟩
                go_wp2_with (first | (go_at_call 17; refine (law1_num _ _).mono ?_; rintro e w' ⟨rfl, rfl⟩))
                refine (pla_Move_yes _ HA.out HT1.out HU1.out HP1.out).mono ?_
                rintro e w' ⟨rfl, rfl⟩
                go_wp2_with (first | (go_at_call 17; refine (law1_num _ _).mono ?_; rintro e w' ⟨rfl, rfl⟩))
                refine (pla_Move_yes _ HC1.out HT2.out HU2.out HP2.out).mono ?_
                rintro e w' ⟨rfl, rfl⟩
                go_wp2_with (first | (go_at_call 17; refine (law1_num _ _).mono ?_; rintro e w' ⟨rfl, rfl⟩))
                refine (pla_Before_yes _ HA.out HB.out).mono ?_
                rintro e w' ⟨rfl, rfl⟩
                go_wp2_with (first | (go_at_call 17; refine (law1_num _ _).mono ?_; rintro e w' ⟨rfl, rfl⟩))
                refine (pla_Before_yes _ HB.out HA.out).mono ?_
                rintro e w' ⟨rfl, rfl⟩
                go_wp2_with (first | (go_at_call 17; refine (law1_num _ _).mono ?_; rintro e w' ⟨rfl, rfl⟩))
                refine (pla_Move_no _ HA.out HT3.out HU3.out HP3.out).mono ?_
                rintro e w' ⟨rfl, rfl⟩
                go_wp2_with (first | (go_at_call 17; refine (law1_num _ _).mono ?_; rintro e w' ⟨rfl, rfl⟩))
                go_roundw
                case rel => exact ⟨k + 1, by omega, by go_num, _, rfl⟩
                case measure => simp [intOf]; omega
            · have HP3 : Hid (plaIs (R + 1) (U + 0) = true) := plaIs_mk (by omega)
              have hc3 := sum_parts HU3.out HP3.out
              rw [Int.add_zero] at hc3
              have HC3 := hide hc3
              clear hc3
              have hR' : (R == 1099511627776) = false := by simpa using hR
              have hup : befB R U (R + 1) U = true := by simp [befB]; omega
              clear hR
              rcases HE.out with hE | hE | hE | hE | hE
              all_goals
                obtain ⟨e1, e2, e3, e4⟩ := hE
                simp only at e1 e2
                go_wp2_with fail
                go_quiet ((go_at_call 15; exact quiet_add_left (pla_At_yes _ _ _ HI.out)))
                go_wp2_with fail
                go_quiet ((go_at_call 15; exact quiet_add_left (pla_At_yes _ _ _ HJ.out)))
                go_wp2_with (first | (go_at_call 17; refine (law1_num _ _).mono ?_; rintro e w' ⟨rfl, rfl⟩))
                refine (pla_Parts_yes _ HA.out).mono ?_
                rintro e w' ⟨rfl, rfl⟩
                go_wp2_with (first | (go_at_call 17; refine (law1_num _ _).mono ?_; rintro e w' ⟨rfl, rfl⟩))
                refine (pla_Move_yes _ HA.out HT1.out HU1.out HP1.out).mono ?_
                rintro e w' ⟨rfl, rfl⟩
                go_wp2_with (first | (go_at_call 17; refine (law1_num _ _).mono ?_; rintro e w' ⟨rfl, rfl⟩))
                refine (pla_Move_yes _ HC1.out HT2.out HU2.out HP2.out).mono ?_
                rintro e w' ⟨rfl, rfl⟩
                go_wp2_with (first | (go_at_call 17; refine (law1_num _ _).mono ?_; rintro e w' ⟨rfl, rfl⟩))
                refine (pla_Before_yes _ HA.out HB.out).mono ?_
                rintro e w' ⟨rfl, rfl⟩
                go_wp2_with (first | (go_at_call 17; refine (law1_num _ _).mono ?_; rintro e w' ⟨rfl, rfl⟩))
                refine (pla_Before_yes _ HB.out HA.out).mono ?_
                rintro e w' ⟨rfl, rfl⟩
                go_wp2_with (first | (go_at_call 17; refine (law1_num _ _).mono ?_; rintro e w' ⟨rfl, rfl⟩))
                refine (pla_Move_yes _ HA.out HT3.out HU3.out HP3.out).mono ?_
                rintro e w' ⟨rfl, rfl⟩
                go_wp2_with (first | (go_at_call 17; refine (law1_num _ _).mono ?_; rintro e w' ⟨rfl, rfl⟩))
                refine (pla_Before_yes _ HA.out HC3.out).mono ?_
                rintro e w' ⟨rfl, rfl⟩
                go_wp2_with (first | (go_at_call 17; refine (law1_num _ _).mono ?_; rintro e w' ⟨rfl, rfl⟩))
                go_roundw
                case rel => exact ⟨k + 1, by omega, by go_num, _, rfl⟩
                case measure => simp [intOf]; omega
      · go_wp2_with (first | (go_at_call 19; refine (law1_wakes _).mono ?_; rintro e w' ⟨rfl, rfl⟩))
        go_ret
        exact ⟨rfl, below_drewN (Below.refl _ _) _⟩
    · go_wp2_with (first | (go_at_call 19; refine (law1_wakes _).mono ?_; rintro e w' ⟨rfl, rfl⟩))
      go_ret
      exact ⟨rfl, below_drewN (Below.refl _ _) _⟩
end Go.Proofs.Ytkjdhjkmnkcgoaa
