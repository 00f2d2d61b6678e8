/-
  The walks of CommitteeSizes and CommitteeEnough: at every list of records the calls answer true and change nothing that was there.
-/
import Derived.Test.YtkjdhjkmnkcgoaaComC
namespace Go.Proofs.Ytkjdhjkmnkcgoaa
open Go.RowKit

set_option maxHeartbeats 400000 in
theorem walk_CommitteeSizes {v : Value} {w : World} (ho : ∃ A n c, v = .slice A n c ∧ Asks3 w A n) :
    Calls Try.prog 7 #[v] w fun r w' => r = .returned (.bool true) ∧ Below w.heap.size w w' := by
  obtain ⟨A, n, c, rfl, hn, h⟩ := ho
  go_enter Try.func7, Try.ntmps7
  go_wp2_with fail
  go_loopw [3] (fun i wr => ∃ k : Nat, k ≤ n ∧ i = .int .i64 k ∧ Below w.heap.size w wr) (fun i _ => n - (intOf i).toNat)
  case atStart => exact ⟨0, Nat.zero_le _, rfl, Below.refl _ _⟩
  case round =>
    obtain ⟨k, hk, rfl, hb⟩ := hrel
    by_cases hlt : k < n
    · obtain ⟨b, off, rfl, hc⟩ := h (by omega)
      obtain ⟨N, R, A', n', c', xs, c0, c1, c2, hs, hn'⟩ := hc k hlt
      have d0 := cell_later hb c0
      have d1 := cell_later hb c1
      have d2 := cell_later hb c2
      have hs' := hs.below hb
      clear c0 c1 c2 hc h hs
      have hbs := hb.size
      by_cases hm : k < 30
      · cases hI : comIs N
        case true =>
          go_wp2_with (first | (go_at_call 29; refine (com_Faults _ _).mono ?_; rintro e w' ⟨rfl, rfl⟩) | (go_at_call 30; refine (com_Quorum _ _).mono ?_; rintro e w' ⟨rfl, rfl⟩) | (go_at_call 31; refine (com_Few _ _).mono ?_; rintro e w' ⟨rfl, rfl⟩) | (go_at_call 32; refine (com_Check _ _).mono ?_; rintro e w' ⟨rfl, rfl⟩) | (go_at_call 21; refine (ref2_May _ _).mono ?_; rintro e w' ⟨rfl, rfl⟩) | (go_at_call 33; refine (ref2_Faults _ _ hI).mono ?_; rintro e w' ⟨rfl, rfl⟩) | (go_at_call 34; refine (ref2_Quorum _ _ hI).mono ?_; rintro e w' ⟨rfl, rfl⟩) | (go_at_call 35; refine (ref2_Few _ _ hI).mono ?_; rintro e w' ⟨rfl, rfl⟩) | (go_at_call 24; refine (law3_told _ _ _ _ _).mono ?_; rintro e w' ⟨rfl, rfl⟩) | (go_at_call 26; refine (law3_num _ _).mono ?_; rintro e w' ⟨rfl, rfl⟩))
          go_roundw
          case rel => exact ⟨k + 1, by omega, by go_num, hb⟩
          case measure => simp [intOf]; omega
        case false =>
          go_wp2_with (first | (go_at_call 29; refine (com_Faults _ _).mono ?_; rintro e w' ⟨rfl, rfl⟩) | (go_at_call 30; refine (com_Quorum _ _).mono ?_; rintro e w' ⟨rfl, rfl⟩) | (go_at_call 31; refine (com_Few _ _).mono ?_; rintro e w' ⟨rfl, rfl⟩) | (go_at_call 32; refine (com_Check _ _).mono ?_; rintro e w' ⟨rfl, rfl⟩) | (go_at_call 21; refine (ref2_May _ _).mono ?_; rintro e w' ⟨rfl, rfl⟩) | (go_at_call 33; refine (ref2_Faults_any _ _).mono ?_; rintro e w' ⟨⟨z1, rfl⟩, rfl⟩) | (go_at_call 34; refine (ref2_Quorum_any _ _).mono ?_; rintro e w' ⟨⟨z2, rfl⟩, rfl⟩) | (go_at_call 35; refine (ref2_Few_any _ _).mono ?_; rintro e w' ⟨⟨z3, rfl⟩, rfl⟩) | (go_at_call 24; refine (law3_told _ _ _ _ _).mono ?_; rintro e w' ⟨rfl, rfl⟩) | (go_at_call 26; refine (law3_num _ _).mono ?_; rintro e w' ⟨rfl, rfl⟩))
          go_roundw
          case rel => exact ⟨k + 1, by omega, by go_num, hb⟩
          case measure => simp [intOf]; omega
      · go_wp2_with (first | (go_at_call 25; refine (law3_wakes _).mono ?_; rintro e w' ⟨rfl, rfl⟩))
        go_ret
        exact ⟨rfl, hb⟩
    · go_wp2_with (first | (go_at_call 25; refine (law3_wakes _).mono ?_; rintro e w' ⟨rfl, rfl⟩))
      go_ret
      exact ⟨rfl, hb⟩

set_option maxRecDepth 100000 in
set_option maxHeartbeats 1000000 in
theorem walk_CommitteeEnough {v : Value} {w : World} (ho : ∃ A n c, v = .slice A n c ∧ Asks3 w A n) :
    Calls Try.prog 8 #[v] w fun r w' => r = .returned (.bool true) ∧ Below w.heap.size w w' := by
  obtain ⟨A, n, c, rfl, hn, h⟩ := ho
  go_enter Try.func8, Try.ntmps8
  go_wp2_with fail
  go_loopw [3] (fun i wr => ∃ k : Nat, k ≤ n ∧ i = .int .i64 k ∧ Below w.heap.size w wr) (fun i _ => n - (intOf i).toNat)
  case atStart => exact ⟨0, Nat.zero_le _, rfl, Below.refl _ _⟩
  case round =>
    obtain ⟨k, hk, rfl, hb⟩ := hrel
    by_cases hlt : k < n
    · obtain ⟨b, off, rfl, hc⟩ := h (by omega)
      obtain ⟨N, R, A', n', c', xs, c0, c1, c2, hs, hn'⟩ := hc k hlt
      have d0 := cell_later hb c0
      have d1 := cell_later hb c1
      have d2 := cell_later hb c2
      have hs' := hs.below hb
      clear c0 c1 c2 hc h hs
      have hbs := hb.size
      by_cases hm : k < 30
      · by_cases hh : 300 < n'
        · have hd : decide (300 < n') = true := by simpa using hh
          go_wp2_with (first | (go_at_call 36; refine (law3_heavy _ _ _ _ _ _ hn').mono ?_; rintro e w1 ⟨rfl, hb1⟩))
          go_ret
          exact ⟨rfl, (hb.alloc hbs _).trans (hb1.mono (by simp; omega))⟩
        · have hd : decide (300 < n') = false := by simpa using hh
          have HB0 : Blk (wr.alloc (.cells #[.int .i64 N, .int .i64 R, .slice A' n' c'] 39)) wr.heap.size 39 #[.int .i64 N, .int .i64 R, .slice A' n' c'] := Blk.new _ _ _
          cases hI : comIs N
          case false =>
            have hE : enoughB N xs = false := by simp [enoughB, hI]
            have hS : someB N xs = false := by simp [someB, hI]
            go_wp2_with (first
              | (go_at_call 36; refine (law3_heavy _ _ _ _ _ _ hn').mono ?_; rintro e w1 ⟨rfl, hb1⟩
                 have B1 := HB0.later hb1; have e0 := B1.at_ (i := 0) rfl; have e2 := B1.at_ (i := 2) rfl
                 have s1 := (hs'.alloc (.cells #[.int .i64 N, .int .i64 R, .slice A' n' c'] 39)).below hb1)
              | (go_at_call 37; refine (ref0_CopyNumbers _ _ _ _ _ s1 hn' (by omega)).mono ?_; rintro e w2 ⟨v, rfl, hown, hb2⟩
                 obtain ⟨A2, c2, rfl⟩ := own_slice hown
                 have B2 := B1.later hb2; have f0 := B2.at_ (i := 0) rfl; have f2 := B2.at_ (i := 2) rfl
                 have s2 := s1.below hb2; have t2 := Sl.of_own hown)
              | (go_at_call 21; refine (ref2_May _ _).mono ?_; rintro e w' ⟨rfl, rfl⟩)
              | (go_at_call 38; refine (com_Enough _ _ _ _ _ _ t2 hn').mono ?_; rintro e w3 ⟨rfl, hb3⟩
                 have B3 := B2.later hb3; have g0 := B3.at_ (i := 0) rfl; have g2 := B3.at_ (i := 2) rfl
                 have s3 := s2.below hb3; have t3 := t2.below hb3)
              | (go_at_call 39; refine (com_Some _ _ _ _ _ _ t3 hn').mono ?_; rintro e w4 ⟨rfl, hb4⟩
                 have B4 := B3.later hb4; have h0 := B4.at_ (i := 0) rfl; have h2 := B4.at_ (i := 2) rfl
                 have s4 := s3.below hb4; have t4 := t3.below hb4)
              | (go_at_call 26; refine (law3_num _ _).mono ?_; rintro e w' ⟨rfl, rfl⟩)
              | (go_at_call 40; refine (ref0_EqNumbers _ _ _ _ _ _ _ _ _ t4 hn' s4 hn').mono ?_; rintro e w5 ⟨rfl, q, rfl⟩))
            go_quiet (fail)
            go_wp2_with fail
            go_roundw
            case rel => exact ⟨k + 1, by omega, by go_num, below_drewN ((((hb.alloc hbs _).trans (hb1.mono (by simp; omega))).trans (hb2.mono (by have := hb1.size; simp at this; omega))).trans (hb3.mono (by have := hb1.size; have := hb2.size; simp at *; omega)) |>.trans (hb4.mono (by have := hb1.size; have := hb2.size; have := hb3.size; simp at *; omega))) _⟩
            case measure => simp [intOf]; omega
          case true =>
            have hE : enoughB N xs = decide (2 * ((N - 1) / 3) + 1 ≤ (cnt N.toNat xs : Int)) := by simp [enoughB, hI]
            have hS : someB N xs = decide ((N - 1) / 3 + 1 ≤ (cnt N.toNat xs : Int)) := by simp [someB, hI]; omega
            have hN := comIs_true hI
            go_wp2_with (first
              | (go_at_call 36; refine (law3_heavy _ _ _ _ _ _ hn').mono ?_; rintro e w1 ⟨rfl, hb1⟩
                 have B1 := HB0.later hb1; have e0 := B1.at_ (i := 0) rfl; have e2 := B1.at_ (i := 2) rfl
                 have s1 := (hs'.alloc (.cells #[.int .i64 N, .int .i64 R, .slice A' n' c'] 39)).below hb1)
              | (go_at_call 37; refine (ref0_CopyNumbers _ _ _ _ _ s1 hn' (by omega)).mono ?_; rintro e w2 ⟨v, rfl, hown, hb2⟩
                 obtain ⟨A2, c2, rfl⟩ := own_slice hown
                 have B2 := B1.later hb2; have f0 := B2.at_ (i := 0) rfl; have f2 := B2.at_ (i := 2) rfl
                 have s2 := s1.below hb2; have t2 := Sl.of_own hown)
              | (go_at_call 21; refine (ref2_May _ _).mono ?_; rintro e w' ⟨rfl, rfl⟩)
              | (go_at_call 38; refine (com_Enough _ _ _ _ _ _ t2 hn').mono ?_; rintro e w3 ⟨rfl, hb3⟩
                 have B3 := B2.later hb3; have g0 := B3.at_ (i := 0) rfl; have g2 := B3.at_ (i := 2) rfl
                 have s3 := s2.below hb3; have t3 := t2.below hb3)
              | (go_at_call 39; refine (com_Some _ _ _ _ _ _ t3 hn').mono ?_; rintro e w4 ⟨rfl, hb4⟩
                 have B4 := B3.later hb4; have h0 := B4.at_ (i := 0) rfl; have h2 := B4.at_ (i := 2) rfl
                 have s4 := s3.below hb4; have t4 := t3.below hb4)
              | (go_at_call 26; refine (law3_num _ _).mono ?_; rintro e w' ⟨rfl, rfl⟩)
              | (go_at_call 40; refine (ref0_EqNumbers _ _ _ _ _ _ _ _ _ t4 hn' s4 hn').mono ?_; rintro e w5 ⟨rfl, q, rfl⟩))
            go_quiet ((first
              | (go_at_call 41; exact quiet_add_left (ref2_Count_int _ _ _ _ _ _ (s4.drewN _) hn' (by omega) (by omega)))
              | (go_at_call 34; exact quiet_add_left (ref2_Quorum _ _ hI))
              | (go_at_call 35; exact quiet_add_left (ref2_Few _ _ hI))))
            go_wp2_with fail
            go_roundw
            case rel => exact ⟨k + 1, by omega, by go_num, below_drewN ((((hb.alloc hbs _).trans (hb1.mono (by simp; omega))).trans (hb2.mono (by have := hb1.size; simp at this; omega))).trans (hb3.mono (by have := hb1.size; have := hb2.size; simp at *; omega)) |>.trans (hb4.mono (by have := hb1.size; have := hb2.size; have := hb3.size; simp at *; omega))) _⟩
            case measure => simp [intOf]; omega
      · go_wp2_with (first | (go_at_call 25; refine (law3_wakes _).mono ?_; rintro e w' ⟨rfl, rfl⟩))
        go_ret
        exact ⟨rfl, hb⟩
    · go_wp2_with (first | (go_at_call 25; refine (law3_wakes _).mono ?_; rintro e w' ⟨rfl, rfl⟩))
      go_ret
      exact ⟨rfl, hb⟩

end Go.Proofs.Ytkjdhjkmnkcgoaa
