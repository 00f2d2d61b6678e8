/-
  The walk of CommitteeLeads: at every list of records the call answers true and changes nothing that was there.
-/
import Derived.Test.YtkjdhjkmnkcgoaaComC
namespace Go.Proofs.Ytkjdhjkmnkcgoaa
open Go.RowKit

set_option maxHeartbeats 400000 in
theorem walk_CommitteeLeads {v : Value} {w : World} (ho : ∃ A n c, v = .slice A n c ∧ Asks3 w A n) :
    Calls Try.prog 4 #[v] w fun r w' => r = .returned (.bool true) ∧ Below w.heap.size w w' := by
  obtain ⟨A, n, c, rfl, hn, h⟩ := ho
  go_enter Try.func4, Try.ntmps4
  go_wp2_with fail
  go_loopw [3] (fun i wr => ∃ k : Nat, k ≤ n ∧ i = .int .i64 k ∧ Below w.heap.size w wr) (fun i _ => n - (intOf i).toNat)
  case atStart => exact ⟨0, Nat.zero_le _, rfl, Below.refl _ _⟩
  case round =>
    obtain ⟨k, hk, rfl, hb⟩ := hrel
    by_cases hlt : k < n
    · obtain ⟨b, off, rfl, hc⟩ := h (by omega)
      obtain ⟨N, R, A', n', c', xs, c0, c1, c2, _⟩ := hc k hlt
      have d0 := cell_later hb c0
      have d1 := cell_later hb c1
      have d2 := cell_later hb c2
      clear c0 c1 c2 hc h
      have hbs := hb.size
      by_cases hm : k < 30
      · cases hI : comIs N
        all_goals cases hA : comAnch R
        case true.true =>
          have h1 := comIs_true hI
          have h2 := comAnch_true hA
          go_wp2_with (first | (go_at_call 20; refine (com_Leader _ _ _).mono ?_; rintro e w' ⟨rfl, rfl⟩) | (go_at_call 21; refine (ref2_May _ _).mono ?_; rintro e w' ⟨rfl, rfl⟩) | (go_at_call 22; refine (ref2_Even _ _).mono ?_; rintro e w' ⟨rfl, rfl⟩) | (go_at_call 23; refine (ref2_Leader _ _ _ (by omega) (by omega) (by omega) (by omega)).mono ?_; rintro e w' ⟨rfl, rfl⟩) | (go_at_call 24; refine (law3_told _ _ _ _ _).mono ?_; rintro e w' ⟨rfl, rfl⟩))
          go_roundw
          case rel => exact ⟨k + 1, by omega, by go_num, hb.alloc (by omega) _⟩
          case measure => simp [intOf]; omega
        all_goals
          go_wp2_with (first | (go_at_call 20; refine (com_Leader _ _ _).mono ?_; rintro e w' ⟨rfl, rfl⟩) | (go_at_call 21; refine (ref2_May _ _).mono ?_; rintro e w' ⟨rfl, rfl⟩) | (go_at_call 22; refine (ref2_Even _ _).mono ?_; rintro e w' ⟨rfl, rfl⟩) | (go_at_call 24; refine (law3_told _ _ _ _ _).mono ?_; rintro e w' ⟨rfl, rfl⟩))
          go_roundw
          case rel => exact ⟨k + 1, by omega, by go_num, hb.alloc (by omega) _⟩
          case measure => simp [intOf]; omega
      · go_wp2_with (first | (go_at_call 25; refine (law3_wakes _).mono ?_; rintro e w' ⟨rfl, rfl⟩))
        go_ret
        exact ⟨rfl, hb⟩
    · go_wp2_with (first | (go_at_call 25; refine (law3_wakes _).mono ?_; rintro e w' ⟨rfl, rfl⟩))
      go_ret
      exact ⟨rfl, hb⟩
end Go.Proofs.Ytkjdhjkmnkcgoaa
