/-
  The walk of CommitteeTurns: at every list of records the call answers true and changes nothing that was there.
-/
import Derived.Test.YtkjdhjkmnkcgoaaComC
namespace Go.Proofs.Ytkjdhjkmnkcgoaa
open Go.RowKit

theorem com_Leader_yes (n r : Int) (w : World) (h1 : comIs n = true) (h2 : comAnch r = true) :
    Calls Try.prog 20 #[.int .i64 n, .int .i64 r] w fun e w' => e = .returned (.tuple #[.int .i64 (comLead n r), .int .i64 0]) ∧ w = w' := by
  have h := com_Leader n r w
  rw [h1, h2] at h
  exact h
theorem com_Leader_no (n r : Int) (w : World) (h : comAnch r = false) :
    Calls Try.prog 20 #[.int .i64 n, .int .i64 r] w fun e w' => e = .returned (.tuple #[.int .i64 0, .int .i64 1]) ∧ w = w' := by
  have h' := com_Leader n r w
  rw [h, Bool.and_false] at h'
  exact h'
theorem comAnch_mk {r : Int} (h : 2 ≤ r ∧ r ≤ 1099511627776 ∧ r % 2 = 0) : comAnch r = true := by simpa [comAnch] using h
theorem comAnch_no {r : Int} (h : ¬ (2 ≤ r ∧ r ≤ 1099511627776 ∧ r % 2 = 0)) : comAnch r = false := by simpa [comAnch] using h
theorem comLead_round (n r : Int) (h : r % 2 = 0) : comLead n (r + 2 * n) = comLead n r := by
  unfold comLead
  have e : (r + 2 * n) / 2 - 1 = r / 2 - 1 + n := by omega
  rw [e, Int.add_emod_right]
theorem comLead_next (n r : Int) (h : r % 2 = 0) : comLead n (r + 2) = comLead n r % n + 1 := by
  unfold comLead
  have e : (r + 2) / 2 - 1 = r / 2 - 1 + 1 := by omega
  rw [e, Int.emod_add_emod]
theorem comLead_first (n : Int) : comLead n 2 = 1 := by
  unfold comLead
  have e : (2 : Int) / 2 - 1 = 0 := by decide
  rw [e, Int.zero_emod]; rfl
theorem comLead_bd (n r : Int) (h : 1 ≤ n) (h2 : n ≤ 16) : 1 ≤ comLead n r ∧ comLead n r ≤ 16 := by
  have b1 := Int.emod_nonneg (r / 2 - 1) (show n ≠ 0 by omega)
  have b2 := Int.emod_lt_of_pos (r / 2 - 1) (show 0 < n by omega)
  unfold comLead; omega

theorem comLead_bd2 (n r : Int) (h : 1 ≤ n) (h2 : n ≤ 16) : 0 ≤ comLead n r % n ∧ comLead n r % n ≤ 16 := by
  have b1 := Int.emod_nonneg (comLead n r) (show n ≠ 0 by omega)
  have b2 := Int.emod_lt_of_pos (comLead n r) (show 0 < n by omega)
  omega

set_option maxRecDepth 100000 in
set_option maxHeartbeats 1000000 in
theorem walk_CommitteeTurns {v : Value} {w : World} (ho : ∃ A n c, v = .slice A n c ∧ Asks3 w A n) :
    Calls Try.prog 5 #[v] w fun r w' => r = .returned (.bool true) ∧ Below w.heap.size w w' := by
  obtain ⟨A, len, c, rfl, hn, hx⟩ := ho
  clear hx
  go_enter Try.func5, Try.ntmps5
  go_wp2_with fail
  go_loop [3] (fun i => ∃ n : Int, 1 ≤ n ∧ n ≤ 19 ∧ n % 3 = 1 ∧ i = .int .i64 n) (fun i => 20 - (intOf i).toNat)
  case atStart => exact ⟨1, by omega, by omega, by omega, rfl⟩
  case round =>
    obtain ⟨n, hn1, hn2, hn3, rfl⟩ := hrel
    have HM := hide hn3
    by_cases hle : n ≤ 16
    · have hI := comIs_mk ⟨hn1, hle, hn3⟩
      clear hn3
      go_wp2_with fail
      go_loop [4] (fun i => ∃ r : Nat, r ≤ 100 ∧ i = .int .i64 r) (fun i => 100 - (intOf i).toNat)
      case atStart => exact ⟨0, by omega, rfl⟩
      case round =>
        obtain ⟨r, hr, rfl⟩ := hrel
        by_cases hlt : r < 100
        · by_cases hA : 2 ≤ (r : Int) ∧ (r : Int) ≤ 1099511627776 ∧ (r : Int) % 2 = 0
          · obtain ⟨a1, a2, a3⟩ := hA
            have hA1 := comAnch_mk ⟨a1, a2, a3⟩
            have hA2 : comAnch ((r : Int) + 2 * n) = true := comAnch_mk ⟨by omega, by omega, by omega⟩
            have hA3 : comAnch ((r : Int) + 2) = true := comAnch_mk ⟨by omega, by omega, by omega⟩
            have hL1 := comLead_round n r a3
            have hL2 := comLead_next n r a3
            have hbd := comLead_bd n r hn1 hle
            have hbd2 := comLead_bd2 n r hn1 hle
            have hm1 : ((r : Int) % 2 == 1) = false := by simp; omega
            have hm2 : ((r : Int) == 0) = false := by simp; omega
            clear a3
            go_wp2_with (first
              | (go_at_call 20; refine (com_Leader_yes _ _ _ hI (by assumption)).mono ?_; rintro e w' ⟨rfl, rfl⟩)
              | (go_at_call 26; refine (law3_num _ _).mono ?_; rintro e w' ⟨rfl, rfl⟩))
            go_round
            case rel => exact ⟨r + 1, by omega, by go_num⟩
            case measure => simp [intOf]; omega
          · have hA1 := comAnch_no hA
            have hm : ((r : Int) % 2 == 1) = true ∨ (((r : Int) % 2 == 1) = false ∧ ((r : Int) == 0) = true) := by
              by_cases h : (r : Int) % 2 = 1
              · exact .inl (by simpa using h)
              · exact .inr ⟨by simpa using h, by simp; omega⟩
            clear hA
            rcases hm with hm | ⟨hm1, hm2⟩
            · go_wp2_with (first | (go_at_call 20; refine (com_Leader_no _ _ _ hA1).mono ?_; rintro e w' ⟨rfl, rfl⟩) | (go_at_call 26; refine (law3_num _ _).mono ?_; rintro e w' ⟨rfl, rfl⟩))
              go_round
              case rel => exact ⟨r + 1, by omega, by go_num⟩
              case measure => simp [intOf]; omega
            · obtain rfl : r = 0 := by simpa using hm2
              go_wp2_with (first | (go_at_call 20; refine (com_Leader_no _ _ _ hA1).mono ?_; rintro e w' ⟨rfl, rfl⟩) | (go_at_call 26; refine (law3_num _ _).mono ?_; rintro e w' ⟨rfl, rfl⟩))
              go_round
              case rel => exact ⟨0 + 1, by omega, by go_num⟩
              case measure => simp [intOf]
        · have hA1 : comAnch 2 = true := by decide
          have hF := comLead_first n
          go_wp2_with (first | (go_at_call 20; refine (com_Leader_yes _ _ _ hI hA1).mono ?_; rintro e w' ⟨rfl, rfl⟩) | (go_at_call 26; refine (law3_num _ _).mono ?_; rintro e w' ⟨rfl, rfl⟩))
          go_round
          case rel => exact ⟨n + 3, by omega, by omega, by have := HM.out; omega, by go_num⟩
          case measure => simp [intOf]; omega
    · clear hn3
      go_wp2_with (first | (go_at_call 25; refine (law3_wakes _).mono ?_; rintro e w' ⟨rfl, rfl⟩))
      go_ret
      exact ⟨rfl, Below.refl _ _⟩
end Go.Proofs.Ytkjdhjkmnkcgoaa
