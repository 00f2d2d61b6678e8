/-
  Contracts: which headers and certificates may be: the program's and the reference's.
-/
import Derived.Test.YtihpmaifcebpiaaHdr
import Derived.Test.YtihpmaifcebpiaaW0
import Derived.Deep.RegionHeld3
namespace Go.Proofs.Ytihpmaifcebpiaa
open Go.RowKit

theorem below_alloc' (w : World) (o : Obj) : Below w.heap.size w (w.alloc o) := (Below.refl _ _).alloc (Nat.le_refl _) o
set_option maxHeartbeats 400000 in
theorem com_Is (n : Int) (w : World) : Calls Try.prog 94 #[.int .i64 n] w fun e w' => e = .returned (.bool (isC n)) ∧ w = w' := by
  go_enter Try.func94, Try.ntmps94
  go_wp2
  all_goals go_ret
  all_goals exact ⟨ret_bool (by rw [Bool.eq_iff_iff]; simp [isC]; try omega), rfl⟩
set_option maxHeartbeats 400000 in
theorem com_F (n : Int) (w : World) (hn : 1 ≤ n) (hm : n ≤ 16) : Calls Try.prog 100 #[.int .i64 n] w fun e w' => e = .returned (.int .i64 ((n - 1) / 3)) ∧ w = w' := by
  go_enter Try.func100, Try.ntmps100
  go_wp2
  all_goals go_ret
  all_goals exact ⟨rfl, rfl⟩
set_option maxHeartbeats 400000 in
theorem com_Q (n : Int) (w : World) (hn : isC n = true) : Calls Try.prog 95 #[.int .i64 n] w fun e w' => e = .returned (.int .i64 (qC n)) ∧ w = w' := by
  obtain ⟨h1, h2, h3⟩ := isC_iff.1 hn
  have HQ : Hid (qC n = 2 * ((n - 1) / 3) + 1) := by unfold Hid qC; omega
  clear hn
  go_enter Try.func95, Try.ntmps95
  go_wp2_with (go_at_call 100; refine (com_F n _ h1 h2).mono ?_; rintro e w' ⟨rfl, rfl⟩)
  go_ret
  exact ⟨ret_int HQ.out.symm, rfl⟩
set_option maxHeartbeats 400000 in
theorem com_Digest (n : Int) (w : World) : Calls Try.prog 96 #[.int .i64 n] w fun e w' => e = .returned (.bool (digO n)) ∧ w = w' := by
  go_enter Try.func96, Try.ntmps96
  go_wp2
  all_goals go_ret
  all_goals exact ⟨ret_bool (by rw [Bool.eq_iff_iff]; simp [digO]; try omega), rfl⟩
set_option maxRecDepth 100000 in
set_option maxHeartbeats 1000000 in
theorem com_Rising {A : Option Addr} {n c : Nat} {l : List Int} (lo hi : Int) (w : World) (hs : Sl w 1 A n (ints l)) (hn : n ≤ 9223372036854775807) {r : Bool} (hr : Hid (rises lo hi l = r)) :
    Calls Try.prog 97 #[.slice A n c, .int .i64 lo, .int .i64 hi] w fun e w' => e = .returned (.bool r) ∧ w = w' := by
  have HL := hide hs.ilen
  go_enter Try.func97, Try.ntmps97
  go_wp2_with fail
  go_loop [11] (fun i => ∃ k : Nat, k ≤ n ∧ i = .int .i64 k ∧ Hid (∀ x ∈ l.take k, lo ≤ x ∧ x ≤ hi) ∧ Hid (sortedI (l.take k) = true)) (fun i => n - (intOf i).toNat)
  case atStart => exact ⟨0, Nat.zero_le _, rfl, by simp [Hid], by simp [Hid, sortedI]⟩
  case round =>
    obtain ⟨k, hk, rfl, HT, HS⟩ := hrel
    by_cases hlt : k < n
    · obtain ⟨b, off, u, rfl, HU, hc, _⟩ := hs.int hlt
      have HB : Hid (¬ (lo ≤ u ∧ u ≤ hi) → r = false) := fun h => by rw [← hr.out, rises, betw_bad HU.out h]; rfl
      by_cases hin : lo ≤ u ∧ u ≤ hi
      · have HT2 : Hid (∀ x ∈ l.take (k + 1), lo ≤ x ∧ x ≤ hi) := by
          intro x hx
          rw [take_at HU.out, List.mem_append] at hx
          rcases hx with hx | hx
          · exact HT.out x hx
          · simp at hx; subst hx; exact hin
        obtain ⟨h1, h2⟩ := hin
        cases k with
        | zero =>
          have HS2 : Hid (sortedI (l.take 1) = true) := sortedI_one l
          rw [Nat.add_zero] at hc
          clear hs
          go_wp2_with fail
          go_round
          case rel => exact ⟨1, by omega, by go_num, HT2, HS2⟩
          case measure => simp [intOf]; omega
        | succ j =>
          obtain ⟨b', off', y, e, HY, hy, _⟩ := hs.int (k := j) (by omega)
          injection e with e
          injection e with e1 e2
          subst e1; subst e2
          by_cases hyu : y < u
          · have HS2 : Hid (sortedI (l.take (j + 2)) = true) := sortedI_next HY.out HU.out HS.out hyu
            clear hs
            go_wp2_with fail
            go_round
            case rel => exact ⟨j + 2, by omega, by go_num, HT2, HS2⟩
            case measure => simp [intOf]; omega
          · have HR : Hid (r = false) := by rw [Hid, ← hr.out, rises, sortedI_bad HY.out HU.out hyu, Bool.and_false]
            clear hs
            go_wp2_with fail
            go_ret
            exact ⟨ret_bool HR.out.symm, rfl⟩
      · have HR := hide (HB.out hin)
        obtain ⟨y, hy⟩ : ∃ y, 0 < k → w.cell? ⟨b, off + (k - 1), none⟩ = some (.int .i64 y) := by
          rcases Nat.eq_zero_or_pos k with h0 | h0
          · exact ⟨0, fun h => by omega⟩
          · obtain ⟨b', off', y, e, _, hy, _⟩ := hs.int (k := k - 1) (by omega)
            injection e with e
            injection e with e1 e2
            subst e1; subst e2
            exact ⟨y, fun _ => hy⟩
        clear hs HB
        by_cases h1 : lo ≤ u
        · have h2 : hi < u := by omega
          clear hin
          go_wp2_with fail
          go_ret
          exact ⟨ret_bool HR.out.symm, rfl⟩
        · clear hin
          go_wp2_with fail
          go_ret
          exact ⟨ret_bool HR.out.symm, rfl⟩
    · obtain rfl : k = n := by omega
      have HR : Hid (r = true) := by
        have h1 := HT.out
        have h2 := HS.out
        rw [List.take_of_length_le (by rw [HL.out]; exact Nat.le_refl _)] at h1 h2
        rw [Hid, ← hr.out, rises_iff]; exact ⟨h1, h2⟩
      go_wp2_with fail
      go_ret
      exact ⟨ret_bool HR.out.symm, rfl⟩
set_option maxHeartbeats 400000 in
theorem com_Digests {A : Option Addr} {n c : Nat} {l : List Int} (w : World) (hs : Sl w 1 A n (ints l)) (hn : n ≤ 9223372036854775807) {r : Bool} (hr : Hid (digs l = r)) :
    Calls Try.prog 89 #[.slice A n c] w fun e w' => e = .returned (.bool r) ∧ w = w' := by
  go_enter Try.func89, Try.ntmps89
  go_wp2_with (go_at_call 97; refine (com_Rising 1 65536 _ hs hn hr).mono ?_; rintro e w' ⟨rfl, rfl⟩)
  go_ret
  exact ⟨rfl, rfl⟩
/-- A header's value, a certificate's. -/
def hdV (a r : Int) (A1 : Option Addr) (n1 c1 : Nat) (A2 : Option Addr) (n2 c2 : Nat) : Value := .agg #[.int .i64 a, .int .i64 r, .slice A1 n1 c1, .slice A2 n2 c2]
set_option maxRecDepth 100000 in
set_option maxHeartbeats 2000000 in
theorem header_form {A1 A2 : Option Addr} {n1 c1 n2 c2 : Nat} (n : Int) (x : HdD) (w : World) (hs : Sl w 1 A1 n1 (ints x.bs)) (ht : Sl w 1 A2 n2 (ints x.ps)) (hn1 : n1 ≤ 9223372036854775807) (hn2 : n2 ≤ 9223372036854775807) {r : Bool} (hr : Hid (formH n x = r)) :
    Calls Try.prog 61 #[hdV x.a x.r A1 n1 c1 A2 n2 c2, .int .i64 n] w fun e w' => e = .returned (.bool r) ∧ Below w.heap.size w w' := by
  have HL1 := hide hs.ilen
  have HL2 := hide ht.ilen
  have s1 := hs.alloc (.cells #[.int .i64 x.a, .int .i64 x.r, .slice A1 n1 c1, .slice A2 n2 c2] 49)
  have t1 := ht.alloc (.cells #[.int .i64 x.a, .int .i64 x.r, .slice A1 n1 c1, .slice A2 n2 c2] 49)
  have HB := hide (below_alloc' w (.cells #[.int .i64 x.a, .int .i64 x.r, .slice A1 n1 c1, .slice A2 n2 c2] 49))
  obtain ⟨p, HP⟩ : ∃ p, Hid (digs x.bs = p) := ⟨_, rfl⟩
  obtain ⟨q, HQ⟩ : ∃ p, Hid (digs x.ps = p) := ⟨_, rfl⟩
  obtain ⟨a, ra, bs, ps⟩ := x
  simp only at HL1 HL2 s1 t1 HP HQ HB hs ht ⊢
  have HALL : Hid (r = true ↔ (1 ≤ a ∧ a ≤ n) ∧ (1 ≤ ra ∧ ra ≤ 1099511627776) ∧ n1 ≤ 8 ∧ p = true ∧ q = true ∧ (n2 : Int) ≤ n ∧ (1 < ra ∨ n2 = 0)) := by
    rw [Hid, ← hr.out, formH_iff]
    simp only
    rw [HP.out, HQ.out, HL1.out, HL2.out]
  have C1 := hide (com_Digests (c := c1) _ s1 hn1 HP)
  have C2 := hide (com_Digests (c := c2) _ t1 hn2 HQ)
  clear hs ht hr s1 t1 HP HQ HL1 HL2
  unfold hdV
  go_enter Try.func61, Try.ntmps61
  go_wp2_with (first
    | (go_at_call 89; refine C1.out.mono ?_; rintro e w' ⟨rfl, rfl⟩)
    | (go_at_call 89; refine C2.out.mono ?_; rintro e w' ⟨rfl, rfl⟩))
  all_goals
    go_ret
    refine ⟨ret_bool ?_, HB.out⟩
    rw [Bool.eq_iff_iff, HALL.out]
    first
      | (simp [*]; done)
      | (simp [*]; omega)
      | omega

theorem formH_no {n : Int} {x : HdD} (h : isC n = false) : mayH n x = false := by simp [mayH, h]
end Go.Proofs.Ytihpmaifcebpiaa
