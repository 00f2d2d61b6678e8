
/-
  Small words of the laws of layer 5: num, Within, heavy; the argument's records.
-/
import Derived.Test.YtflamhndmggiaaaBkT
namespace Go.Proofs.Ytflamhndmggiaaa
open Go.RowKit

set_option maxHeartbeats 400000 in
theorem law5_num (n : Int) (w : World) : Calls Try.prog 17 #[.int .i64 n] w fun e w' => e = .returned (.int .i64 n) ∧ w = w' := by
  go_enter Try.func17, Try.ntmps17
  go_wp2_with fail
  go_ret
  exact ⟨rfl, rfl⟩
theorem IntKind.u64_wrap_nonneg (i : Int) : 0 ≤ IntKind.u64.wrap i := by
  rw [IntKind.wrap_u64]; omega
set_option maxHeartbeats 400000 in
theorem law0_Within (i : Int) (m : Nat) (w : World) (h0 : 0 < m) (h1 : m ≤ 100000) : Calls Try.prog 18 #[.int .i64 i, .int .i64 m] w fun e w' => (∃ r : Nat, r < m ∧ e = .returned (.int .i64 r)) ∧ w = w' := by
  have hm0 : ((m : Int) == 0) = false := by simp; omega
  go_enter Try.func18, Try.ntmps18
  go_wp2_with fail
  go_ret
  have hu := IntKind.u64_wrap_nonneg i
  have hlt := Int.tmod_lt_of_pos (IntKind.u64.wrap i) (show (0 : Int) < m by omega)
  have hge := Int.tmod_nonneg (m : Int) hu
  refine ⟨⟨((IntKind.u64.wrap i).tmod m).toNat, by omega, ret_int ?_⟩, rfl⟩
  have : wrap64 ((IntKind.u64.wrap i).tmod m) = (IntKind.u64.wrap i).tmod m := by unfold wrap64; omega
  rw [this]
  omega
/-- A bool of which R holds. -/
def Ans (R : Bool → Prop) (e : Ending) : Prop := ∃ r, e = .returned (.bool r) ∧ R r
/-- The k-th record of a list of four cells each: three numbers and bytes. -/
def Act5 (w : World) (b off k : Nat) (x y z : Int) (A3 : Option Addr) (n3 c3 : Nat) (bs : List UInt8) : Prop :=
  w.cell? ⟨b, off + k * 4, none⟩ = some (.int .i64 x) ∧ w.cell? ⟨b, off + k * 4 + 1, none⟩ = some (.int .i64 y) ∧ w.cell? ⟨b, off + k * 4 + 2, none⟩ = some (.int .i64 z) ∧ w.cell? ⟨b, off + k * 4 + 3, none⟩ = some (.slice A3 n3 c3) ∧
    (-9223372036854775808 ≤ x ∧ x ≤ 9223372036854775807) ∧ (-9223372036854775808 ≤ y ∧ y ≤ 9223372036854775807) ∧ (-9223372036854775808 ≤ z ∧ z ≤ 9223372036854775807) ∧ Sl w 1 A3 n3 (bytes8 bs) ∧ n3 ≤ 150000000000001 ∧ n3 ≤ c3 ∧ c3 ≤ 9223372036854775807
def Acts5 (w : World) (A : Option Addr) (n : Nat) : Prop :=
  n ≤ 9223372036854775807 ∧ (0 < n → ∃ b off, A = some ⟨b, off, none⟩ ∧ ∀ k, k < n → ∃ x y z A3 n3 c3 bs, Act5 w b off k x y z A3 n3 c3 bs)
/-- The first forty records' bytes are few. -/
def Light5 (w : World) (A : Option Addr) (n : Nat) : Prop := ∀ k b off A3 n3 c3, k < n → k < 40 → A = some ⟨b, off, none⟩ → w.cell? ⟨b, off + k * 4 + 3, none⟩ = some (.slice A3 n3 c3) → n3 ≤ 10000
def Heavy5 (w : World) (A : Option Addr) (n : Nat) (r : Bool) : Prop := r = false → Light5 w A n
theorem Acts5.later {w w' : World} {A : Option Addr} {n : Nat} (h : Acts5 w A n) (hb : Below w.heap.size w w') : Acts5 w' A n := by
  refine ⟨h.1, fun h0 => ?_⟩
  obtain ⟨b, off, hA, hk⟩ := h.2 h0
  refine ⟨b, off, hA, fun k hkn => ?_⟩
  obtain ⟨x, y, z, A3, n3, c3, bs, q0, q1, q2, q3, h1, h2, h3, h4, h5⟩ := hk k hkn
  exact ⟨x, y, z, A3, n3, c3, bs, cell_later hb q0, cell_later hb q1, cell_later hb q2, cell_later hb q3, h1, h2, h3, h4.below hb, h5⟩
set_option maxRecDepth 100000 in
set_option maxHeartbeats 1000000 in
theorem law5_heavy {A : Option Addr} {n c : Nat} (w : World) (h : Acts5 w A n) : Calls Try.prog 22 #[.slice A n c] w fun e w' => Ans (Heavy5 w A n) e ∧ w = w' := by
  obtain ⟨hn, hk⟩ := h
  go_enter Try.func22, Try.ntmps22
  go_wp2_with fail
  go_loop [3, 4] (fun s i => ∃ k m : Nat, k ≤ n ∧ k ≤ 40 ∧ m ≤ 10000 ∧ s = .int .i64 m ∧ i = .int .i64 k ∧ Hid (∀ j b off A3 n3 c3, j < k → A = some ⟨b, off, none⟩ → w.cell? ⟨b, off + j * 4 + 3, none⟩ = some (.slice A3 n3 c3) → n3 ≤ 10000)) (fun _ i => n - (intOf i).toNat)
  case atStart => exact ⟨0, 0, Nat.zero_le _, by omega, by omega, rfl, rfl, (fun j _ _ _ _ _ hj => by omega)⟩
  case round =>
    obtain ⟨k, m, hkn, hk40, hm, rfl, rfl, HX⟩ := hrel
    by_cases hlt : k < n
    · by_cases h40 : k < 40
      · have hd40 : decide ((k : Int) < 40) = true := by simp; omega
        obtain ⟨b, off, rfl, hc⟩ := hk (by omega)
        obtain ⟨x, y, z, A3, n3, c3, bs, -, -, -, q3, -, -, -, -, hn3, -⟩ := hc k hlt
        have HQ := hide q3
        clear hk hc
        by_cases hs : m + n3 ≤ 10000
        · have hsd : decide (10000 < (m : Int) + (n3 : Int)) = false := by simp; omega
          go_wp2_with fail
          go_round
          case rel =>
            refine ⟨k + 1, m + n3, by omega, by omega, hs, by go_num, by go_num, fun j b' off' A3' n3' c3' hj hA hq => ?_⟩
            rcases Nat.lt_or_ge j k with h' | h'
            · exact HX.out j b' off' A3' n3' c3' h' hA hq
            · obtain rfl : j = k := by omega
              injection hA with hA
              injection hA with e1 e2
              subst e1; subst e2
              have e := HQ.out.symm.trans hq
              injection e with e
              injection e with _ e _
              omega
          case measure => simp [intOf]; omega
        · have hsd : decide (10000 < (m : Int) + (n3 : Int)) = true := by simp; omega
          go_wp2_with fail
          go_ret
          exact ⟨⟨true, rfl, fun h => by cases h⟩, rfl⟩
      · have hd40 : decide ((k : Int) < 40) = false := by simp; omega
        have HF : Hid (Heavy5 w A n false) := fun _ j b off A3 n3 c3 _ hj hA hq => HX.out j b off A3 n3 c3 (by omega) hA hq
        clear hk
        go_wp2_with fail
        go_ret
        exact ⟨⟨false, rfl, HF.out⟩, rfl⟩
    · obtain rfl : k = n := by omega
      have HF : Hid (Heavy5 w A k false) := fun _ j b off A3 n3 c3 hjn _ hA hq => HX.out j b off A3 n3 c3 hjn hA hq
      clear hk
      go_wp2_with fail
      all_goals
        go_ret
        exact ⟨⟨false, rfl, HF.out⟩, rfl⟩
end Go.Proofs.Ytflamhndmggiaaa
