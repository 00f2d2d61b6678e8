
/-
  Contracts of the reference's reading of a number.
-/
import Derived.Test.YtflamhndmggiaaaWirB
namespace Go.Proofs.Ytflamhndmggiaaa
open Go.RowKit

/-- How many bytes a number has that ends at the i-th byte. -/
theorem enc_len_at {acc i c : Nat} (ha : acc < 128 ^ i) (hc : c < 128) : (enc (acc + 128 ^ i * c)).length = i + 1 ↔ ¬ (0 < i ∧ c = 0) := by
  rcases Nat.eq_zero_or_pos i with rfl | hi
  · have : acc = 0 := by simpa using ha
    subst this
    simp [enc_lt hc]
  · constructor
    · rintro h ⟨_, rfl⟩
      obtain ⟨k, rfl⟩ : ∃ k, i = k + 1 := ⟨i - 1, by omega⟩
      have := enc_len_le k acc ha
      simp at h
      omega
    · intro h
      have hc0 : 1 ≤ c := by omega
      have h1 : 128 ^ i ≤ acc + 128 ^ i * c := by
        have : 128 ^ i * 1 ≤ 128 ^ i * c := Nat.mul_le_mul_left _ hc0
        omega
      have h2 := enc_len_gt i _ h1 hi
      have h3 : acc + 128 ^ i * c < 128 ^ (i + 1) := by
        rw [Nat.pow_succ]
        have : 128 ^ i * c ≤ 128 ^ i * 127 := Nat.mul_le_mul_left _ (by omega)
        omega
      have h4 := enc_len_le i _ h3
      omega

/-- The number and its bytes; 0, 0: there is none. -/
def gotN (bs : List UInt8) : Nat × Nat := (getN bs).getD (0, 0)

set_option maxRecDepth 100000 in
set_option maxHeartbeats 1000000 in
theorem ref2_GetNum {A : Option Addr} {n c : Nat} {bs : List UInt8} (w : World) (hs : Sl w 1 A n (bytes8 bs)) (hn : n ≤ 9223372036854775807) :
    Calls Try.prog 33 #[.slice A n c] w fun e w' => e = .returned (.tuple #[.int .i64 (gotN bs).1, .int .i64 (gotN bs).2]) ∧ Below w.heap.size w w' := by
  have HL := hide hs.blen
  obtain ⟨o, HG⟩ : ∃ o, Hid (getN bs = o) := ⟨_, rfl⟩
  have HO : Hid (gotN bs = o.getD (0, 0)) := by have := HG.out; rw [Hid, gotN, this]
  go_enter Try.func33, Try.ntmps33
  go_wp2_with fail
  go_loop [4, 5] (fun t j => ∃ (i acc : Nat), i ≤ n ∧ i ≤ 9 ∧ j = .int .i64 i ∧ t = .int .i64 acc ∧ Hid (At bs i acc o)) (fun _ j => n - (intOf j).toNat)
  case atStart => exact ⟨0, 0, Nat.zero_le _, by omega, rfl, rfl, by rw [← HG.out]; exact At.start bs⟩
  case round =>
    obtain ⟨i, acc, hin, hi, rfl, rfl, HA⟩ := hrel
    by_cases hlt : i < n
    · by_cases hi9 : i < 9
      · obtain ⟨b, off, u, rfl, HU, hc, _⟩ := hs.byte hlt
        have hub : u.toNat < 256 := u.toNat_lt
        clear hs
        obtain ⟨x, y, acc', HX, HY, hlow, hmod, hx127, hsh, hor, hacc⟩ := step_names u HA.out.2.1 (show i ≤ 8 by omega)
        by_cases hh : 128 ≤ u.toNat
        · have HN : Hid (At bs (i + 1) acc' o) := by have := HA.out.next HU.out hi9 hh; rwa [HY.out] at this
          clear hlow
          go_wp2_with fail
          go_round
          case rel => exact ⟨i + 1, acc', by omega, by omega, by go_num, rfl, HN⟩
          case measure => simp [intOf]; omega
        · have hl := HA.out.last HU.out hi9 (by omega)
          have E1 := HY.out
          rw [Nat.mod_eq_of_lt (show u.toNat < 128 by omega)] at E1
          have hel := enc_len_at HA.out.2.1 (show u.toNat < 128 by omega)
          rw [E1] at hel hl
          have HEL := hide hel
          have HLA := hide hl
          clear hel hl hlow E1
          obtain ⟨L, HLL⟩ : ∃ L, Hid ((enc acc').length = L) := ⟨_, rfl⟩
          have hL9 : L ≤ 9 := by rw [← HLL.out]; exact enc_len_63 (by omega)
          have hi0 : (0 : Int) ≤ i := by omega
          by_cases hq : L = i + 1
          · have hb : ((L : Int) != (i : Int) + 1) = false := by simp; omega
            have HF : Hid (gotN bs = (acc', i + 1)) := by
              have h1 := HLL.out
              rw [hq] at h1
              have h2 := HEL.out.mp h1
              have h3 := HLA.out
              rw [if_neg h2] at h3
              rw [Hid, HO.out, h3]; rfl
            clear hq
            go_wp2_with (first | (go_at_call 32; refine (ref2_Num acc' _ (by omega)).mono ?_; rintro e w1 ⟨v, rfl, hown, hb1⟩; rw [HLL.out] at hown; obtain ⟨A1, c1, rfl⟩ := own_slice hown))
            try rw [Exit.noGoto_ret]
            go_ret2
            exact ⟨by rw [HF.out]; rfl, hb1⟩
          · have hb : ((L : Int) != (i : Int) + 1) = true := by simp; omega
            have HF : Hid (gotN bs = (0, 0)) := by
              have h2 : ¬ ¬ (0 < i ∧ u.toNat = 0) := fun h => hq (by rw [← HLL.out]; exact HEL.out.mpr h)
              have h3 := HLA.out
              rw [if_pos (Classical.not_not.mp h2)] at h3
              rw [Hid, HO.out, h3]; rfl
            clear hq
            go_wp2_with (first | (go_at_call 32; refine (ref2_Num acc' _ (by omega)).mono ?_; rintro e w1 ⟨v, rfl, hown, hb1⟩; rw [HLL.out] at hown; obtain ⟨A1, c1, rfl⟩ := own_slice hown))
            try rw [Exit.noGoto_ret]
            go_ret2
            exact ⟨by rw [HF.out]; rfl, hb1⟩
      · have HF : Hid (gotN bs = (0, 0)) := by
          have h1 : i = 9 := by omega
          have h2 := HA.out
          rw [h1] at h2
          rw [Hid, HO.out, h2.nine]; rfl
        go_wp2_with fail
        try rw [Exit.noGoto_ret]
        go_ret2
        exact ⟨by rw [HF.out]; rfl, Below.refl _ _⟩
    · have HF : Hid (gotN bs = (0, 0)) := by
        rw [Hid, HO.out, HA.out.out (by rw [HL.out]; omega)]; rfl
      go_wp2_with fail
      try rw [Exit.noGoto_ret]
      go_ret2
      exact ⟨by rw [HF.out]; rfl, Below.refl _ _⟩
end Go.Proofs.Ytflamhndmggiaaa
