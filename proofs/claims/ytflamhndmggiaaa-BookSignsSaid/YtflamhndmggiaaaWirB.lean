
/-
  Contracts of reading a number: what bytes begin with: for every input.
-/
import Derived.Test.YtflamhndmggiaaaWirA
namespace Go.Proofs.Ytflamhndmggiaaa
open Go.RowKit

/-- What GetNum answers. -/
def getN (bs : List UInt8) : Option (Nat × Nat) := dec 9 bs

theorem and_all : ∀ a : Fin 256, bits BinOp.and IntKind.u8 ((a.val : Nat) : Int) 127 = ((a.val % 128 : Nat) : Int) := by decide +kernel
theorem low_byte (c : UInt8) : bits BinOp.and IntKind.u8 (c.toNat : Int) 127 = ((c.toNat % 128 : Nat) : Int) := by
  have h := and_all ⟨c.toNat, c.toNat_lt⟩
  exact h
theorem pow7 (i : Nat) : 2 ^ (7 * i) = 128 ^ i := by rw [Nat.pow_mul]
theorem or_shift {acc i x : Nat} (ha : acc < 128 ^ i) (hx : x < 128) (hi : i ≤ 8) : bits BinOp.or IntKind.i64 (acc : Int) ((128 ^ i * x : Nat) : Int) = ((acc + 128 ^ i * x : Nat) : Int) ∧ acc + 128 ^ i * x < 128 ^ (i + 1) ∧ 128 ^ (i + 1) ≤ 9223372036854775808 := by
  have h1 : (128 : Nat) ^ (i + 1) ≤ 128 ^ 9 := Nat.pow_le_pow_right (by omega) (by omega)
  have h9 : (128 : Nat) ^ 9 = 9223372036854775808 := by decide
  have h2 : acc + 128 ^ i * x < 128 ^ (i + 1) := by
    rw [Nat.pow_succ]
    have : 128 ^ i * x ≤ 128 ^ i * 127 := Nat.mul_le_mul_left _ (by omega)
    omega
  refine ⟨?_, h2, by omega⟩
  rw [i64_or_nat acc (128 ^ i * x) (by omega) (by omega)]
  congr 1
  have e : 128 ^ i * x = x <<< (7 * i) := by rw [Nat.shiftLeft_eq, pow7, Nat.mul_comm]
  rw [e, Nat.or_comm, ← Nat.shiftLeft_add_eq_or_of_lt (by rw [pow7]; exact ha)]
  omega

/-- What is left to read at the i-th byte. -/
def At (bs : List UInt8) (i acc : Nat) (o : Option (Nat × Nat)) : Prop := i ≤ 9 ∧ acc < 128 ^ i ∧ cont i acc (dec (9 - i) (bs.drop i)) = o
theorem At.start (bs : List UInt8) : At bs 0 0 (getN bs) := ⟨by omega, by simp, by rw [cont_zero]; rfl⟩
theorem At.next {bs : List UInt8} {i acc : Nat} {o : Option (Nat × Nat)} {c : UInt8} (h : At bs i acc o) (hc : bs[i]? = some c) (hi : i < 9) (hh : 128 ≤ c.toNat) : At bs (i + 1) (acc + 128 ^ i * (c.toNat % 128)) o := by
  obtain ⟨h1, h2, h3⟩ := h
  rw [drop_at hc, show 9 - i = (9 - (i + 1)) + 1 by omega, cont_next hh] at h3
  exact ⟨by omega, (or_shift h2 (by omega) (by omega)).2.1, h3⟩
theorem At.last {bs : List UInt8} {i acc : Nat} {o : Option (Nat × Nat)} {c : UInt8} (h : At bs i acc o) (hc : bs[i]? = some c) (hi : i < 9) (hh : c.toNat < 128) : o = if 0 < i ∧ c.toNat = 0 then none else some (acc + 128 ^ i * c.toNat, i + 1) := by
  obtain ⟨h1, h2, h3⟩ := h
  rw [drop_at hc, show 9 - i = (9 - (i + 1)) + 1 by omega, cont_last hh] at h3
  exact h3.symm
theorem At.nine {bs : List UInt8} {acc : Nat} {o : Option (Nat × Nat)} (h : At bs 9 acc o) : o = none := by
  obtain ⟨h1, h2, h3⟩ := h
  exact h3.symm
theorem At.out {bs : List UInt8} {i acc : Nat} {o : Option (Nat × Nat)} (h : At bs i acc o) (hi : bs.length ≤ i) : o = none := by
  obtain ⟨h1, h2, h3⟩ := h
  rw [List.drop_eq_nil_of_le hi, dec_end] at h3
  exact h3.symm

/-- The shifted byte, as the walk has it. -/
theorem shl_form {i x : Nat} (hi : i ≤ 8) (hx : x < 128) : wrap64 ((x : Int) * 2 ^ (7 * i)) = ((128 ^ i * x : Nat) : Int) := by
  have h1 : 128 ^ i * x < 128 ^ (i + 1) := by
    rw [Nat.pow_succ]; exact Nat.mul_lt_mul_of_pos_left hx (Nat.pow_pos (by omega))
  have h2 : (128 : Nat) ^ (i + 1) ≤ 128 ^ 9 := Nat.pow_le_pow_right (by omega) (by omega)
  have h9 : (128 : Nat) ^ 9 = 9223372036854775808 := by decide
  have e : ((x : Int) * 2 ^ (7 * i)) = ((128 ^ i * x : Nat) : Int) := by
    rw [← pow7 i]
    simp [Int.mul_comm]
  rw [e]
  exact IntWalk.wrap64_in _ (by omega)

/-- One byte taken in, every number of the walk behind a name of its own. -/
theorem step_names {acc i : Nat} (u : UInt8) (ha : acc < 128 ^ i) (hi : i ≤ 8) : ∃ x y acc' : Nat, Hid (u.toNat % 128 = x) ∧ Hid (acc + 128 ^ i * (u.toNat % 128) = acc') ∧ bits BinOp.and IntKind.u8 (u.toNat : Int) 127 = (x : Int) ∧ (u.toNat : Int) % 128 = x ∧ x ≤ 127 ∧
    wrap64 ((x : Int) * 2 ^ (7 * i)) = (y : Int) ∧ bits BinOp.or IntKind.i64 (acc : Int) (y : Int) = (acc' : Int) ∧ acc' ≤ 9223372036854775807 := by
  have hx : u.toNat % 128 < 128 := by omega
  have h3 := or_shift ha hx hi
  exact ⟨_, _, _, rfl, rfl, low_byte u, by omega, by omega, shl_form hi hx, h3.1, by omega⟩
set_option maxRecDepth 100000 in
set_option maxHeartbeats 1000000 in
theorem wire_GetNum_yes {A : Option Addr} {n c : Nat} {bs : List UInt8} {m k : Nat} (w : World) (hs : Sl w 1 A n (bytes8 bs)) (hn : n ≤ 9223372036854775807) (hg : getN bs = some (m, k)) :
    Calls Try.prog 30 #[.slice A n c] w fun e w' => e = .returned (.tuple #[.int .i64 m, .int .i64 k, .int .i64 0]) ∧ w = w' := by
  have HL := hide hs.blen
  have HG := hide hg
  clear hg
  go_enter Try.func30, Try.ntmps30
  go_wp2_with fail
  go_step3
  go_wp2_with fail
  go_loop [2, 9] (fun t j => ∃ (i acc : Nat), i ≤ n ∧ j = .int .i64 i ∧ t = .int .i64 acc ∧ Hid (At bs i acc (some (m, k)))) (fun _ j => n - (intOf j).toNat)
  case atStart => exact ⟨0, 0, Nat.zero_le _, rfl, rfl, by rw [← HG.out]; exact At.start bs⟩
  case round =>
    obtain ⟨i, acc, hin, rfl, rfl, HA⟩ := hrel
    have hlt : i < n := by
      apply Nat.lt_of_not_le
      intro h
      have := HA.out.out (by rw [HL.out]; exact h)
      cases this
    have hi9 : i < 9 := by
      rcases Nat.lt_or_ge i 9 with h | h
      · exact h
      · have : i = 9 := by have := HA.out.1; omega
        subst this
        have := HA.out.nine
        cases this
    obtain ⟨b, off, u, rfl, HU, hc, _⟩ := hs.byte hlt
    have hub : u.toNat < 256 := u.toNat_lt
    clear hs
    obtain ⟨x, y, acc', HX, HY, hlow, hmod, hx127, hsh, hor, hacc⟩ := step_names u HA.out.2.1 (show i ≤ 8 by omega)
    by_cases hh : 128 ≤ u.toNat
    · have HN : Hid (At bs (i + 1) acc' (some (m, k))) := by have := HA.out.next HU.out hi9 hh; rwa [HY.out] at this
      clear hmod
      go_wp2_with fail
      go_round
      case rel => exact ⟨i + 1, acc', by omega, by go_num, rfl, HN⟩
      case measure => simp [intOf]; omega
    · have hl := HA.out.last HU.out hi9 (by omega)
      have hz : ¬ (0 < i ∧ u.toNat = 0) := by
        intro h
        rw [if_pos h] at hl
        cases hl
      rw [if_neg hz] at hl
      injection hl with hl
      injection hl with e1 e2
      have E1 : Hid (acc' = m) := by have h := HY.out; rw [Nat.mod_eq_of_lt (show u.toNat < 128 by omega)] at h; exact h.symm.trans e1.symm
      have E2 := hide e2
      clear e1 e2 hmod
      by_cases hu0 : u.toNat = 0
      · have hi0 : i ≤ 0 := by omega
        have hb0 : ((u.toNat : Int) == 0) = true := by simp; omega
        clear hz hu0
        go_wp2_with fail
        try rw [Exit.noGoto_ret]
        go_ret3
        refine ⟨?_, rfl⟩
        have h2 := E2.out
        rw [E1.out, show ((i : Int) + 1) = (k : Int) by omega]
        rfl
      · have hb0 : ((u.toNat : Int) == 0) = false := by simp; omega
        clear hz
        go_wp2_with fail
        try rw [Exit.noGoto_ret]
        go_ret3
        refine ⟨?_, rfl⟩
        have h2 := E2.out
        rw [E1.out, show ((i : Int) + 1) = (k : Int) by omega]
        rfl

set_option maxRecDepth 100000 in
set_option maxHeartbeats 1000000 in
theorem wire_GetNum_no {A : Option Addr} {n c : Nat} {bs : List UInt8} (w : World) (hs : Sl w 1 A n (bytes8 bs)) (hn : n ≤ 9223372036854775807) (hg : getN bs = none) :
    Calls Try.prog 30 #[.slice A n c] w fun e w' => e = .returned (.tuple #[.int .i64 0, .int .i64 0, .int .i64 1]) ∧ w = w' := by
  have HL := hide hs.blen
  have HG := hide hg
  clear hg
  go_enter Try.func30, Try.ntmps30
  go_wp2_with fail
  refine scope_loop 0 (fun a w' => ∃ (u0 u1 u2 u3 u4 u5 u6 u7 u8 u9 u10 u11 u12 u13 u14 u15 u16 u17 u18 u19 u20 u21 u22 u23 u24 u25 u26 u27 u28 u29 u30 u31 u32 u33 u34 u35 : Value), a = { tmps := #[u0, u1, u2, u3, u4, u5, u6, u7, u8, u9, u10, u11, u12, u13, u14, u15, u16, u17, u18, u19, u20, u21, u22, u23, u24, u25, u26, u27, u28, u29, u30, u31, u32, u33, u34, u35], defers := [] } ∧ w = w') (fun _ _ => 0) rfl ?_ ?_
  · rintro a w' ⟨u0, u1, u2, u3, u4, u5, u6, u7, u8, u9, u10, u11, u12, u13, u14, u15, u16, u17, u18, u19, u20, u21, u22, u23, u24, u25, u26, u27, u28, u29, u30, u31, u32, u33, u34, u35, rfl, rfl⟩
    go_wp2_with fail
    try rw [Exit.jump_ret]
    go_ret3
    exact ⟨rfl, rfl⟩
  · intro H
    go_wp2_with fail
    go_loop [2, 9] (fun t j => ∃ (i acc : Nat), i ≤ n ∧ j = .int .i64 i ∧ t = .int .i64 acc ∧ Hid (At bs i acc none)) (fun _ j => n - (intOf j).toNat)
    case atStart => exact ⟨0, 0, Nat.zero_le _, rfl, rfl, by rw [← HG.out]; exact At.start bs⟩
    case round =>
      obtain ⟨i, acc, hin, rfl, rfl, HA⟩ := hrel
      by_cases hlt : i < n
      · obtain ⟨b, off, u, rfl, HU, hc, _⟩ := hs.byte hlt
        have hub : u.toNat < 256 := u.toNat_lt
        clear hs
        by_cases hi9 : i < 9
        · obtain ⟨x, y, acc', HX, HY, hlow, hmod, hx127, hsh, hor, hacc⟩ := step_names u HA.out.2.1 (show i ≤ 8 by omega)
          by_cases hh : 128 ≤ u.toNat
          · have HN : Hid (At bs (i + 1) acc' none) := by have := HA.out.next HU.out hi9 hh; rwa [HY.out] at this
            clear hmod
            go_wp2_with fail
            go_round
            case rel => exact ⟨i + 1, acc', by omega, by go_num, rfl, HN⟩
            case measure => simp [intOf]; omega
          · have hl := HA.out.last HU.out hi9 (by omega)
            have hz : 0 < i ∧ u.toNat = 0 := by
              apply Classical.byContradiction
              intro h
              rw [if_neg h] at hl
              cases hl
            obtain ⟨hz1, hz2⟩ := hz
            have hb0 : ((u.toNat : Int) == 0) = true := by simp; omega
            clear hl hmod hz2
            go_wp2_with fail
            go_step3
            repeat (first | refine Exit.then_goto ?_ | refine Exit.inBlock_goto ?_)
            exact Exit.jump_goto ⟨_, _, _, _, _, _, _, _, _, _, _, _, _, _, _, _, _, _, _, _, _, _, _, _, _, _, _, _, _, _, _, _, _, _, _, _, rfl, rfl⟩
        · have hi9' : i = 9 := by have := HA.out.1; omega
          have hb9 : ((i : Int) == 9) = true := by simp; omega
          clear hi9'
          go_wp2_with fail
          go_step3
          repeat (first | refine Exit.then_goto ?_ | refine Exit.inBlock_goto ?_)
          exact Exit.jump_goto ⟨_, _, _, _, _, _, _, _, _, _, _, _, _, _, _, _, _, _, _, _, _, _, _, _, _, _, _, _, _, _, _, _, _, _, _, _, rfl, rfl⟩
      · go_wp2_with fail
        go_step3
        rename_i hk _
        exact hk _ _ (H _ _ ⟨_, _, _, _, _, _, _, _, _, _, _, _, _, _, _, _, _, _, _, _, _, _, _, _, _, _, _, _, _, _, _, _, _, _, _, _, rfl, rfl⟩)
end Go.Proofs.Ytflamhndmggiaaa
