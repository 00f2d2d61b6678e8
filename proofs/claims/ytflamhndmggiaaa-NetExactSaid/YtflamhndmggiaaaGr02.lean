/-
  Texts joined: words and contracts that later texts use; lemmas alone, no conditions of a statement.
-/
import Derived.Test.YtflamhndmggiaaaGr01
import Derived.Lib.AppendStr
set_option linter.unusedVariables false
set_option linter.unusedSimpArgs false
/-
  Contracts of reading a number: what bytes begin with: for every input.
-/
namespace Go.Proofs.Ytflamhndmggiaaa
open Go.RowKit

/-- What GetNum answers. -/
def getN (bs : List UInt8) : Option (Nat × Nat) := dec 9 bs

theorem and_all : ∀ a : Fin 256, bits BinOp.and IntKind.u8 ((a.val : Nat) : Int) 127 = ((a.val % 128 : Nat) : Int) := by decide +kernel
theorem low_byte (c : UInt8) : bits BinOp.and IntKind.u8 (c.toNat : Int) 127 = ((c.toNat % 128 : Nat) : Int) := by
  have h := and_all ⟨c.toNat, c.toNat_lt⟩
  exact h
theorem pow7 (i : Nat) : 2 ^ (7 * i) = 128 ^ i := by rw [Nat.pow_mul]
theorem or_shift {acc i x : Nat} (ha : acc < 128 ^ i) (hx : x < 128) (hi : i ≤ 8) : bits BinOp.or IntKind.i64 (acc : Int) ((128 ^ i * x : Nat) : Int) = ((acc + 128 ^ i * x : Nat) : Int) ∧ acc + 128 ^ i * x < 128 ^ (i + 1) ∧ 128 ^ (i + 1) ≤ 9223372036854775808 := by
  have h1 : (128 : Nat) ^ (i + 1) ≤ 128 ^ 9 := Nat.pow_le_pow_right (by omega) (by omega)
  have h9 : (128 : Nat) ^ 9 = 9223372036854775808 := by decide
  have h2 : acc + 128 ^ i * x < 128 ^ (i + 1) := by
    rw [Nat.pow_succ]
    have : 128 ^ i * x ≤ 128 ^ i * 127 := Nat.mul_le_mul_left _ (by omega)
    omega
  refine ⟨?_, h2, by omega⟩
  rw [i64_or_nat acc (128 ^ i * x) (by omega) (by omega)]
  congr 1
  have e : 128 ^ i * x = x <<< (7 * i) := by rw [Nat.shiftLeft_eq, pow7, Nat.mul_comm]
  rw [e, Nat.or_comm, ← Nat.shiftLeft_add_eq_or_of_lt (by rw [pow7]; exact ha)]
  omega

/-- What is left to read at the i-th byte. -/
def At (bs : List UInt8) (i acc : Nat) (o : Option (Nat × Nat)) : Prop := i ≤ 9 ∧ acc < 128 ^ i ∧ cont i acc (dec (9 - i) (bs.drop i)) = o
theorem At.start (bs : List UInt8) : At bs 0 0 (getN bs) := ⟨by omega, by simp, by rw [cont_zero]; rfl⟩
theorem At.next {bs : List UInt8} {i acc : Nat} {o : Option (Nat × Nat)} {c : UInt8} (h : At bs i acc o) (hc : bs[i]? = some c) (hi : i < 9) (hh : 128 ≤ c.toNat) : At bs (i + 1) (acc + 128 ^ i * (c.toNat % 128)) o := by
  obtain ⟨h1, h2, h3⟩ := h
  rw [drop_at hc, show 9 - i = (9 - (i + 1)) + 1 by omega, cont_next hh] at h3
  exact ⟨by omega, (or_shift h2 (by omega) (by omega)).2.1, h3⟩
theorem At.last {bs : List UInt8} {i acc : Nat} {o : Option (Nat × Nat)} {c : UInt8} (h : At bs i acc o) (hc : bs[i]? = some c) (hi : i < 9) (hh : c.toNat < 128) : o = if 0 < i ∧ c.toNat = 0 then none else some (acc + 128 ^ i * c.toNat, i + 1) := by
  obtain ⟨h1, h2, h3⟩ := h
  rw [drop_at hc, show 9 - i = (9 - (i + 1)) + 1 by omega, cont_last hh] at h3
  exact h3.symm
theorem At.nine {bs : List UInt8} {acc : Nat} {o : Option (Nat × Nat)} (h : At bs 9 acc o) : o = none := by
  obtain ⟨h1, h2, h3⟩ := h
  exact h3.symm
theorem At.out {bs : List UInt8} {i acc : Nat} {o : Option (Nat × Nat)} (h : At bs i acc o) (hi : bs.length ≤ i) : o = none := by
  obtain ⟨h1, h2, h3⟩ := h
  rw [List.drop_eq_nil_of_le hi, dec_end] at h3
  exact h3.symm

/-- The shifted byte, as the walk has it. -/
theorem shl_form {i x : Nat} (hi : i ≤ 8) (hx : x < 128) : wrap64 ((x : Int) * 2 ^ (7 * i)) = ((128 ^ i * x : Nat) : Int) := by
  have h1 : 128 ^ i * x < 128 ^ (i + 1) := by
    rw [Nat.pow_succ]; exact Nat.mul_lt_mul_of_pos_left hx (Nat.pow_pos (by omega))
  have h2 : (128 : Nat) ^ (i + 1) ≤ 128 ^ 9 := Nat.pow_le_pow_right (by omega) (by omega)
  have h9 : (128 : Nat) ^ 9 = 9223372036854775808 := by decide
  have e : ((x : Int) * 2 ^ (7 * i)) = ((128 ^ i * x : Nat) : Int) := by
    rw [← pow7 i]
    simp [Int.mul_comm]
  rw [e]
  exact IntWalk.wrap64_in _ (by omega)

/-- One byte taken in, every number of the walk behind a name of its own. -/
theorem step_names {acc i : Nat} (u : UInt8) (ha : acc < 128 ^ i) (hi : i ≤ 8) : ∃ x y acc' : Nat, Hid (u.toNat % 128 = x) ∧ Hid (acc + 128 ^ i * (u.toNat % 128) = acc') ∧ bits BinOp.and IntKind.u8 (u.toNat : Int) 127 = (x : Int) ∧ (u.toNat : Int) % 128 = x ∧ x ≤ 127 ∧
    wrap64 ((x : Int) * 2 ^ (7 * i)) = (y : Int) ∧ bits BinOp.or IntKind.i64 (acc : Int) (y : Int) = (acc' : Int) ∧ acc' ≤ 9223372036854775807 := by
  have hx : u.toNat % 128 < 128 := by omega
  have h3 := or_shift ha hx hi
  exact ⟨_, _, _, rfl, rfl, low_byte u, by omega, by omega, shl_form hi hx, h3.1, by omega⟩
set_option maxRecDepth 100000 in
set_option maxHeartbeats 1000000 in
theorem wire_GetNum_yes {A : Option Addr} {n c : Nat} {bs : List UInt8} {m k : Nat} (w : World) (hs : Sl w 1 A n (bytes8 bs)) (hn : n ≤ 9223372036854775807) (hg : getN bs = some (m, k)) :
    Calls Try.prog 30 #[.slice A n c] w fun e w' => e = .returned (.tuple #[.int .i64 m, .int .i64 k, .int .i64 0]) ∧ w = w' := by
  have HL := hide hs.blen
  have HG := hide hg
  clear hg
  go_enter Try.func30, Try.ntmps30
  go_wp2_with fail
  go_step3
  go_wp2_with fail
  go_loop [2, 9] (fun t j => ∃ (i acc : Nat), i ≤ n ∧ j = .int .i64 i ∧ t = .int .i64 acc ∧ Hid (At bs i acc (some (m, k)))) (fun _ j => n - (intOf j).toNat)
  case atStart => exact ⟨0, 0, Nat.zero_le _, rfl, rfl, by rw [← HG.out]; exact At.start bs⟩
  case round =>
    obtain ⟨i, acc, hin, rfl, rfl, HA⟩ := hrel
    have hlt : i < n := by
      apply Nat.lt_of_not_le
      intro h
      have := HA.out.out (by rw [HL.out]; exact h)
      cases this
    have hi9 : i < 9 := by
      rcases Nat.lt_or_ge i 9 with h | h
      · exact h
      · have : i = 9 := by have := HA.out.1; omega
        subst this
        have := HA.out.nine
        cases this
    obtain ⟨b, off, u, rfl, HU, hc, _⟩ := hs.byte hlt
    have hub : u.toNat < 256 := u.toNat_lt
    clear hs
    obtain ⟨x, y, acc', HX, HY, hlow, hmod, hx127, hsh, hor, hacc⟩ := step_names u HA.out.2.1 (show i ≤ 8 by omega)
    by_cases hh : 128 ≤ u.toNat
    · have HN : Hid (At bs (i + 1) acc' (some (m, k))) := by have := HA.out.next HU.out hi9 hh; rwa [HY.out] at this
      clear hmod
      go_wp2_with fail
      go_round
      case rel => exact ⟨i + 1, acc', by omega, by go_num, rfl, HN⟩
      case measure => simp [intOf]; omega
    · have hl := HA.out.last HU.out hi9 (by omega)
      have hz : ¬ (0 < i ∧ u.toNat = 0) := by
        intro h
        rw [if_pos h] at hl
        cases hl
      rw [if_neg hz] at hl
      injection hl with hl
      injection hl with e1 e2
      have E1 : Hid (acc' = m) := by have h := HY.out; rw [Nat.mod_eq_of_lt (show u.toNat < 128 by omega)] at h; exact h.symm.trans e1.symm
      have E2 := hide e2
      clear e1 e2 hmod
      by_cases hu0 : u.toNat = 0
      · have hi0 : i ≤ 0 := by omega
        have hb0 : ((u.toNat : Int) == 0) = true := by simp; omega
        clear hz hu0
        go_wp2_with fail
        try rw [Exit.noGoto_ret]
        go_ret3
        refine ⟨?_, rfl⟩
        have h2 := E2.out
        rw [E1.out, show ((i : Int) + 1) = (k : Int) by omega]
        rfl
      · have hb0 : ((u.toNat : Int) == 0) = false := by simp; omega
        clear hz
        go_wp2_with fail
        try rw [Exit.noGoto_ret]
        go_ret3
        refine ⟨?_, rfl⟩
        have h2 := E2.out
        rw [E1.out, show ((i : Int) + 1) = (k : Int) by omega]
        rfl

set_option maxRecDepth 100000 in
set_option maxHeartbeats 1000000 in
theorem wire_GetNum_no {A : Option Addr} {n c : Nat} {bs : List UInt8} (w : World) (hs : Sl w 1 A n (bytes8 bs)) (hn : n ≤ 9223372036854775807) (hg : getN bs = none) :
    Calls Try.prog 30 #[.slice A n c] w fun e w' => e = .returned (.tuple #[.int .i64 0, .int .i64 0, .int .i64 1]) ∧ w = w' := by
  have HL := hide hs.blen
  have HG := hide hg
  clear hg
  go_enter Try.func30, Try.ntmps30
  go_wp2_with fail
  refine scope_loop 0 (fun a w' => ∃ (u0 u1 u2 u3 u4 u5 u6 u7 u8 u9 u10 u11 u12 u13 u14 u15 u16 u17 u18 u19 u20 u21 u22 u23 u24 u25 u26 u27 u28 u29 u30 u31 u32 u33 u34 u35 : Value), a = { tmps := #[u0, u1, u2, u3, u4, u5, u6, u7, u8, u9, u10, u11, u12, u13, u14, u15, u16, u17, u18, u19, u20, u21, u22, u23, u24, u25, u26, u27, u28, u29, u30, u31, u32, u33, u34, u35], defers := [] } ∧ w = w') (fun _ _ => 0) rfl ?_ ?_
  · rintro a w' ⟨u0, u1, u2, u3, u4, u5, u6, u7, u8, u9, u10, u11, u12, u13, u14, u15, u16, u17, u18, u19, u20, u21, u22, u23, u24, u25, u26, u27, u28, u29, u30, u31, u32, u33, u34, u35, rfl, rfl⟩
    go_wp2_with fail
    try rw [Exit.jump_ret]
    go_ret3
    exact ⟨rfl, rfl⟩
  · intro H
    go_wp2_with fail
    go_loop [2, 9] (fun t j => ∃ (i acc : Nat), i ≤ n ∧ j = .int .i64 i ∧ t = .int .i64 acc ∧ Hid (At bs i acc none)) (fun _ j => n - (intOf j).toNat)
    case atStart => exact ⟨0, 0, Nat.zero_le _, rfl, rfl, by rw [← HG.out]; exact At.start bs⟩
    case round =>
      obtain ⟨i, acc, hin, rfl, rfl, HA⟩ := hrel
      by_cases hlt : i < n
      · obtain ⟨b, off, u, rfl, HU, hc, _⟩ := hs.byte hlt
        have hub : u.toNat < 256 := u.toNat_lt
        clear hs
        by_cases hi9 : i < 9
        · obtain ⟨x, y, acc', HX, HY, hlow, hmod, hx127, hsh, hor, hacc⟩ := step_names u HA.out.2.1 (show i ≤ 8 by omega)
          by_cases hh : 128 ≤ u.toNat
          · have HN : Hid (At bs (i + 1) acc' none) := by have := HA.out.next HU.out hi9 hh; rwa [HY.out] at this
            clear hmod
            go_wp2_with fail
            go_round
            case rel => exact ⟨i + 1, acc', by omega, by go_num, rfl, HN⟩
            case measure => simp [intOf]; omega
          · have hl := HA.out.last HU.out hi9 (by omega)
            have hz : 0 < i ∧ u.toNat = 0 := by
              apply Classical.byContradiction
              intro h
              rw [if_neg h] at hl
              cases hl
            obtain ⟨hz1, hz2⟩ := hz
            have hb0 : ((u.toNat : Int) == 0) = true := by simp; omega
            clear hl hmod hz2
            go_wp2_with fail
            go_step3
            repeat (first | refine Exit.then_goto ?_ | refine Exit.inBlock_goto ?_)
            exact Exit.jump_goto ⟨_, _, _, _, _, _, _, _, _, _, _, _, _, _, _, _, _, _, _, _, _, _, _, _, _, _, _, _, _, _, _, _, _, _, _, _, rfl, rfl⟩
        · have hi9' : i = 9 := by have := HA.out.1; omega
          have hb9 : ((i : Int) == 9) = true := by simp; omega
          clear hi9'
          go_wp2_with fail
          go_step3
          repeat (first | refine Exit.then_goto ?_ | refine Exit.inBlock_goto ?_)
          exact Exit.jump_goto ⟨_, _, _, _, _, _, _, _, _, _, _, _, _, _, _, _, _, _, _, _, _, _, _, _, _, _, _, _, _, _, _, _, _, _, _, _, rfl, rfl⟩
      · go_wp2_with fail
        go_step3
        rename_i hk _
        exact hk _ _ (H _ _ ⟨_, _, _, _, _, _, _, _, _, _, _, _, _, _, _, _, _, _, _, _, _, _, _, _, _, _, _, _, _, _, _, _, _, _, _, _, rfl, rfl⟩)
end Go.Proofs.Ytflamhndmggiaaa
/-
  Contracts of the reference's reading of a number.
-/
namespace Go.Proofs.Ytflamhndmggiaaa
open Go.RowKit

/-- How many bytes a number has that ends at the i-th byte. -/
theorem enc_len_at {acc i c : Nat} (ha : acc < 128 ^ i) (hc : c < 128) : (enc (acc + 128 ^ i * c)).length = i + 1 ↔ ¬ (0 < i ∧ c = 0) := by
  rcases Nat.eq_zero_or_pos i with rfl | hi
  · have : acc = 0 := by simpa using ha
    subst this
    simp [enc_lt hc]
  · constructor
    · rintro h ⟨_, rfl⟩
      obtain ⟨k, rfl⟩ : ∃ k, i = k + 1 := ⟨i - 1, by omega⟩
      have := enc_len_le k acc ha
      simp at h
      omega
    · intro h
      have hc0 : 1 ≤ c := by omega
      have h1 : 128 ^ i ≤ acc + 128 ^ i * c := by
        have : 128 ^ i * 1 ≤ 128 ^ i * c := Nat.mul_le_mul_left _ hc0
        omega
      have h2 := enc_len_gt i _ h1 hi
      have h3 : acc + 128 ^ i * c < 128 ^ (i + 1) := by
        rw [Nat.pow_succ]
        have : 128 ^ i * c ≤ 128 ^ i * 127 := Nat.mul_le_mul_left _ (by omega)
        omega
      have h4 := enc_len_le i _ h3
      omega

/-- The number and its bytes; 0, 0: there is none. -/
def gotN (bs : List UInt8) : Nat × Nat := (getN bs).getD (0, 0)

set_option maxRecDepth 100000 in
set_option maxHeartbeats 1000000 in
theorem ref2_GetNum {A : Option Addr} {n c : Nat} {bs : List UInt8} (w : World) (hs : Sl w 1 A n (bytes8 bs)) (hn : n ≤ 9223372036854775807) :
    Calls Try.prog 33 #[.slice A n c] w fun e w' => e = .returned (.tuple #[.int .i64 (gotN bs).1, .int .i64 (gotN bs).2]) ∧ Below w.heap.size w w' := by
  have HL := hide hs.blen
  obtain ⟨o, HG⟩ : ∃ o, Hid (getN bs = o) := ⟨_, rfl⟩
  have HO : Hid (gotN bs = o.getD (0, 0)) := by have := HG.out; rw [Hid, gotN, this]
  go_enter Try.func33, Try.ntmps33
  go_wp2_with fail
  go_loop [4, 5] (fun t j => ∃ (i acc : Nat), i ≤ n ∧ i ≤ 9 ∧ j = .int .i64 i ∧ t = .int .i64 acc ∧ Hid (At bs i acc o)) (fun _ j => n - (intOf j).toNat)
  case atStart => exact ⟨0, 0, Nat.zero_le _, by omega, rfl, rfl, by rw [← HG.out]; exact At.start bs⟩
  case round =>
    obtain ⟨i, acc, hin, hi, rfl, rfl, HA⟩ := hrel
    by_cases hlt : i < n
    · by_cases hi9 : i < 9
      · obtain ⟨b, off, u, rfl, HU, hc, _⟩ := hs.byte hlt
        have hub : u.toNat < 256 := u.toNat_lt
        clear hs
        obtain ⟨x, y, acc', HX, HY, hlow, hmod, hx127, hsh, hor, hacc⟩ := step_names u HA.out.2.1 (show i ≤ 8 by omega)
        by_cases hh : 128 ≤ u.toNat
        · have HN : Hid (At bs (i + 1) acc' o) := by have := HA.out.next HU.out hi9 hh; rwa [HY.out] at this
          clear hlow
          go_wp2_with fail
          go_round
          case rel => exact ⟨i + 1, acc', by omega, by omega, by go_num, rfl, HN⟩
          case measure => simp [intOf]; omega
        · have hl := HA.out.last HU.out hi9 (by omega)
          have E1 := HY.out
          rw [Nat.mod_eq_of_lt (show u.toNat < 128 by omega)] at E1
          have hel := enc_len_at HA.out.2.1 (show u.toNat < 128 by omega)
          rw [E1] at hel hl
          have HEL := hide hel
          have HLA := hide hl
          clear hel hl hlow E1
          obtain ⟨L, HLL⟩ : ∃ L, Hid ((enc acc').length = L) := ⟨_, rfl⟩
          have hL9 : L ≤ 9 := by rw [← HLL.out]; exact enc_len_63 (by omega)
          have hi0 : (0 : Int) ≤ i := by omega
          by_cases hq : L = i + 1
          · have hb : ((L : Int) != (i : Int) + 1) = false := by simp; omega
            have HF : Hid (gotN bs = (acc', i + 1)) := by
              have h1 := HLL.out
              rw [hq] at h1
              have h2 := HEL.out.mp h1
              have h3 := HLA.out
              rw [if_neg h2] at h3
              rw [Hid, HO.out, h3]; rfl
            clear hq
            go_wp2_with (first | (go_at_call 32; refine (ref2_Num acc' _ (by omega)).mono ?_; rintro e w1 ⟨v, rfl, hown, hb1⟩; rw [HLL.out] at hown; obtain ⟨A1, c1, rfl⟩ := own_slice hown))
            try rw [Exit.noGoto_ret]
            go_ret2
            exact ⟨by rw [HF.out]; rfl, hb1⟩
          · have hb : ((L : Int) != (i : Int) + 1) = true := by simp; omega
            have HF : Hid (gotN bs = (0, 0)) := by
              have h2 : ¬ ¬ (0 < i ∧ u.toNat = 0) := fun h => hq (by rw [← HLL.out]; exact HEL.out.mpr h)
              have h3 := HLA.out
              rw [if_pos (Classical.not_not.mp h2)] at h3
              rw [Hid, HO.out, h3]; rfl
            clear hq
            go_wp2_with (first | (go_at_call 32; refine (ref2_Num acc' _ (by omega)).mono ?_; rintro e w1 ⟨v, rfl, hown, hb1⟩; rw [HLL.out] at hown; obtain ⟨A1, c1, rfl⟩ := own_slice hown))
            try rw [Exit.noGoto_ret]
            go_ret2
            exact ⟨by rw [HF.out]; rfl, hb1⟩
      · have HF : Hid (gotN bs = (0, 0)) := by
          have h1 : i = 9 := by omega
          have h2 := HA.out
          rw [h1] at h2
          rw [Hid, HO.out, h2.nine]; rfl
        go_wp2_with fail
        try rw [Exit.noGoto_ret]
        go_ret2
        exact ⟨by rw [HF.out]; rfl, Below.refl _ _⟩
    · have HF : Hid (gotN bs = (0, 0)) := by
        rw [Hid, HO.out, HA.out.out (by rw [HL.out]; omega)]; rfl
      go_wp2_with fail
      try rw [Exit.noGoto_ret]
      go_ret2
      exact ⟨by rw [HF.out]; rfl, Below.refl _ _⟩
end Go.Proofs.Ytflamhndmggiaaa
/-
  Contracts of laying texts as bytes: wire's own.
-/
namespace Go.Proofs.Ytflamhndmggiaaa
open Go.RowKit

/-- Texts' bytes, behind the count. -/
def txt (ls : List ByteArray) : List UInt8 := ls.flatMap fun s => enc s.size ++ s.data.toList
/-- Texts' bytes. -/
def putB (ls : List ByteArray) : List UInt8 := enc ls.length ++ txt ls
theorem txt_nil : txt [] = [] := rfl
theorem txt_append (a b : List ByteArray) : txt (a ++ b) = txt a ++ txt b := by simp [txt]
theorem txt_snoc (a : List ByteArray) (s : ByteArray) : txt (a ++ [s]) = txt a ++ enc s.size ++ s.data.toList := by simp [txt]
theorem txt_take {ls : List ByteArray} {k : Nat} {u : ByteArray} (h : ls[k]? = some u) : txt (ls.take (k + 1)) = txt (ls.take k) ++ enc u.size ++ u.data.toList := by
  rw [take_at h, txt_snoc]
theorem bytes_len (s : ByteArray) : s.data.toList.length = s.size := by rw [Array.length_toList]; rfl
theorem txt_take_le (ls : List ByteArray) (k : Nat) : (txt (ls.take k)).length ≤ (txt ls).length := by
  have h : txt ls = txt (ls.take k) ++ txt (ls.drop k) := by rw [← txt_append, List.take_append_drop]
  rw [h, List.length_append]; omega
theorem strCells_bytes8 (s : ByteArray) : Go.Lib.strCells s = bytes8 s.data.toList := rfl

set_option maxRecDepth 100000 in
set_option maxHeartbeats 1000000 in
theorem wire_Put {A : Option Addr} {n c : Nat} {ls : List ByteArray} (w : World) (hs : Sl w 1 A n (strs ls)) (hn : n ≤ 1099511627776) (hb : (putB ls).length ≤ 1048576) :
    Calls Try.prog 48 #[.slice A n c] w fun e w' => ∃ v', e = .returned (.tuple #[v', .int .i64 0]) ∧ w'.ownsRow w.heap.size 5 1 v' (putB ls).length (bytes8 (putB ls)) ∧ Below w.heap.size w w' := by
  have HL := hide hs.slen
  have HB := hide hb
  clear hb
  obtain ⟨i0, hi, hz0, hz1, hz2⟩ := info_parts Try.infoByte
  go_enter Try.func48, Try.ntmps48
  go_wp2_with fail
  go_step3
  go_wp2_with (go_at_call 72; refine (wire_num w.heap.size _ n [] _ (World.ownsRow_nil _ _ _ _) (Nat.le_refl _) (by omega) (by simp)).mono ?_; rintro e w1 ⟨v1, rfl, hown1, hb1⟩)
  have hz1' := hb1.size
  go_loopw [4, 12] (fun b i wr => ∃ (k : Nat) (ys : List UInt8), k ≤ n ∧ i = .int .i64 k ∧ Hid (enc n ++ txt (ls.take k) = ys) ∧ ys.length ≤ 1048576 ∧ wr.ownsRow w.heap.size 5 1 b ys.length (bytes8 ys) ∧ Below w.heap.size w wr) (fun _ i _ => n - (intOf i).toNat)
  case atStart => exact ⟨0, enc n, Nat.zero_le _, rfl, by simp [Hid, txt_nil], by have := enc_len_63 (n := n) (by omega); omega, hown1, hb1⟩
  case round =>
    obtain ⟨k, ys, hk, rfl, HY, hyl, hown, hb⟩ := hrel
    have hsz := hb.size
    have hTot : Hid ((enc n ++ txt ls).length ≤ 1048576) := by have := HB.out; rw [putB, HL.out] at this; exact this
    clear hown1 hb1 hz1'
    obtain ⟨wo, rfl⟩ : ∃ wo : World, wo = wr := ⟨_, rfl⟩
    by_cases hlt : k < n
    · obtain ⟨b, off, u, rfl, HU, hc, _⟩ := hs.str hlt
      have hc' := cell_later hb hc
      clear hc hs
      obtain ⟨zs, HZ⟩ : ∃ zs, Hid (ys ++ enc u.size = zs) := ⟨_, rfl⟩
      have HQ : Hid (enc n ++ txt (ls.take (k + 1)) = zs ++ u.data.toList) := by
        rw [Hid, txt_take HU.out, ← HZ.out, ← HY.out]; simp
      have hq : zs.length + u.size ≤ 1048576 := by
        have h1 := HQ.out
        have h2 := congrArg List.length h1
        have h3 := txt_take_le ls (k + 1)
        have h4 := hTot.out
        rw [List.length_append, List.length_append, bytes_len] at h2
        rw [List.length_append] at h4
        omega
      go_wp2_with (first
        | (go_at_call 72; refine (wire_num w.heap.size _ u.size ys _ hown (by omega) (by omega) (by omega)).mono ?_; rintro e w2 ⟨v2, rfl, hown2, hb2⟩; rw [HZ.out] at hown2; have hb3 := hb.trans hb2; have hsz3 := hb3.size; obtain ⟨A2, c2, rfl⟩ := own_slice hown2)
        | (at_builtin; refine Go.Lib.wpList_append_own_string _ rfl _ _ 28 9 rfl w.heap.size 5 i0 Try.underlying28 Try.underlying9 hi hz0 hz1 hz2 _ _ _ rfl hown2 _ rfl ?c1 ?c2 ?c3 ?_))
      case c1 => unfold maxLen; omega
      case c2 => omega
      case c3 => omega
      intro v3 w3 hown3 hg _
      have hb4 : Below w.heap.size w w3 := hb3.grown hg (by omega) (fun g hg' => (hown2.lt g hg').1)
      have hown4 : w3.ownsRow w.heap.size 5 1 v3 (zs ++ u.data.toList).length (bytes8 (zs ++ u.data.toList)) := by rw [bytes8_append, List.length_append, bytes_len]; exact hown3
      have hfl : (zs ++ u.data.toList).length ≤ 1048576 := by rw [List.length_append, bytes_len]; exact hq
      clear hown3 hg hown2 hb3 hown hb hb2
      go_wp2_with fail
      go_roundw
      case rel => exact ⟨k + 1, _, by omega, by go_num, HQ, hfl, hown4, hb4⟩
      case measure => simp [intOf]; omega
    · obtain rfl : k = n := by omega
      have HF : Hid (ys = putB ls) := by
        have h := HY.out
        rw [List.take_of_length_le (by rw [HL.out]; exact Nat.le_refl _)] at h
        rw [Hid, putB, HL.out, h]
      obtain ⟨A2, c2, rfl⟩ := own_slice hown
      go_wp2_with fail
      try rw [Exit.noGoto_ret]
      go_ret2
      refine ⟨_, rfl, ?_, hb⟩
      rw [← HF.out]
      exact hown
end Go.Proofs.Ytflamhndmggiaaa
/-
  Contracts of laying numbers as bytes: wire's own.
-/
namespace Go.Proofs.Ytflamhndmggiaaa
open Go.RowKit

/-- Numbers' bytes, behind the count. -/
def nums (xs : List Int) : List UInt8 := xs.flatMap fun x => enc x.toNat
/-- Numbers' bytes. -/
def numsB (xs : List Int) : List UInt8 := enc xs.length ++ nums xs
theorem nums_append (a b : List Int) : nums (a ++ b) = nums a ++ nums b := by simp [nums]
theorem nums_take {xs : List Int} {k : Nat} {u : Int} (h : xs[k]? = some u) : nums (xs.take (k + 1)) = nums (xs.take k) ++ enc u.toNat := by
  rw [take_at h, nums_append]; simp [nums]
theorem nums_take_le (xs : List Int) (k : Nat) : (nums (xs.take k)).length ≤ (nums xs).length := by
  have h : nums xs = nums (xs.take k) ++ nums (xs.drop k) := by rw [← nums_append, List.take_append_drop]
  rw [h, List.length_append]; omega

set_option maxRecDepth 100000 in
set_option maxHeartbeats 1000000 in
theorem wire_Nums_yes {A : Option Addr} {n c : Nat} {xs : List Int} (w : World) (hs : Sl w 1 A n (ints xs)) (hn : n ≤ 1099511627776) (h0 : ∀ x ∈ xs, 0 ≤ x ∧ x ≤ 9223372036854775807) (hb : (numsB xs).length ≤ 1048576) :
    Calls Try.prog 49 #[.slice A n c] w fun e w' => ∃ v', e = .returned (.tuple #[v', .int .i64 0]) ∧ w'.ownsRow w.heap.size 5 1 v' (numsB xs).length (bytes8 (numsB xs)) ∧ Below w.heap.size w w' := by
  have HL := hide hs.ilen
  have HB := hide hb
  have H0 := hide h0
  clear hb h0
  go_enter Try.func49, Try.ntmps49
  go_wp2_with (go_at_call 72; refine (wire_num w.heap.size _ n [] _ (World.ownsRow_nil _ _ _ _) (Nat.le_refl _) (by omega) (by simp)).mono ?_; rintro e w1 ⟨v1, rfl, hown1, hb1⟩)
  have hz1' := hb1.size
  go_loopw [4, 12] (fun b i wr => ∃ (k : Nat) (ys : List UInt8), k ≤ n ∧ i = .int .i64 k ∧ Hid (enc n ++ nums (xs.take k) = ys) ∧ ys.length ≤ 1048576 ∧ wr.ownsRow w.heap.size 5 1 b ys.length (bytes8 ys) ∧ Below w.heap.size w wr) (fun _ i _ => n - (intOf i).toNat)
  case atStart => exact ⟨0, enc n, Nat.zero_le _, rfl, by simp [Hid, nums], by have := enc_len_63 (n := n) (by omega); omega, hown1, hb1⟩
  case round =>
    obtain ⟨k, ys, hk, rfl, HY, hyl, hown, hb⟩ := hrel
    have hsz := hb.size
    have hTot : Hid ((enc n ++ nums xs).length ≤ 1048576) := by have := HB.out; rw [numsB, HL.out] at this; exact this
    clear hown1 hb1 hz1'
    obtain ⟨wo, rfl⟩ : ∃ wo : World, wo = wr := ⟨_, rfl⟩
    obtain ⟨A2, c2, rfl⟩ := own_slice hown
    by_cases hlt : k < n
    · obtain ⟨b, off, u, rfl, HU, hc, _⟩ := hs.int hlt
      have hc' := cell_later hb hc
      obtain ⟨hu0, hu1⟩ := H0.out u (List.mem_of_getElem? HU.out)
      obtain ⟨m, rfl⟩ : ∃ m : Nat, u = (m : Int) := ⟨u.toNat, by omega⟩
      have hm : m ≤ 9223372036854775807 := by omega
      clear hc hs hu0 hu1
      have HQ : Hid (enc n ++ nums (xs.take (k + 1)) = ys ++ enc m) := by
        rw [Hid, nums_take HU.out, ← HY.out]; simp
      have hq : (ys ++ enc m).length ≤ 1048576 := by
        have h2 := congrArg List.length HQ.out
        have h3 := nums_take_le xs (k + 1)
        have h4 := hTot.out
        rw [List.length_append] at h2 h4
        omega
      obtain ⟨yl, HYL⟩ : ∃ yl, Hid (ys.length = yl) := ⟨_, rfl⟩
      go_wp2_with (first
        | (go_at_call 72; refine (wire_num w.heap.size _ m ys _ hown (by omega) (by omega) (by omega)).mono ?_; rintro e w2 ⟨v2, rfl, hown2, hb2⟩; have hb3 := hb.trans hb2))
      go_roundw
      case rel => exact ⟨k + 1, _, by omega, by go_num, HQ, hq, hown2, hb3⟩
      case measure => simp [intOf]; omega
    · obtain rfl : k = n := by omega
      have HF : Hid (ys = numsB xs) := by
        have h := HY.out
        rw [List.take_of_length_le (by rw [HL.out]; exact Nat.le_refl _)] at h
        rw [Hid, numsB, HL.out, h]
      go_wp2_with fail
      go_ret2
      refine ⟨_, rfl, ?_, hb⟩
      rw [← HF.out]
      exact hown

set_option maxRecDepth 100000 in
set_option maxHeartbeats 1000000 in
theorem wire_Nums_no {A : Option Addr} {n c : Nat} {xs : List Int} (w : World) (hs : Sl w 1 A n (ints xs)) (hn : n ≤ 1099511627776) (h0 : ∃ x ∈ xs, x < 0) (h1 : ∀ x ∈ xs, x ≤ 9223372036854775807) :
    Calls Try.prog 49 #[.slice A n c] w fun e w' => e = .returned (.tuple #[.slice none 0 0, .int .i64 1]) ∧ Below w.heap.size w w' := by
  have HL := hide hs.ilen
  have H0 := hide h0
  have H1 := hide h1
  clear h0 h1
  go_enter Try.func49, Try.ntmps49
  go_wp2_with (go_at_call 72; refine (wire_num w.heap.size _ n [] _ (World.ownsRow_nil _ _ _ _) (Nat.le_refl _) (by omega) (by simp)).mono ?_; rintro e w1 ⟨v1, rfl, hown1, hb1⟩)
  have hz1' := hb1.size
  go_loopw [4, 12] (fun b i wr => ∃ (k : Nat) (ys : List UInt8), k ≤ n ∧ i = .int .i64 k ∧ Hid (∀ x ∈ xs.take k, 0 ≤ x) ∧ ys.length ≤ 1048600 ∧ wr.ownsRow w.heap.size 5 1 b ys.length (bytes8 ys) ∧ Below w.heap.size w wr) (fun _ i _ => n - (intOf i).toNat)
  case atStart => exact ⟨0, enc n, Nat.zero_le _, rfl, by simp [Hid], by have := enc_len_63 (n := n) (by omega); omega, hown1, hb1⟩
  case round =>
    obtain ⟨k, ys, hk, rfl, HY, hyl, hown, hb⟩ := hrel
    have hsz := hb.size
    clear hown1 hb1 hz1'
    obtain ⟨wo, rfl⟩ : ∃ wo : World, wo = wr := ⟨_, rfl⟩
    obtain ⟨A2, c2, rfl⟩ := own_slice hown
    have hlt : k < n := by
      apply Nat.lt_of_not_le
      intro h
      obtain ⟨x, hx, hn0⟩ := H0.out
      have := HY.out x (by rw [List.take_of_length_le (by rw [HL.out]; exact h)]; exact hx)
      omega
    obtain ⟨b, off, u, rfl, HU, hc, _⟩ := hs.int hlt
    have hc' := cell_later hb hc
    have hu1 := H1.out u (List.mem_of_getElem? HU.out)
    clear hc hs
    by_cases hu0 : u < 0
    · go_wp2_with fail
      try rw [Exit.noGoto_ret]
      go_ret2
      exact ⟨rfl, hb⟩
    · obtain ⟨m, rfl⟩ : ∃ m : Nat, u = (m : Int) := ⟨u.toNat, by omega⟩
      have hm : m ≤ 9223372036854775807 := by omega
      have HQ : Hid (∀ x ∈ xs.take (k + 1), 0 ≤ x) := by
        intro x hx
        rw [take_at HU.out, List.mem_append] at hx
        rcases hx with hx | hx
        · exact HY.out x hx
        · simp at hx; omega
      clear hu0 hu1
      by_cases hy : ys.length ≤ 1048576
      · have hd : decide ((ys.length : Int) ≤ 1048576) = true := by rw [decide_eq_true_eq]; omega
        have hel := enc_len_63 (n := m) (by omega)
        have hq : (ys ++ enc m).length ≤ 1048600 := by rw [List.length_append]; omega
        go_wp2_with (first
          | (go_at_call 72; refine (wire_num w.heap.size _ m ys _ hown (by omega) (by omega) (by omega)).mono ?_; rintro e w2 ⟨v2, rfl, hown2, hb2⟩; have hb3 := hb.trans hb2))
        go_roundw
        case rel => exact ⟨k + 1, _, by omega, by go_num, HQ, hq, hown2, hb3⟩
        case measure => simp [intOf]; omega
      · have hd : decide ((ys.length : Int) ≤ 1048576) = false := by rw [decide_eq_false_iff_not]; omega
        clear hy
        go_wp2_with fail
        go_roundw
        case rel => exact ⟨k + 1, ys, by omega, by go_num, HQ, hyl, hown, hb⟩
        case measure => simp [intOf]; omega
end Go.Proofs.Ytflamhndmggiaaa
/-
  What bytes are read as: texts, numbers: plain facts, over no program.
-/
namespace Go.Proofs.Ytflamhndmggiaaa

/-- A text of bytes. -/
def tx (bs : List UInt8) : ByteArray := ⟨bs.toArray⟩
theorem tx_size (bs : List UInt8) : (tx bs).size = bs.length := by show bs.toArray.size = _; simp
theorem tx_data (bs : List UInt8) : (tx bs).data.toList = bs := by simp [tx]
theorem tx_of (s : ByteArray) : tx s.data.toList = s := by cases s; simp [tx]

/-- Things, so many, to the end. -/
def rdL {α : Type} (one : List UInt8 → Option (α × List UInt8)) : Nat → List UInt8 → Option (List α)
  | 0, r => if r = [] then some [] else none
  | n + 1, r =>
    match one r with
    | none => none
    | some (a, r') =>
      match rdL one n r' with
      | none => none
      | some l => some (a :: l)
/-- Things, of whole bytes. -/
def getL {α : Type} (one : List UInt8 → Option (α × List UInt8)) (bs : List UInt8) : Option (List α) :=
  if 1048576 < bs.length then none else
  match getN bs with
  | none => none
  | some (m, k) => if m ≤ (bs.drop k).length then rdL one m (bs.drop k) else none
def oneT (r : List UInt8) : Option (ByteArray × List UInt8) :=
  match getN r with
  | none => none
  | some (m, k) => if m ≤ (r.drop k).length then some (tx ((r.drop k).take m), (r.drop k).drop m) else none
def oneI (r : List UInt8) : Option (Int × List UInt8) :=
  match getN r with
  | none => none
  | some (m, k) => some ((m : Int), r.drop k)
def getT (bs : List UInt8) : Option (List ByteArray) := getL oneT bs
def getI (bs : List UInt8) : Option (List Int) := getL oneI bs

theorem getN_some {bs : List UInt8} {m k : Nat} (h : getN bs = some (m, k)) : m ≤ 9223372036854775807 ∧ k = (enc m).length ∧ bs = enc m ++ bs.drop k ∧ 0 < k ∧ k ≤ bs.length := by
  obtain ⟨h1, h2, r, h3⟩ := dec_some 9 bs m k h
  have e : (128 : Nat) ^ 9 = 9223372036854775808 := by decide
  have h4 : bs.drop k = r := by rw [h3, h2]; simp
  refine ⟨by omega, h2, by rw [h4]; exact h3, by rw [h2]; exact enc_pos m, ?_⟩
  rw [h3, h2]; simp
theorem getN_of (m : Nat) (hm : m ≤ 9223372036854775807) (r : List UInt8) : getN (enc m ++ r) = some (m, (enc m).length) :=
  dec_enc 9 m r (by have : (128 : Nat) ^ 9 = 9223372036854775808 := by decide
                    omega) (by omega)

/-- A way to lay things as bytes, and to read them. -/
structure Codec {α : Type} (one : List UInt8 → Option (α × List UInt8)) (e : α → List UInt8) (dom : α → Prop) : Prop where
  pos : ∀ a, 0 < (e a).length
  there : ∀ a r, dom a → one (e a ++ r) = some (a, r)
  back : ∀ r a r', one r = some (a, r') → r = e a ++ r' ∧ dom a

def encT (s : ByteArray) : List UInt8 := enc s.size ++ s.data.toList
def encI (n : Int) : List UInt8 := enc n.toNat
theorem codecT : Codec oneT encT (fun s => s.size ≤ 9223372036854775807) := by
  refine ⟨fun a => ?_, fun a r h => ?_, fun r a r' h => ?_⟩
  · have := enc_pos a.size
    simp only [encT, List.length_append]; omega
  · unfold oneT encT
    rw [List.append_assoc, getN_of _ h]
    simp only [List.drop_left']
    rw [if_pos (by rw [List.length_append, bytes_len]; omega)]
    have e1 : (a.data.toList ++ r).take a.size = a.data.toList := List.take_left' (bytes_len a)
    have e2 : (a.data.toList ++ r).drop a.size = r := List.drop_left' (bytes_len a)
    rw [e1, e2, tx_of]
  · unfold oneT at h
    cases hg : getN r with
    | none => rw [hg] at h; cases h
    | some p =>
      obtain ⟨m, k⟩ := p
      rw [hg] at h
      simp only at h
      by_cases hm : m ≤ (r.drop k).length
      · rw [if_pos hm] at h
        injection h with h
        injection h with e1 e2
        subst e1; subst e2
        obtain ⟨h1, h2, h3, _, _⟩ := getN_some hg
        have hs : (tx ((r.drop k).take m)).size = m := by rw [tx_size, List.length_take]; omega
        refine ⟨?_, by rw [hs]; exact h1⟩
        unfold encT
        rw [hs, tx_data, List.append_assoc, List.take_append_drop]
        exact h3
      · rw [if_neg hm] at h; cases h
theorem codecI : Codec oneI encI (fun n => 0 ≤ n ∧ n ≤ 9223372036854775807) := by
  refine ⟨fun a => enc_pos _, fun a r h => ?_, fun r a r' h => ?_⟩
  · unfold oneI encI
    rw [getN_of _ (by omega)]
    simp only [List.drop_left']
    congr 2
    omega
  · unfold oneI at h
    cases hg : getN r with
    | none => rw [hg] at h; cases h
    | some p =>
      obtain ⟨m, k⟩ := p
      rw [hg] at h
      injection h with h
      injection h with e1 e2
      subst e1; subst e2
      obtain ⟨h1, h2, h3, _, _⟩ := getN_some hg
      refine ⟨?_, by omega⟩
      unfold encI
      rw [Int.toNat_natCast]
      exact h3

section
variable {α : Type} {one : List UInt8 → Option (α × List UInt8)} {e : α → List UInt8} {dom : α → Prop}
/-- Things' bytes. -/
def putL (e : α → List UInt8) (l : List α) : List UInt8 := enc l.length ++ l.flatMap e
theorem rdL_there (C : Codec one e dom) : ∀ (l : List α), (∀ a ∈ l, dom a) → rdL one l.length (l.flatMap e) = some l
  | [], _ => rfl
  | a :: l, h => by
    rw [List.flatMap_cons, List.length_cons, rdL, C.there a _ (h a (by simp))]
    simp only
    rw [rdL_there C l (fun b hb => h b (by simp [hb]))]
theorem rdL_back (C : Codec one e dom) : ∀ (n : Nat) (r : List UInt8) (l : List α), rdL one n r = some l → r = l.flatMap e ∧ l.length = n ∧ ∀ a ∈ l, dom a
  | 0, r, l, h => by
    rw [rdL] at h
    by_cases hr : r = []
    · rw [if_pos hr] at h
      injection h with h
      subst h
      exact ⟨by simpa using hr, rfl, by simp⟩
    · rw [if_neg hr] at h; cases h
  | n + 1, r, l, h => by
    rw [rdL] at h
    cases h1 : one r with
    | none => rw [h1] at h; cases h
    | some p =>
      obtain ⟨a, r'⟩ := p
      rw [h1] at h
      simp only at h
      cases h2 : rdL one n r' with
      | none => rw [h2] at h; cases h
      | some l' =>
        rw [h2] at h
        injection h with h
        subst h
        obtain ⟨g1, g2, g3⟩ := rdL_back C n r' l' h2
        obtain ⟨g4, g5⟩ := C.back r a r' h1
        refine ⟨by rw [List.flatMap_cons, ← g1]; exact g4, by simp [g2], ?_⟩
        intro b hb
        rcases List.mem_cons.1 hb with rfl | hb
        · exact g5
        · exact g3 b hb
theorem flat_len (hpos : ∀ a, 0 < (e a).length) : ∀ l : List α, l.length ≤ (l.flatMap e).length
  | [] => by simp
  | a :: l => by
    have := flat_len hpos l
    have := hpos a
    rw [List.flatMap_cons, List.length_append, List.length_cons]
    omega
theorem rdL_le (C : Codec one e dom) {n : Nat} {r : List UInt8} {l : List α} (h : rdL one n r = some l) : n ≤ r.length := by
  obtain ⟨h1, h2, _⟩ := rdL_back C n r l h
  have := flat_len C.pos l
  rw [← h1] at this
  omega
theorem getL_there (C : Codec one e dom) {l : List α} (h : ∀ a ∈ l, dom a) (hl : (putL e l).length ≤ 1048576) : getL one (putL e l) = some l := by
  have hc : l.length ≤ (l.flatMap e).length := flat_len C.pos l
  have hn : l.length ≤ 1048576 := by
    rw [putL, List.length_append] at hl; omega
  unfold getL
  rw [if_neg (by omega), putL, getN_of _ (by omega)]
  simp only [List.drop_left']
  rw [if_pos hc]
  exact rdL_there C l h
theorem getL_back (C : Codec one e dom) {bs : List UInt8} {l : List α} (h : getL one bs = some l) : bs = putL e l ∧ bs.length ≤ 1048576 ∧ ∀ a ∈ l, dom a := by
  unfold getL at h
  by_cases hb : 1048576 < bs.length
  · rw [if_pos hb] at h; cases h
  · rw [if_neg hb] at h
    cases hg : getN bs with
    | none => rw [hg] at h; cases h
    | some p =>
      obtain ⟨m, k⟩ := p
      rw [hg] at h
      simp only at h
      by_cases hm : m ≤ (bs.drop k).length
      · rw [if_pos hm] at h
        obtain ⟨h1, h2, h3⟩ := rdL_back C m _ l h
        obtain ⟨_, _, h5, _⟩ := getN_some hg
        refine ⟨?_, by omega, h3⟩
        rw [putL, h2, ← h1]
        exact h5
      · rw [if_neg hm] at h; cases h
/-- How many there are is asked of the rest, or of all: it is one. -/
theorem getL_eq (C : Codec one e dom) {bs : List UInt8} {m k : Nat} (hb : bs.length ≤ 1048576) (hg : getN bs = some (m, k)) : getL one bs = rdL one m (bs.drop k) := by
  unfold getL
  rw [if_neg (by omega), hg]
  simp only
  by_cases hm : m ≤ (bs.drop k).length
  · rw [if_pos hm]
  · rw [if_neg hm]
    cases h : rdL one m (bs.drop k) with
    | none => rfl
    | some l => exact absurd (rdL_le C h) hm
/-- No things' bytes begin with other things' bytes. -/
theorem flat_free (C : Codec one e dom) : ∀ (l l' : List α) (r : List UInt8), l.length = l'.length → (∀ a ∈ l, dom a) → (∀ a ∈ l', dom a) → l.flatMap e ++ r = l'.flatMap e → l = l' ∧ r = []
  | [], [], r, _, _, _, h => ⟨rfl, by simpa using h⟩
  | a :: l, b :: l', r, hl, hd, hd', h => by
    rw [List.flatMap_cons, List.flatMap_cons, List.append_assoc] at h
    have h1 := C.there a (l.flatMap e ++ r) (hd a (by simp))
    have h2 := C.there b (l'.flatMap e) (hd' b (by simp))
    rw [h, h2] at h1
    injection h1 with h1
    injection h1 with e1 e2
    subst e1
    obtain ⟨g1, g2⟩ := flat_free C l l' r (by simpa using hl) (fun a ha => hd a (by simp [ha])) (fun a ha => hd' a (by simp [ha])) e2.symm
    exact ⟨by rw [g1], g2⟩
theorem put_free (C : Codec one e dom) {l l' : List α} {r : List UInt8} (hl : l.length ≤ 1048576) (hl' : l'.length ≤ 1048576) (hd : ∀ a ∈ l, dom a) (hd' : ∀ a ∈ l', dom a) (h : putL e l ++ r = putL e l') : l = l' ∧ r = [] := by
  unfold putL at h
  rw [List.append_assoc] at h
  have h1 := getN_of l.length (by omega) (l.flatMap e ++ r)
  have h2 := getN_of l'.length (by omega) (l'.flatMap e)
  rw [h, h2] at h1
  injection h1 with h1
  injection h1 with e1 e2
  rw [e1] at h
  exact flat_free C l l' r e1.symm hd hd' (List.append_cancel_left h)
theorem put_count (hpos : ∀ a, 0 < (e a).length) (l : List α) : l.length ≤ (putL e l).length := by
  have := flat_len hpos l
  rw [putL, List.length_append]; omega
/-- With something behind they are none. -/
theorem getL_behind (C : Codec one e dom) {l : List α} (hd : ∀ a ∈ l, dom a) (hl : (putL e l).length ≤ 1048576) {r : List UInt8} (hr : r ≠ []) : getL one (putL e l ++ r) = none := by
  cases h : getL one (putL e l ++ r) with
  | none => rfl
  | some l' =>
    obtain ⟨h1, h2, h3⟩ := getL_back C h
    have h4 := put_count C.pos l
    have h5 := put_count C.pos l'
    rw [← h1] at h5
    exact absurd (put_free C (by omega) (by omega) hd h3 h1).2 hr
/-- No beginning of them is any. -/
theorem getL_begin (C : Codec one e dom) {l : List α} (hd : ∀ a ∈ l, dom a) (hl : (putL e l).length ≤ 1048576) {k : Nat} (hk : k < (putL e l).length) : getL one ((putL e l).take k) = none := by
  cases h : getL one ((putL e l).take k) with
  | none => rfl
  | some l' =>
    obtain ⟨h1, h2, h3⟩ := getL_back C h
    have h4 := put_count C.pos l
    have h5 := put_count C.pos l'
    rw [← h1, List.length_take] at h5
    have h6 : putL e l' ++ (putL e l).drop k = putL e l := by rw [← h1, List.take_append_drop]
    have h7 := (put_free C (by omega) (by omega) h3 hd h6).2
    have h8 := congrArg List.length h7
    rw [List.length_drop] at h8
    simp only [List.length_nil] at h8
    omega
end
theorem putL_T (ls : List ByteArray) : putL encT ls = putB ls := rfl
theorem putL_I (xs : List Int) : putL encI xs = numsB xs := rfl
end Go.Proofs.Ytflamhndmggiaaa
