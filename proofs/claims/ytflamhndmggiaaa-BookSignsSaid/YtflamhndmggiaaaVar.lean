
/-
  Numbers as bytes, seven bits each, the last byte below 128 and not 0 behind another: plain facts, over no program.
-/
import Derived.Test.YtflamhndmggiaaaMem
namespace Go.Proofs.Ytflamhndmggiaaa

/-- A number's bytes. -/
def enc (n : Nat) : List UInt8 := if n < 128 then [UInt8.ofNat n] else UInt8.ofNat (n % 128 + 128) :: enc (n / 128)
termination_by n
decreasing_by omega

theorem enc_lt {n : Nat} (h : n < 128) : enc n = [UInt8.ofNat n] := by rw [enc, if_pos h]
theorem enc_ge {n : Nat} (h : 128 ≤ n) : enc n = UInt8.ofNat (n % 128 + 128) :: enc (n / 128) := by rw [enc, if_neg (by omega)]

/-- The number with whose bytes a list begins, and how many they are; of at most f bytes. -/
def dec : Nat → List UInt8 → Option (Nat × Nat)
  | 0, _ => none
  | _ + 1, [] => none
  | f + 1, c :: r => if c.toNat < 128 then some (c.toNat, 1) else
    match dec f r with
    | some (n, k) => if n = 0 then none else some (c.toNat % 128 + 128 * n, k + 1)
    | none => none

theorem enc_pos (n : Nat) : 0 < (enc n).length := by
  by_cases h : n < 128
  · rw [enc_lt h]; simp
  · rw [enc_ge (by omega)]; simp

theorem enc_len_le (k : Nat) : ∀ n, n < 128 ^ (k + 1) → (enc n).length ≤ k + 1 := by
  induction k with
  | zero => intro n h; rw [enc_lt (by simpa using h)]; simp
  | succ k ih =>
    intro n h
    by_cases h1 : n < 128
    · rw [enc_lt h1]; simp
    · rw [enc_ge (by omega), List.length_cons]
      have := ih (n / 128) (by rw [Nat.pow_succ] at h; omega)
      omega
theorem enc_len_gt (k : Nat) : ∀ n, 128 ^ k ≤ n → 0 < k → k < (enc n).length := by
  induction k with
  | zero => intro n _ h; omega
  | succ k ih =>
    intro n h _
    have h0 : 1 ≤ 128 ^ k := Nat.one_le_pow _ _ (by omega)
    have h1 : 128 ≤ n := by rw [Nat.pow_succ] at h; omega
    rw [enc_ge h1, List.length_cons]
    rcases Nat.eq_zero_or_pos k with rfl | hk
    · have := enc_pos (n / 128); omega
    · have := ih (n / 128) (by rw [Nat.pow_succ] at h; omega) hk
      omega
theorem enc_len_63 {n : Nat} (h : n < 9223372036854775808) : (enc n).length ≤ 9 := enc_len_le 8 n (Nat.lt_of_lt_of_eq h (by decide))

theorem toNat_low {n : Nat} (h : n < 128) : (UInt8.ofNat n).toNat = n := by rw [UInt8.toNat_ofNat']; omega
theorem toNat_high (n : Nat) : (UInt8.ofNat (n % 128 + 128)).toNat = n % 128 + 128 := by rw [UInt8.toNat_ofNat']; omega

theorem dec_enc (f : Nat) : ∀ (n : Nat) (r : List UInt8), n < 128 ^ f → 0 < f → dec f (enc n ++ r) = some (n, (enc n).length) := by
  induction f with
  | zero => intro n r _ h; omega
  | succ f ih =>
    intro n r h _
    by_cases h1 : n < 128
    · rw [enc_lt h1]
      simp only [List.cons_append, List.nil_append, dec, toNat_low h1, if_pos h1]
      rfl
    · rw [enc_ge (by omega)]
      have hf : 0 < f := by
        rcases Nat.eq_zero_or_pos f with rfl | hf
        · simp at h; omega
        · exact hf
      have := ih (n / 128) r (by rw [Nat.pow_succ] at h; omega) hf
      simp only [List.cons_append, dec, toNat_high, this, if_neg (show ¬ n % 128 + 128 < 128 by omega), if_neg (show ¬ n / 128 = 0 by omega), List.length_cons]
      congr 2
      omega

theorem ofNat_eq {c : UInt8} {n : Nat} (h : c.toNat = n) : UInt8.ofNat n = c := by subst h; simp

theorem dec_some (f : Nat) : ∀ (bs : List UInt8) (n k : Nat), dec f bs = some (n, k) → n < 128 ^ f ∧ k = (enc n).length ∧ ∃ r, bs = enc n ++ r := by
  induction f with
  | zero => intro bs n k h; cases h
  | succ f ih =>
    intro bs n k h
    cases bs with
    | nil => cases h
    | cons c r =>
      have hc : c.toNat < 256 := c.toNat_lt
      unfold dec at h
      by_cases h1 : c.toNat < 128
      · rw [if_pos h1] at h
        injection h with h
        injection h with e1 e2
        subst e1; subst e2
        have hp : 1 ≤ 128 ^ f := Nat.one_le_pow _ _ (by omega)
        refine ⟨by rw [Nat.pow_succ]; omega, by rw [enc_lt h1]; rfl, r, ?_⟩
        rw [enc_lt h1, ofNat_eq rfl]; rfl
      · rw [if_neg h1] at h
        cases hd : dec f r with
        | none => rw [hd] at h; cases h
        | some p =>
          obtain ⟨m, j⟩ := p
          rw [hd] at h
          simp only at h
          by_cases hm : m = 0
          · rw [if_pos hm] at h; cases h
          · rw [if_neg hm] at h
            injection h with h
            injection h with e1 e2
            subst e1; subst e2
            obtain ⟨g1, g2, r', rfl⟩ := ih r m j hd
            have e : enc (c.toNat % 128 + 128 * m) = c :: enc m := by
              rw [enc_ge (by omega)]
              have a1 : (c.toNat % 128 + 128 * m) / 128 = m := by omega
              have a2 : (c.toNat % 128 + 128 * m) % 128 + 128 = c.toNat := by omega
              rw [a1, a2, ofNat_eq rfl]
            refine ⟨by rw [Nat.pow_succ]; omega, by rw [e, g2]; rfl, r', by rw [e]; rfl⟩

/-- Reading from the i-th byte on, with what has been read till there. -/
def cont (i acc : Nat) : Option (Nat × Nat) → Option (Nat × Nat)
  | some (m, k) => if 0 < i ∧ m = 0 then none else some (acc + 128 ^ i * m, i + k)
  | none => none
theorem cont_zero (o : Option (Nat × Nat)) : cont 0 0 o = o := by
  cases o with
  | none => rfl
  | some p => obtain ⟨m, k⟩ := p; simp [cont]
theorem dec_cons (f : Nat) (c : UInt8) (r : List UInt8) : dec (f + 1) (c :: r) = if c.toNat < 128 then some (c.toNat, 1) else
    match dec f r with
    | some (n, k) => if n = 0 then none else some (c.toNat % 128 + 128 * n, k + 1)
    | none => none := rfl
theorem cont_next {i acc f : Nat} {c : UInt8} {r : List UInt8} (h : 128 ≤ c.toNat) : cont i acc (dec (f + 1) (c :: r)) = cont (i + 1) (acc + 128 ^ i * (c.toNat % 128)) (dec f r) := by
  rw [dec_cons, if_neg (by omega)]
  cases dec f r with
  | none => rfl
  | some p =>
    obtain ⟨m, k⟩ := p
    simp only
    by_cases hm : m = 0
    · simp [hm, cont]
    · rw [if_neg hm]
      simp only [cont]
      rw [if_neg (by omega), if_neg (by omega)]
      congr 2
      · rw [Nat.mul_add, Nat.pow_succ, ← Nat.mul_assoc, Nat.add_assoc]
      · omega
theorem cont_last {i acc f : Nat} {c : UInt8} {r : List UInt8} (h : c.toNat < 128) : cont i acc (dec (f + 1) (c :: r)) = if 0 < i ∧ c.toNat = 0 then none else some (acc + 128 ^ i * c.toNat, i + 1) := by
  rw [dec_cons, if_pos h]
  rfl
theorem dec_end (f : Nat) : dec f [] = none := by cases f <;> rfl
end Go.Proofs.Ytflamhndmggiaaa
