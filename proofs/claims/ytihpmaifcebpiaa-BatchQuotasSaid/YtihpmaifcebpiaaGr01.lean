/-
  Texts joined: words and contracts that later texts use; lemmas alone, no conditions of a statement.
-/
import Derived.Test.YtihpmaifcebpiaaGr00
import Derived.Test.YtihpmaifcebpiaaProg
import Derived.Lib.AppendStr
set_option linter.unusedVariables false
set_option linter.unusedSimpArgs false
/-
  Numbers as bytes, seven bits each, the last byte below 128 and not 0 behind another: plain facts, over no program.
-/
namespace Go.Proofs.Ytihpmaifcebpiaa

/-- A number's bytes. -/
def enc (n : Nat) : List UInt8 := if n < 128 then [UInt8.ofNat n] else UInt8.ofNat (n % 128 + 128) :: enc (n / 128)
termination_by n
decreasing_by omega

theorem enc_lt {n : Nat} (h : n < 128) : enc n = [UInt8.ofNat n] := by rw [enc, if_pos h]
theorem enc_ge {n : Nat} (h : 128 ≤ n) : enc n = UInt8.ofNat (n % 128 + 128) :: enc (n / 128) := by rw [enc, if_neg (by omega)]

/-- The number with whose bytes a list begins, and how many they are; of at most f bytes. -/
def dec : Nat → List UInt8 → Option (Nat × Nat)
  | 0, _ => none
  | _ + 1, [] => none
  | f + 1, c :: r => if c.toNat < 128 then some (c.toNat, 1) else
    match dec f r with
    | some (n, k) => if n = 0 then none else some (c.toNat % 128 + 128 * n, k + 1)
    | none => none

theorem enc_pos (n : Nat) : 0 < (enc n).length := by
  by_cases h : n < 128
  · rw [enc_lt h]; simp
  · rw [enc_ge (by omega)]; simp

theorem enc_len_le (k : Nat) : ∀ n, n < 128 ^ (k + 1) → (enc n).length ≤ k + 1 := by
  induction k with
  | zero => intro n h; rw [enc_lt (by simpa using h)]; simp
  | succ k ih =>
    intro n h
    by_cases h1 : n < 128
    · rw [enc_lt h1]; simp
    · rw [enc_ge (by omega), List.length_cons]
      have := ih (n / 128) (by rw [Nat.pow_succ] at h; omega)
      omega
theorem enc_len_gt (k : Nat) : ∀ n, 128 ^ k ≤ n → 0 < k → k < (enc n).length := by
  induction k with
  | zero => intro n _ h; omega
  | succ k ih =>
    intro n h _
    have h0 : 1 ≤ 128 ^ k := Nat.one_le_pow _ _ (by omega)
    have h1 : 128 ≤ n := by rw [Nat.pow_succ] at h; omega
    rw [enc_ge h1, List.length_cons]
    rcases Nat.eq_zero_or_pos k with rfl | hk
    · have := enc_pos (n / 128); omega
    · have := ih (n / 128) (by rw [Nat.pow_succ] at h; omega) hk
      omega
theorem enc_len_63 {n : Nat} (h : n < 9223372036854775808) : (enc n).length ≤ 9 := enc_len_le 8 n (Nat.lt_of_lt_of_eq h (by decide))

theorem toNat_low {n : Nat} (h : n < 128) : (UInt8.ofNat n).toNat = n := by rw [UInt8.toNat_ofNat']; omega
theorem toNat_high (n : Nat) : (UInt8.ofNat (n % 128 + 128)).toNat = n % 128 + 128 := by rw [UInt8.toNat_ofNat']; omega

theorem dec_enc (f : Nat) : ∀ (n : Nat) (r : List UInt8), n < 128 ^ f → 0 < f → dec f (enc n ++ r) = some (n, (enc n).length) := by
  induction f with
  | zero => intro n r _ h; omega
  | succ f ih =>
    intro n r h _
    by_cases h1 : n < 128
    · rw [enc_lt h1]
      simp only [List.cons_append, List.nil_append, dec, toNat_low h1, if_pos h1]
      rfl
    · rw [enc_ge (by omega)]
      have hf : 0 < f := by
        rcases Nat.eq_zero_or_pos f with rfl | hf
        · simp at h; omega
        · exact hf
      have := ih (n / 128) r (by rw [Nat.pow_succ] at h; omega) hf
      simp only [List.cons_append, dec, toNat_high, this, if_neg (show ¬ n % 128 + 128 < 128 by omega), if_neg (show ¬ n / 128 = 0 by omega), List.length_cons]
      congr 2
      omega

theorem ofNat_eq {c : UInt8} {n : Nat} (h : c.toNat = n) : UInt8.ofNat n = c := by subst h; simp

theorem dec_some (f : Nat) : ∀ (bs : List UInt8) (n k : Nat), dec f bs = some (n, k) → n < 128 ^ f ∧ k = (enc n).length ∧ ∃ r, bs = enc n ++ r := by
  induction f with
  | zero => intro bs n k h; cases h
  | succ f ih =>
    intro bs n k h
    cases bs with
    | nil => cases h
    | cons c r =>
      have hc : c.toNat < 256 := c.toNat_lt
      unfold dec at h
      by_cases h1 : c.toNat < 128
      · rw [if_pos h1] at h
        injection h with h
        injection h with e1 e2
        subst e1; subst e2
        have hp : 1 ≤ 128 ^ f := Nat.one_le_pow _ _ (by omega)
        refine ⟨by rw [Nat.pow_succ]; omega, by rw [enc_lt h1]; rfl, r, ?_⟩
        rw [enc_lt h1, ofNat_eq rfl]; rfl
      · rw [if_neg h1] at h
        cases hd : dec f r with
        | none => rw [hd] at h; cases h
        | some p =>
          obtain ⟨m, j⟩ := p
          rw [hd] at h
          simp only at h
          by_cases hm : m = 0
          · rw [if_pos hm] at h; cases h
          · rw [if_neg hm] at h
            injection h with h
            injection h with e1 e2
            subst e1; subst e2
            obtain ⟨g1, g2, r', rfl⟩ := ih r m j hd
            have e : enc (c.toNat % 128 + 128 * m) = c :: enc m := by
              rw [enc_ge (by omega)]
              have a1 : (c.toNat % 128 + 128 * m) / 128 = m := by omega
              have a2 : (c.toNat % 128 + 128 * m) % 128 + 128 = c.toNat := by omega
              rw [a1, a2, ofNat_eq rfl]
            refine ⟨by rw [Nat.pow_succ]; omega, by rw [e, g2]; rfl, r', by rw [e]; rfl⟩

/-- Reading from the i-th byte on, with what has been read till there. -/
def cont (i acc : Nat) : Option (Nat × Nat) → Option (Nat × Nat)
  | some (m, k) => if 0 < i ∧ m = 0 then none else some (acc + 128 ^ i * m, i + k)
  | none => none
theorem cont_zero (o : Option (Nat × Nat)) : cont 0 0 o = o := by
  cases o with
  | none => rfl
  | some p => obtain ⟨m, k⟩ := p; simp [cont]
theorem dec_cons (f : Nat) (c : UInt8) (r : List UInt8) : dec (f + 1) (c :: r) = if c.toNat < 128 then some (c.toNat, 1) else
    match dec f r with
    | some (n, k) => if n = 0 then none else some (c.toNat % 128 + 128 * n, k + 1)
    | none => none := rfl
theorem cont_next {i acc f : Nat} {c : UInt8} {r : List UInt8} (h : 128 ≤ c.toNat) : cont i acc (dec (f + 1) (c :: r)) = cont (i + 1) (acc + 128 ^ i * (c.toNat % 128)) (dec f r) := by
  rw [dec_cons, if_neg (by omega)]
  cases dec f r with
  | none => rfl
  | some p =>
    obtain ⟨m, k⟩ := p
    simp only
    by_cases hm : m = 0
    · simp [hm, cont]
    · rw [if_neg hm]
      simp only [cont]
      rw [if_neg (by omega), if_neg (by omega)]
      congr 2
      · rw [Nat.mul_add, Nat.pow_succ, ← Nat.mul_assoc, Nat.add_assoc]
      · omega
theorem cont_last {i acc f : Nat} {c : UInt8} {r : List UInt8} (h : c.toNat < 128) : cont i acc (dec (f + 1) (c :: r)) = if 0 < i ∧ c.toNat = 0 then none else some (acc + 128 ^ i * c.toNat, i + 1) := by
  rw [dec_cons, if_pos h]
  rfl
theorem dec_end (f : Nat) : dec f [] = none := by cases f <;> rfl
end Go.Proofs.Ytihpmaifcebpiaa
/-
  Contracts of the wire's numbers and of the reference's: which bytes a number has, which number bytes begin with: for every input.
-/
namespace Go.Proofs.Ytihpmaifcebpiaa
open Go.RowKit

theorem Try.infoByte : (Try.prog.info? 5).map (fun i => (i.zero, i.size, i.bytes)) = some (some (.int .u8 0), 1, 1) := by kernel_rfl
theorem byte_cell (c : UInt8) : Value.int .u8 (c.toNat : Int) = Value.int .u8 c.toNat := rfl
theorem bytes8_snoc (xs : List UInt8) (c : UInt8) : bytes8 xs ++ [.int .u8 (c.toNat : Int)] = bytes8 (xs ++ [c]) := by simp [bytes8]
theorem bytes8_append (xs ys : List UInt8) : bytes8 (xs ++ ys) = bytes8 xs ++ bytes8 ys := by simp [bytes8]

theorem or_all : ∀ a : Fin 256, bits BinOp.or IntKind.u8 ((a.val : Nat) : Int) 128 = ((a.val % 128 + 128 : Nat) : Int) := by decide +kernel
/-- The byte that says that more come. -/
theorem high_byte (m : Nat) : ∃ c : UInt8, Hid (UInt8.ofNat (m % 128 + 128) = c) ∧ bits BinOp.or IntKind.u8 ((m : Int) % 256) 128 = (c.toNat : Int) := by
  refine ⟨_, rfl, ?_⟩
  have h := or_all ⟨m % 256, Nat.mod_lt _ (by omega)⟩
  simp only at h
  have e : ((m : Int) % 256) = ((m % 256 : Nat) : Int) := by omega
  rw [e, h, toNat_high]
  omega
theorem high_byte' (m : Nat) : ∃ c : UInt8, Hid (UInt8.ofNat (m % 128 + 128) = c) ∧ bits BinOp.or IntKind.u8 ((m : Int) % 128) 128 = (c.toNat : Int) := by
  refine ⟨_, rfl, ?_⟩
  have h := or_all ⟨m % 128, by omega⟩
  simp only at h
  have e : ((m : Int) % 128) = ((m % 128 : Nat) : Int) := by omega
  rw [e, h, toNat_high]
  omega

set_option maxRecDepth 100000 in
set_option maxHeartbeats 400000 in
theorem wire_num (base : Nat) (v : Value) (m : Nat) (xs : List UInt8) (w : World) (hown : w.ownsRow base 5 1 v xs.length (bytes8 xs)) (hb : base ≤ w.heap.size) (hm : m ≤ 9223372036854775807) (hl : xs.length ≤ 1099511627776) :
    Calls Try.prog 82 #[v, .int .i64 m] w fun e w' => ∃ v', e = .returned v' ∧ w'.ownsRow base 5 1 v' (xs ++ enc m).length (bytes8 (xs ++ enc m)) ∧ Below base w w' := by
  have HX := hide (enc_len_63 (n := m) (by omega))
  obtain ⟨i0, hi, hz0, hz1, hz2⟩ := info_parts Try.infoByte
  go_enter Try.func82, Try.ntmps82
  go_wp2_with fail
  go_loopw [0, 1] (fun b n wr => ∃ (m' : Nat) (ys : List UInt8), n = .int .i64 m' ∧ Hid (xs ++ enc m = ys ++ enc m') ∧ m' ≤ m ∧ wr.ownsRow base 5 1 b ys.length (bytes8 ys) ∧ Below base w wr) (fun _ n _ => (intOf n).toNat)
  case atStart => exact ⟨m, xs, rfl, rfl, Nat.le_refl _, hown, Below.refl _ _⟩
  case round =>
    obtain ⟨m', ys, rfl, HE, hle, hown', hbw⟩ := hrel
    have hsz := hbw.size
    have hyl : ys.length ≤ 1099511627785 := by
      have h1 := congrArg List.length HE.out
      rw [List.length_append, List.length_append] at h1
      have h2 := HX.out
      omega
    by_cases hge : 128 ≤ m'
    · obtain ⟨c, HC, hor⟩ := high_byte m'
      have HQ : Hid (xs ++ enc m = (ys ++ [c]) ++ enc (m' / 128)) := by rw [Hid, HE.out, enc_ge hge, HC.out]; simp
      clear hown
      go_wp2_with (first
        | (at_builtin; refine wpList_append_own _ rfl _ _ 27 rfl base 5 i0 (.int .u8 0) 1 1 Try.underlying27 hi hz0 hz1 hz2 rfl (by decide) _ _ _ rfl (hown'.alloc _) ⟨wr.heap.size, 0, none⟩ 1 1 [.int .u8 (c.toNat : Int)] rfl rfl ?c1 ?c2 ?c3 ?c4 ?c5 ?_))
      case c1 => exact news_one _ _ _
      case c2 => exact one_int _ _
      case c3 => unfold maxLen; omega
      case c4 => omega
      case c5 => simp; omega
      intro v' w1 hown2 hg _
      have hown3 : w1.ownsRow base 5 1 v' (ys ++ [c]).length (bytes8 (ys ++ [c])) := by rw [← bytes8_snoc, List.length_append]; exact hown2
      have hb2 : Below base w w1 := (hbw.alloc (by omega) _).grown hg (by simp; omega) (fun g hg' => (hown'.lt g hg').1)
      clear hown2 hg hown' hbw hor
      go_wp2_with fail
      go_roundw
      case rel => exact ⟨m' / 128, ys ++ [c], by go_num, HQ, by omega, hown3, hb2⟩
      case measure => simp [intOf]; omega
    · have HQ : Hid (xs ++ enc m = ys ++ [UInt8.ofNat m']) := by rw [Hid, HE.out, enc_lt (by omega)]
      have hm' : m' < 128 := by omega
      clear hown
      go_wp2_with (first
        | (at_builtin; refine wpList_append_own _ rfl _ _ 27 rfl base 5 i0 (.int .u8 0) 1 1 Try.underlying27 hi hz0 hz1 hz2 rfl (by decide) _ _ _ rfl (hown'.alloc _) ⟨wr.heap.size, 0, none⟩ 1 1 [.int .u8 (m' : Int)] rfl rfl ?d1 ?d2 ?d3 ?d4 ?d5 ?_))
      case d1 => exact news_one _ _ _
      case d2 => exact one_int _ _
      case d3 => unfold maxLen; omega
      case d4 => omega
      case d5 => simp; omega
      intro v' w1 hown2 hg _
      have hown3 : w1.ownsRow base 5 1 v' (xs ++ enc m).length (bytes8 (xs ++ enc m)) := by
        rw [HQ.out, ← bytes8_snoc, List.length_append, toNat_low hm']; exact hown2
      have hb2 : Below base w w1 := (hbw.alloc (by omega) _).grown hg (by simp; omega) (fun g hg' => (hown'.lt g hg').1)
      clear hown2 hg hown' hbw
      go_wp2_with fail
      go_ret
      exact ⟨_, rfl, hown3, hb2⟩

set_option maxRecDepth 100000 in
set_option maxHeartbeats 400000 in
theorem ref2_Num (m : Nat) (w : World) (hm : m ≤ 9223372036854775807) :
    Calls Try.prog 83 #[.int .i64 m] w fun e w' => ∃ v', e = .returned v' ∧ w'.ownsRow w.heap.size 5 1 v' (enc m).length (bytes8 (enc m)) ∧ Below w.heap.size w w' := by
  have HX := hide (enc_len_63 (n := m) (by omega))
  obtain ⟨i0, hi, hz0, hz1, hz2⟩ := info_parts Try.infoByte
  go_enter Try.func83, Try.ntmps83
  go_wp2_with fail
  go_loopw [0, 3] (fun n b wr => ∃ (m' : Nat) (ys : List UInt8), n = .int .i64 m' ∧ Hid (enc m = ys ++ enc m') ∧ m' ≤ m ∧ wr.ownsRow w.heap.size 5 1 b ys.length (bytes8 ys) ∧ Below w.heap.size w wr) (fun n _ _ => (intOf n).toNat)
  case atStart => exact ⟨m, [], rfl, rfl, Nat.le_refl _, World.ownsRow_nil _ _ _ _, Below.refl _ _⟩
  case round =>
    obtain ⟨m', ys, rfl, HE, hle, hown', hbw⟩ := hrel
    have hsz := hbw.size
    have hyl : ys.length ≤ 9 := by
      have h1 := congrArg List.length HE.out
      rw [List.length_append] at h1
      have h2 := HX.out
      omega
    by_cases hge : 128 ≤ m'
    · obtain ⟨c, HC, hor⟩ := high_byte' m'
      have HQ : Hid (enc m = (ys ++ [c]) ++ enc (m' / 128)) := by rw [Hid, HE.out, enc_ge hge, HC.out]; simp
      go_wp2_with (first
        | (at_builtin; refine wpList_append_own _ rfl _ _ 27 rfl w.heap.size 5 i0 (.int .u8 0) 1 1 Try.underlying27 hi hz0 hz1 hz2 rfl (by decide) _ _ _ rfl (hown'.alloc _) ⟨wr.heap.size, 0, none⟩ 1 1 [.int .u8 (c.toNat : Int)] rfl rfl ?c1 ?c2 ?c3 ?c4 ?c5 ?_))
      case c1 => exact news_one _ _ _
      case c2 => exact one_int _ _
      case c3 => unfold maxLen; omega
      case c4 => omega
      case c5 => simp; omega
      intro v' w1 hown2 hg _
      have hown3 : w1.ownsRow w.heap.size 5 1 v' (ys ++ [c]).length (bytes8 (ys ++ [c])) := by rw [← bytes8_snoc, List.length_append]; exact hown2
      have hb2 : Below w.heap.size w w1 := (hbw.alloc (by omega) _).grown hg (by simp; omega) (fun g hg' => (hown'.lt g hg').1)
      clear hown2 hg hown' hbw hor
      go_wp2_with fail
      go_roundw
      case rel => exact ⟨m' / 128, ys ++ [c], by go_num, HQ, by omega, hown3, hb2⟩
      case measure => simp [intOf]; omega
    · have HQ : Hid (enc m = ys ++ [UInt8.ofNat m']) := by rw [Hid, HE.out, enc_lt (by omega)]
      have hm' : m' < 128 := by omega
      go_wp2_with (first
        | (at_builtin; refine wpList_append_own _ rfl _ _ 27 rfl w.heap.size 5 i0 (.int .u8 0) 1 1 Try.underlying27 hi hz0 hz1 hz2 rfl (by decide) _ _ _ rfl (hown'.alloc _) ⟨wr.heap.size, 0, none⟩ 1 1 [.int .u8 (m' : Int)] rfl rfl ?d1 ?d2 ?d3 ?d4 ?d5 ?_))
      case d1 => exact news_one _ _ _
      case d2 => exact one_int _ _
      case d3 => unfold maxLen; omega
      case d4 => omega
      case d5 => simp; omega
      intro v' w1 hown2 hg _
      have hown3 : w1.ownsRow w.heap.size 5 1 v' (enc m).length (bytes8 (enc m)) := by
        rw [HQ.out, ← bytes8_snoc, List.length_append, toNat_low hm']; exact hown2
      have hb2 : Below w.heap.size w w1 := (hbw.alloc (by omega) _).grown hg (by simp; omega) (fun g hg' => (hown'.lt g hg').1)
      clear hown2 hg hown' hbw
      go_wp2_with fail
      go_ret
      exact ⟨_, rfl, hown3, hb2⟩
end Go.Proofs.Ytihpmaifcebpiaa
/-
  Contracts of reading a number: what bytes begin with: for every input.
-/
namespace Go.Proofs.Ytihpmaifcebpiaa
open Go.RowKit

/-- What GetNum answers. -/
def getN (bs : List UInt8) : Option (Nat × Nat) := dec 9 bs

theorem and_all : ∀ a : Fin 256, bits BinOp.and IntKind.u8 ((a.val : Nat) : Int) 127 = ((a.val % 128 : Nat) : Int) := by decide +kernel
theorem low_byte (c : UInt8) : bits BinOp.and IntKind.u8 (c.toNat : Int) 127 = ((c.toNat % 128 : Nat) : Int) := by
  have h := and_all ⟨c.toNat, c.toNat_lt⟩
  exact h
theorem pow7 (i : Nat) : 2 ^ (7 * i) = 128 ^ i := by rw [Nat.pow_mul]
theorem or_shift {acc i x : Nat} (ha : acc < 128 ^ i) (hx : x < 128) (hi : i ≤ 8) : bits BinOp.or IntKind.i64 (acc : Int) ((128 ^ i * x : Nat) : Int) = ((acc + 128 ^ i * x : Nat) : Int) ∧ acc + 128 ^ i * x < 128 ^ (i + 1) ∧ 128 ^ (i + 1) ≤ 9223372036854775808 := by
  have h1 : (128 : Nat) ^ (i + 1) ≤ 128 ^ 9 := Nat.pow_le_pow_right (by omega) (by omega)
  have h9 : (128 : Nat) ^ 9 = 9223372036854775808 := by decide
  have h2 : acc + 128 ^ i * x < 128 ^ (i + 1) := by
    rw [Nat.pow_succ]
    have : 128 ^ i * x ≤ 128 ^ i * 127 := Nat.mul_le_mul_left _ (by omega)
    omega
  refine ⟨?_, h2, by omega⟩
  rw [i64_or_nat acc (128 ^ i * x) (by omega) (by omega)]
  congr 1
  have e : 128 ^ i * x = x <<< (7 * i) := by rw [Nat.shiftLeft_eq, pow7, Nat.mul_comm]
  rw [e, Nat.or_comm, ← Nat.shiftLeft_add_eq_or_of_lt (by rw [pow7]; exact ha)]
  omega

/-- What is left to read at the i-th byte. -/
def At (bs : List UInt8) (i acc : Nat) (o : Option (Nat × Nat)) : Prop := i ≤ 9 ∧ acc < 128 ^ i ∧ cont i acc (dec (9 - i) (bs.drop i)) = o
theorem At.start (bs : List UInt8) : At bs 0 0 (getN bs) := ⟨by omega, by simp, by rw [cont_zero]; rfl⟩
theorem At.next {bs : List UInt8} {i acc : Nat} {o : Option (Nat × Nat)} {c : UInt8} (h : At bs i acc o) (hc : bs[i]? = some c) (hi : i < 9) (hh : 128 ≤ c.toNat) : At bs (i + 1) (acc + 128 ^ i * (c.toNat % 128)) o := by
  obtain ⟨h1, h2, h3⟩ := h
  rw [drop_at hc, show 9 - i = (9 - (i + 1)) + 1 by omega, cont_next hh] at h3
  exact ⟨by omega, (or_shift h2 (by omega) (by omega)).2.1, h3⟩
theorem At.last {bs : List UInt8} {i acc : Nat} {o : Option (Nat × Nat)} {c : UInt8} (h : At bs i acc o) (hc : bs[i]? = some c) (hi : i < 9) (hh : c.toNat < 128) : o = if 0 < i ∧ c.toNat = 0 then none else some (acc + 128 ^ i * c.toNat, i + 1) := by
  obtain ⟨h1, h2, h3⟩ := h
  rw [drop_at hc, show 9 - i = (9 - (i + 1)) + 1 by omega, cont_last hh] at h3
  exact h3.symm
theorem At.nine {bs : List UInt8} {acc : Nat} {o : Option (Nat × Nat)} (h : At bs 9 acc o) : o = none := by
  obtain ⟨h1, h2, h3⟩ := h
  exact h3.symm
theorem At.out {bs : List UInt8} {i acc : Nat} {o : Option (Nat × Nat)} (h : At bs i acc o) (hi : bs.length ≤ i) : o = none := by
  obtain ⟨h1, h2, h3⟩ := h
  rw [List.drop_eq_nil_of_le hi, dec_end] at h3
  exact h3.symm

/-- The shifted byte, as the walk has it. -/
theorem shl_form {i x : Nat} (hi : i ≤ 8) (hx : x < 128) : wrap64 ((x : Int) * 2 ^ (7 * i)) = ((128 ^ i * x : Nat) : Int) := by
  have h1 : 128 ^ i * x < 128 ^ (i + 1) := by
    rw [Nat.pow_succ]; exact Nat.mul_lt_mul_of_pos_left hx (Nat.pow_pos (by omega))
  have h2 : (128 : Nat) ^ (i + 1) ≤ 128 ^ 9 := Nat.pow_le_pow_right (by omega) (by omega)
  have h9 : (128 : Nat) ^ 9 = 9223372036854775808 := by decide
  have e : ((x : Int) * 2 ^ (7 * i)) = ((128 ^ i * x : Nat) : Int) := by
    rw [← pow7 i]
    simp [Int.mul_comm]
  rw [e]
  exact IntWalk.wrap64_in _ (by omega)

/-- One byte taken in, every number of the walk behind a name of its own. -/
theorem step_names {acc i : Nat} (u : UInt8) (ha : acc < 128 ^ i) (hi : i ≤ 8) : ∃ x y acc' : Nat, Hid (u.toNat % 128 = x) ∧ Hid (acc + 128 ^ i * (u.toNat % 128) = acc') ∧ bits BinOp.and IntKind.u8 (u.toNat : Int) 127 = (x : Int) ∧ (u.toNat : Int) % 128 = x ∧ x ≤ 127 ∧
    wrap64 ((x : Int) * 2 ^ (7 * i)) = (y : Int) ∧ bits BinOp.or IntKind.i64 (acc : Int) (y : Int) = (acc' : Int) ∧ acc' ≤ 9223372036854775807 := by
  have hx : u.toNat % 128 < 128 := by omega
  have h3 := or_shift ha hx hi
  exact ⟨_, _, _, rfl, rfl, low_byte u, by omega, by omega, shl_form hi hx, h3.1, by omega⟩
set_option maxRecDepth 100000 in
set_option maxHeartbeats 1000000 in
theorem wire_GetNum_yes {A : Option Addr} {n c : Nat} {bs : List UInt8} {m k : Nat} (w : World) (hs : Sl w 1 A n (bytes8 bs)) (hn : n ≤ 9223372036854775807) (hg : getN bs = some (m, k)) :
    Calls Try.prog 86 #[.slice A n c] w fun e w' => e = .returned (.tuple #[.int .i64 m, .int .i64 k, .int .i64 0]) ∧ w = w' := by
  have HL := hide hs.blen
  have HG := hide hg
  clear hg
  go_enter Try.func86, Try.ntmps86
  go_wp2_with fail
  go_step3
  go_wp2_with fail
  go_loop [2, 9] (fun t j => ∃ (i acc : Nat), i ≤ n ∧ j = .int .i64 i ∧ t = .int .i64 acc ∧ Hid (At bs i acc (some (m, k)))) (fun _ j => n - (intOf j).toNat)
  case atStart => exact ⟨0, 0, Nat.zero_le _, rfl, rfl, by rw [← HG.out]; exact At.start bs⟩
  case round =>
    obtain ⟨i, acc, hin, rfl, rfl, HA⟩ := hrel
    have hlt : i < n := by
      apply Nat.lt_of_not_le
      intro h
      have := HA.out.out (by rw [HL.out]; exact h)
      cases this
    have hi9 : i < 9 := by
      rcases Nat.lt_or_ge i 9 with h | h
      · exact h
      · have : i = 9 := by have := HA.out.1; omega
        subst this
        have := HA.out.nine
        cases this
    obtain ⟨b, off, u, rfl, HU, hc, _⟩ := hs.byte hlt
    have hub : u.toNat < 256 := u.toNat_lt
    clear hs
    obtain ⟨x, y, acc', HX, HY, hlow, hmod, hx127, hsh, hor, hacc⟩ := step_names u HA.out.2.1 (show i ≤ 8 by omega)
    by_cases hh : 128 ≤ u.toNat
    · have HN : Hid (At bs (i + 1) acc' (some (m, k))) := by have := HA.out.next HU.out hi9 hh; rwa [HY.out] at this
      clear hmod
      go_wp2_with fail
      go_round
      case rel => exact ⟨i + 1, acc', by omega, by go_num, rfl, HN⟩
      case measure => simp [intOf]; omega
    · have hl := HA.out.last HU.out hi9 (by omega)
      have hz : ¬ (0 < i ∧ u.toNat = 0) := by
        intro h
        rw [if_pos h] at hl
        cases hl
      rw [if_neg hz] at hl
      injection hl with hl
      injection hl with e1 e2
      have E1 : Hid (acc' = m) := by have h := HY.out; rw [Nat.mod_eq_of_lt (show u.toNat < 128 by omega)] at h; exact h.symm.trans e1.symm
      have E2 := hide e2
      clear e1 e2 hmod
      by_cases hu0 : u.toNat = 0
      · have hi0 : i ≤ 0 := by omega
        have hb0 : ((u.toNat : Int) == 0) = true := by simp; omega
        clear hz hu0
        go_wp2_with fail
        try rw [Exit.noGoto_ret]
        go_ret3
        refine ⟨?_, rfl⟩
        have h2 := E2.out
        rw [E1.out, show ((i : Int) + 1) = (k : Int) by omega]
        rfl
      · have hb0 : ((u.toNat : Int) == 0) = false := by simp; omega
        clear hz
        go_wp2_with fail
        try rw [Exit.noGoto_ret]
        go_ret3
        refine ⟨?_, rfl⟩
        have h2 := E2.out
        rw [E1.out, show ((i : Int) + 1) = (k : Int) by omega]
        rfl

set_option maxRecDepth 100000 in
set_option maxHeartbeats 1000000 in
theorem wire_GetNum_no {A : Option Addr} {n c : Nat} {bs : List UInt8} (w : World) (hs : Sl w 1 A n (bytes8 bs)) (hn : n ≤ 9223372036854775807) (hg : getN bs = none) :
    Calls Try.prog 86 #[.slice A n c] w fun e w' => e = .returned (.tuple #[.int .i64 0, .int .i64 0, .int .i64 1]) ∧ w = w' := by
  have HL := hide hs.blen
  have HG := hide hg
  clear hg
  go_enter Try.func86, Try.ntmps86
  go_wp2_with fail
  refine scope_loop 0 (fun a w' => ∃ (u0 u1 u2 u3 u4 u5 u6 u7 u8 u9 u10 u11 u12 u13 u14 u15 u16 u17 u18 u19 u20 u21 u22 u23 u24 u25 u26 u27 u28 u29 u30 u31 u32 u33 u34 u35 : Value), a = { tmps := #[u0, u1, u2, u3, u4, u5, u6, u7, u8, u9, u10, u11, u12, u13, u14, u15, u16, u17, u18, u19, u20, u21, u22, u23, u24, u25, u26, u27, u28, u29, u30, u31, u32, u33, u34, u35], defers := [] } ∧ w = w') (fun _ _ => 0) rfl ?_ ?_
  · rintro a w' ⟨u0, u1, u2, u3, u4, u5, u6, u7, u8, u9, u10, u11, u12, u13, u14, u15, u16, u17, u18, u19, u20, u21, u22, u23, u24, u25, u26, u27, u28, u29, u30, u31, u32, u33, u34, u35, rfl, rfl⟩
    go_wp2_with fail
    try rw [Exit.jump_ret]
    go_ret3
    exact ⟨rfl, rfl⟩
  · intro H
    go_wp2_with fail
    go_loop [2, 9] (fun t j => ∃ (i acc : Nat), i ≤ n ∧ j = .int .i64 i ∧ t = .int .i64 acc ∧ Hid (At bs i acc none)) (fun _ j => n - (intOf j).toNat)
    case atStart => exact ⟨0, 0, Nat.zero_le _, rfl, rfl, by rw [← HG.out]; exact At.start bs⟩
    case round =>
      obtain ⟨i, acc, hin, rfl, rfl, HA⟩ := hrel
      by_cases hlt : i < n
      · obtain ⟨b, off, u, rfl, HU, hc, _⟩ := hs.byte hlt
        have hub : u.toNat < 256 := u.toNat_lt
        clear hs
        by_cases hi9 : i < 9
        · obtain ⟨x, y, acc', HX, HY, hlow, hmod, hx127, hsh, hor, hacc⟩ := step_names u HA.out.2.1 (show i ≤ 8 by omega)
          by_cases hh : 128 ≤ u.toNat
          · have HN : Hid (At bs (i + 1) acc' none) := by have := HA.out.next HU.out hi9 hh; rwa [HY.out] at this
            clear hmod
            go_wp2_with fail
            go_round
            case rel => exact ⟨i + 1, acc', by omega, by go_num, rfl, HN⟩
            case measure => simp [intOf]; omega
          · have hl := HA.out.last HU.out hi9 (by omega)
            have hz : 0 < i ∧ u.toNat = 0 := by
              apply Classical.byContradiction
              intro h
              rw [if_neg h] at hl
              cases hl
            obtain ⟨hz1, hz2⟩ := hz
            have hb0 : ((u.toNat : Int) == 0) = true := by simp; omega
            clear hl hmod hz2
            go_wp2_with fail
            go_step3
            repeat (first | refine Exit.then_goto ?_ | refine Exit.inBlock_goto ?_)
            exact Exit.jump_goto ⟨_, _, _, _, _, _, _, _, _, _, _, _, _, _, _, _, _, _, _, _, _, _, _, _, _, _, _, _, _, _, _, _, _, _, _, _, rfl, rfl⟩
        · have hi9' : i = 9 := by have := HA.out.1; omega
          have hb9 : ((i : Int) == 9) = true := by simp; omega
          clear hi9'
          go_wp2_with fail
          go_step3
          repeat (first | refine Exit.then_goto ?_ | refine Exit.inBlock_goto ?_)
          exact Exit.jump_goto ⟨_, _, _, _, _, _, _, _, _, _, _, _, _, _, _, _, _, _, _, _, _, _, _, _, _, _, _, _, _, _, _, _, _, _, _, _, rfl, rfl⟩
      · go_wp2_with fail
        go_step3
        rename_i hk _
        exact hk _ _ (H _ _ ⟨_, _, _, _, _, _, _, _, _, _, _, _, _, _, _, _, _, _, _, _, _, _, _, _, _, _, _, _, _, _, _, _, _, _, _, _, rfl, rfl⟩)
end Go.Proofs.Ytihpmaifcebpiaa
/-
  Contracts of the reference's reading of a number.
-/
namespace Go.Proofs.Ytihpmaifcebpiaa
open Go.RowKit

/-- How many bytes a number has that ends at the i-th byte. -/
theorem enc_len_at {acc i c : Nat} (ha : acc < 128 ^ i) (hc : c < 128) : (enc (acc + 128 ^ i * c)).length = i + 1 ↔ ¬ (0 < i ∧ c = 0) := by
  rcases Nat.eq_zero_or_pos i with rfl | hi
  · have : acc = 0 := by simpa using ha
    subst this
    simp [enc_lt hc]
  · constructor
    · rintro h ⟨_, rfl⟩
      obtain ⟨k, rfl⟩ : ∃ k, i = k + 1 := ⟨i - 1, by omega⟩
      have := enc_len_le k acc ha
      simp at h
      omega
    · intro h
      have hc0 : 1 ≤ c := by omega
      have h1 : 128 ^ i ≤ acc + 128 ^ i * c := by
        have : 128 ^ i * 1 ≤ 128 ^ i * c := Nat.mul_le_mul_left _ hc0
        omega
      have h2 := enc_len_gt i _ h1 hi
      have h3 : acc + 128 ^ i * c < 128 ^ (i + 1) := by
        rw [Nat.pow_succ]
        have : 128 ^ i * c ≤ 128 ^ i * 127 := Nat.mul_le_mul_left _ (by omega)
        omega
      have h4 := enc_len_le i _ h3
      omega

/-- The number and its bytes; 0, 0: there is none. -/
def gotN (bs : List UInt8) : Nat × Nat := (getN bs).getD (0, 0)

set_option maxRecDepth 100000 in
set_option maxHeartbeats 1000000 in
theorem ref2_GetNum {A : Option Addr} {n c : Nat} {bs : List UInt8} (w : World) (hs : Sl w 1 A n (bytes8 bs)) (hn : n ≤ 9223372036854775807) :
    Calls Try.prog 87 #[.slice A n c] w fun e w' => e = .returned (.tuple #[.int .i64 (gotN bs).1, .int .i64 (gotN bs).2]) ∧ Below w.heap.size w w' := by
  have HL := hide hs.blen
  obtain ⟨o, HG⟩ : ∃ o, Hid (getN bs = o) := ⟨_, rfl⟩
  have HO : Hid (gotN bs = o.getD (0, 0)) := by have := HG.out; rw [Hid, gotN, this]
  go_enter Try.func87, Try.ntmps87
  go_wp2_with fail
  go_loop [4, 5] (fun t j => ∃ (i acc : Nat), i ≤ n ∧ i ≤ 9 ∧ j = .int .i64 i ∧ t = .int .i64 acc ∧ Hid (At bs i acc o)) (fun _ j => n - (intOf j).toNat)
  case atStart => exact ⟨0, 0, Nat.zero_le _, by omega, rfl, rfl, by rw [← HG.out]; exact At.start bs⟩
  case round =>
    obtain ⟨i, acc, hin, hi, rfl, rfl, HA⟩ := hrel
    by_cases hlt : i < n
    · by_cases hi9 : i < 9
      · obtain ⟨b, off, u, rfl, HU, hc, _⟩ := hs.byte hlt
        have hub : u.toNat < 256 := u.toNat_lt
        clear hs
        obtain ⟨x, y, acc', HX, HY, hlow, hmod, hx127, hsh, hor, hacc⟩ := step_names u HA.out.2.1 (show i ≤ 8 by omega)
        by_cases hh : 128 ≤ u.toNat
        · have HN : Hid (At bs (i + 1) acc' o) := by have := HA.out.next HU.out hi9 hh; rwa [HY.out] at this
          clear hlow
          go_wp2_with fail
          go_round
          case rel => exact ⟨i + 1, acc', by omega, by omega, by go_num, rfl, HN⟩
          case measure => simp [intOf]; omega
        · have hl := HA.out.last HU.out hi9 (by omega)
          have E1 := HY.out
          rw [Nat.mod_eq_of_lt (show u.toNat < 128 by omega)] at E1
          have hel := enc_len_at HA.out.2.1 (show u.toNat < 128 by omega)
          rw [E1] at hel hl
          have HEL := hide hel
          have HLA := hide hl
          clear hel hl hlow E1
          obtain ⟨L, HLL⟩ : ∃ L, Hid ((enc acc').length = L) := ⟨_, rfl⟩
          have hL9 : L ≤ 9 := by rw [← HLL.out]; exact enc_len_63 (by omega)
          have hi0 : (0 : Int) ≤ i := by omega
          by_cases hq : L = i + 1
          · have hb : ((L : Int) != (i : Int) + 1) = false := by simp; omega
            have HF : Hid (gotN bs = (acc', i + 1)) := by
              have h1 := HLL.out
              rw [hq] at h1
              have h2 := HEL.out.mp h1
              have h3 := HLA.out
              rw [if_neg h2] at h3
              rw [Hid, HO.out, h3]; rfl
            clear hq
            go_wp2_with (first | (go_at_call 83; refine (ref2_Num acc' _ (by omega)).mono ?_; rintro e w1 ⟨v, rfl, hown, hb1⟩; rw [HLL.out] at hown; obtain ⟨A1, c1, rfl⟩ := own_slice hown))
            try rw [Exit.noGoto_ret]
            go_ret2
            exact ⟨by rw [HF.out]; rfl, hb1⟩
          · have hb : ((L : Int) != (i : Int) + 1) = true := by simp; omega
            have HF : Hid (gotN bs = (0, 0)) := by
              have h2 : ¬ ¬ (0 < i ∧ u.toNat = 0) := fun h => hq (by rw [← HLL.out]; exact HEL.out.mpr h)
              have h3 := HLA.out
              rw [if_pos (Classical.not_not.mp h2)] at h3
              rw [Hid, HO.out, h3]; rfl
            clear hq
            go_wp2_with (first | (go_at_call 83; refine (ref2_Num acc' _ (by omega)).mono ?_; rintro e w1 ⟨v, rfl, hown, hb1⟩; rw [HLL.out] at hown; obtain ⟨A1, c1, rfl⟩ := own_slice hown))
            try rw [Exit.noGoto_ret]
            go_ret2
            exact ⟨by rw [HF.out]; rfl, hb1⟩
      · have HF : Hid (gotN bs = (0, 0)) := by
          have h1 : i = 9 := by omega
          have h2 := HA.out
          rw [h1] at h2
          rw [Hid, HO.out, h2.nine]; rfl
        go_wp2_with fail
        try rw [Exit.noGoto_ret]
        go_ret2
        exact ⟨by rw [HF.out]; rfl, Below.refl _ _⟩
    · have HF : Hid (gotN bs = (0, 0)) := by
        rw [Hid, HO.out, HA.out.out (by rw [HL.out]; omega)]; rfl
      go_wp2_with fail
      try rw [Exit.noGoto_ret]
      go_ret2
      exact ⟨by rw [HF.out]; rfl, Below.refl _ _⟩
end Go.Proofs.Ytihpmaifcebpiaa
/-
  Contracts of laying texts as bytes: wire's own.
-/
namespace Go.Proofs.Ytihpmaifcebpiaa
open Go.RowKit

/-- Texts' bytes, behind the count. -/
def txt (ls : List ByteArray) : List UInt8 := ls.flatMap fun s => enc s.size ++ s.data.toList
/-- Texts' bytes. -/
def putB (ls : List ByteArray) : List UInt8 := enc ls.length ++ txt ls
theorem txt_nil : txt [] = [] := rfl
theorem txt_append (a b : List ByteArray) : txt (a ++ b) = txt a ++ txt b := by simp [txt]
theorem txt_snoc (a : List ByteArray) (s : ByteArray) : txt (a ++ [s]) = txt a ++ enc s.size ++ s.data.toList := by simp [txt]
theorem txt_take {ls : List ByteArray} {k : Nat} {u : ByteArray} (h : ls[k]? = some u) : txt (ls.take (k + 1)) = txt (ls.take k) ++ enc u.size ++ u.data.toList := by
  rw [take_at h, txt_snoc]
theorem bytes_len (s : ByteArray) : s.data.toList.length = s.size := by rw [Array.length_toList]; rfl
theorem txt_take_le (ls : List ByteArray) (k : Nat) : (txt (ls.take k)).length ≤ (txt ls).length := by
  have h : txt ls = txt (ls.take k) ++ txt (ls.drop k) := by rw [← txt_append, List.take_append_drop]
  rw [h, List.length_append]; omega
theorem strCells_bytes8 (s : ByteArray) : Go.Lib.strCells s = bytes8 s.data.toList := rfl

set_option maxRecDepth 100000 in
set_option maxHeartbeats 1000000 in
theorem wire_Put {A : Option Addr} {n c : Nat} {ls : List ByteArray} (w : World) (hs : Sl w 1 A n (strs ls)) (hn : n ≤ 1099511627776) (hb : (putB ls).length ≤ 1048576) :
    Calls Try.prog 50 #[.slice A n c] w fun e w' => ∃ v', e = .returned (.tuple #[v', .int .i64 0]) ∧ w'.ownsRow w.heap.size 5 1 v' (putB ls).length (bytes8 (putB ls)) ∧ Below w.heap.size w w' := by
  have HL := hide hs.slen
  have HB := hide hb
  clear hb
  obtain ⟨i0, hi, hz0, hz1, hz2⟩ := info_parts Try.infoByte
  go_enter Try.func50, Try.ntmps50
  go_wp2_with fail
  go_step3
  go_wp2_with (go_at_call 82; refine (wire_num w.heap.size _ n [] _ (World.ownsRow_nil _ _ _ _) (Nat.le_refl _) (by omega) (by simp)).mono ?_; rintro e w1 ⟨v1, rfl, hown1, hb1⟩)
  have hz1' := hb1.size
  go_loopw [4, 12] (fun b i wr => ∃ (k : Nat) (ys : List UInt8), k ≤ n ∧ i = .int .i64 k ∧ Hid (enc n ++ txt (ls.take k) = ys) ∧ ys.length ≤ 1048576 ∧ wr.ownsRow w.heap.size 5 1 b ys.length (bytes8 ys) ∧ Below w.heap.size w wr) (fun _ i _ => n - (intOf i).toNat)
  case atStart => exact ⟨0, enc n, Nat.zero_le _, rfl, by simp [Hid, txt_nil], by have := enc_len_63 (n := n) (by omega); omega, hown1, hb1⟩
  case round =>
    obtain ⟨k, ys, hk, rfl, HY, hyl, hown, hb⟩ := hrel
    have hsz := hb.size
    have hTot : Hid ((enc n ++ txt ls).length ≤ 1048576) := by have := HB.out; rw [putB, HL.out] at this; exact this
    clear hown1 hb1 hz1'
    obtain ⟨wo, rfl⟩ : ∃ wo : World, wo = wr := ⟨_, rfl⟩
    by_cases hlt : k < n
    · obtain ⟨b, off, u, rfl, HU, hc, _⟩ := hs.str hlt
      have hc' := cell_later hb hc
      clear hc hs
      obtain ⟨zs, HZ⟩ : ∃ zs, Hid (ys ++ enc u.size = zs) := ⟨_, rfl⟩
      have HQ : Hid (enc n ++ txt (ls.take (k + 1)) = zs ++ u.data.toList) := by
        rw [Hid, txt_take HU.out, ← HZ.out, ← HY.out]; simp
      have hq : zs.length + u.size ≤ 1048576 := by
        have h1 := HQ.out
        have h2 := congrArg List.length h1
        have h3 := txt_take_le ls (k + 1)
        have h4 := hTot.out
        rw [List.length_append, List.length_append, bytes_len] at h2
        rw [List.length_append] at h4
        omega
      go_wp2_with (first
        | (go_at_call 82; refine (wire_num w.heap.size _ u.size ys _ hown (by omega) (by omega) (by omega)).mono ?_; rintro e w2 ⟨v2, rfl, hown2, hb2⟩; rw [HZ.out] at hown2; have hb3 := hb.trans hb2; have hsz3 := hb3.size; obtain ⟨A2, c2, rfl⟩ := own_slice hown2)
        | (at_builtin; refine Go.Lib.wpList_append_own_string _ rfl _ _ 27 9 rfl w.heap.size 5 i0 Try.underlying27 Try.underlying9 hi hz0 hz1 hz2 _ _ _ rfl hown2 _ rfl ?c1 ?c2 ?c3 ?_))
      case c1 => unfold maxLen; omega
      case c2 => omega
      case c3 => omega
      intro v3 w3 hown3 hg _
      have hb4 : Below w.heap.size w w3 := hb3.grown hg (by omega) (fun g hg' => (hown2.lt g hg').1)
      have hown4 : w3.ownsRow w.heap.size 5 1 v3 (zs ++ u.data.toList).length (bytes8 (zs ++ u.data.toList)) := by rw [bytes8_append, List.length_append, bytes_len]; exact hown3
      have hfl : (zs ++ u.data.toList).length ≤ 1048576 := by rw [List.length_append, bytes_len]; exact hq
      clear hown3 hg hown2 hb3 hown hb hb2
      go_wp2_with fail
      go_roundw
      case rel => exact ⟨k + 1, _, by omega, by go_num, HQ, hfl, hown4, hb4⟩
      case measure => simp [intOf]; omega
    · obtain rfl : k = n := by omega
      have HF : Hid (ys = putB ls) := by
        have h := HY.out
        rw [List.take_of_length_le (by rw [HL.out]; exact Nat.le_refl _)] at h
        rw [Hid, putB, HL.out, h]
      obtain ⟨A2, c2, rfl⟩ := own_slice hown
      go_wp2_with fail
      try rw [Exit.noGoto_ret]
      go_ret2
      refine ⟨_, rfl, ?_, hb⟩
      rw [← HF.out]
      exact hown
end Go.Proofs.Ytihpmaifcebpiaa
/-
  Contracts of laying numbers as bytes: wire's own.
-/
namespace Go.Proofs.Ytihpmaifcebpiaa
open Go.RowKit

/-- Numbers' bytes, behind the count. -/
def nums (xs : List Int) : List UInt8 := xs.flatMap fun x => enc x.toNat
/-- Numbers' bytes. -/
def numsB (xs : List Int) : List UInt8 := enc xs.length ++ nums xs
theorem nums_append (a b : List Int) : nums (a ++ b) = nums a ++ nums b := by simp [nums]
theorem nums_take {xs : List Int} {k : Nat} {u : Int} (h : xs[k]? = some u) : nums (xs.take (k + 1)) = nums (xs.take k) ++ enc u.toNat := by
  rw [take_at h, nums_append]; simp [nums]
theorem nums_take_le (xs : List Int) (k : Nat) : (nums (xs.take k)).length ≤ (nums xs).length := by
  have h : nums xs = nums (xs.take k) ++ nums (xs.drop k) := by rw [← nums_append, List.take_append_drop]
  rw [h, List.length_append]; omega

set_option maxRecDepth 100000 in
set_option maxHeartbeats 1000000 in
theorem wire_Nums_yes {A : Option Addr} {n c : Nat} {xs : List Int} (w : World) (hs : Sl w 1 A n (ints xs)) (hn : n ≤ 1099511627776) (h0 : ∀ x ∈ xs, 0 ≤ x ∧ x ≤ 9223372036854775807) (hb : (numsB xs).length ≤ 1048576) :
    Calls Try.prog 90 #[.slice A n c] w fun e w' => ∃ v', e = .returned (.tuple #[v', .int .i64 0]) ∧ w'.ownsRow w.heap.size 5 1 v' (numsB xs).length (bytes8 (numsB xs)) ∧ Below w.heap.size w w' := by
  have HL := hide hs.ilen
  have HB := hide hb
  have H0 := hide h0
  clear hb h0
  go_enter Try.func90, Try.ntmps90
  go_wp2_with (go_at_call 82; refine (wire_num w.heap.size _ n [] _ (World.ownsRow_nil _ _ _ _) (Nat.le_refl _) (by omega) (by simp)).mono ?_; rintro e w1 ⟨v1, rfl, hown1, hb1⟩)
  have hz1' := hb1.size
  go_loopw [4, 12] (fun b i wr => ∃ (k : Nat) (ys : List UInt8), k ≤ n ∧ i = .int .i64 k ∧ Hid (enc n ++ nums (xs.take k) = ys) ∧ ys.length ≤ 1048576 ∧ wr.ownsRow w.heap.size 5 1 b ys.length (bytes8 ys) ∧ Below w.heap.size w wr) (fun _ i _ => n - (intOf i).toNat)
  case atStart => exact ⟨0, enc n, Nat.zero_le _, rfl, by simp [Hid, nums], by have := enc_len_63 (n := n) (by omega); omega, hown1, hb1⟩
  case round =>
    obtain ⟨k, ys, hk, rfl, HY, hyl, hown, hb⟩ := hrel
    have hsz := hb.size
    have hTot : Hid ((enc n ++ nums xs).length ≤ 1048576) := by have := HB.out; rw [numsB, HL.out] at this; exact this
    clear hown1 hb1 hz1'
    obtain ⟨wo, rfl⟩ : ∃ wo : World, wo = wr := ⟨_, rfl⟩
    obtain ⟨A2, c2, rfl⟩ := own_slice hown
    by_cases hlt : k < n
    · obtain ⟨b, off, u, rfl, HU, hc, _⟩ := hs.int hlt
      have hc' := cell_later hb hc
      obtain ⟨hu0, hu1⟩ := H0.out u (List.mem_of_getElem? HU.out)
      obtain ⟨m, rfl⟩ : ∃ m : Nat, u = (m : Int) := ⟨u.toNat, by omega⟩
      have hm : m ≤ 9223372036854775807 := by omega
      clear hc hs hu0 hu1
      have HQ : Hid (enc n ++ nums (xs.take (k + 1)) = ys ++ enc m) := by
        rw [Hid, nums_take HU.out, ← HY.out]; simp
      have hq : (ys ++ enc m).length ≤ 1048576 := by
        have h2 := congrArg List.length HQ.out
        have h3 := nums_take_le xs (k + 1)
        have h4 := hTot.out
        rw [List.length_append] at h2 h4
        omega
      obtain ⟨yl, HYL⟩ : ∃ yl, Hid (ys.length = yl) := ⟨_, rfl⟩
      go_wp2_with (first
        | (go_at_call 82; refine (wire_num w.heap.size _ m ys _ hown (by omega) (by omega) (by omega)).mono ?_; rintro e w2 ⟨v2, rfl, hown2, hb2⟩; have hb3 := hb.trans hb2))
      go_roundw
      case rel => exact ⟨k + 1, _, by omega, by go_num, HQ, hq, hown2, hb3⟩
      case measure => simp [intOf]; omega
    · obtain rfl : k = n := by omega
      have HF : Hid (ys = numsB xs) := by
        have h := HY.out
        rw [List.take_of_length_le (by rw [HL.out]; exact Nat.le_refl _)] at h
        rw [Hid, numsB, HL.out, h]
      go_wp2_with fail
      go_ret2
      refine ⟨_, rfl, ?_, hb⟩
      rw [← HF.out]
      exact hown

set_option maxRecDepth 100000 in
set_option maxHeartbeats 1000000 in
theorem wire_Nums_no {A : Option Addr} {n c : Nat} {xs : List Int} (w : World) (hs : Sl w 1 A n (ints xs)) (hn : n ≤ 1099511627776) (h0 : ∃ x ∈ xs, x < 0) (h1 : ∀ x ∈ xs, x ≤ 9223372036854775807) :
    Calls Try.prog 90 #[.slice A n c] w fun e w' => e = .returned (.tuple #[.slice none 0 0, .int .i64 1]) ∧ Below w.heap.size w w' := by
  have HL := hide hs.ilen
  have H0 := hide h0
  have H1 := hide h1
  clear h0 h1
  go_enter Try.func90, Try.ntmps90
  go_wp2_with (go_at_call 82; refine (wire_num w.heap.size _ n [] _ (World.ownsRow_nil _ _ _ _) (Nat.le_refl _) (by omega) (by simp)).mono ?_; rintro e w1 ⟨v1, rfl, hown1, hb1⟩)
  have hz1' := hb1.size
  go_loopw [4, 12] (fun b i wr => ∃ (k : Nat) (ys : List UInt8), k ≤ n ∧ i = .int .i64 k ∧ Hid (∀ x ∈ xs.take k, 0 ≤ x) ∧ ys.length ≤ 1048600 ∧ wr.ownsRow w.heap.size 5 1 b ys.length (bytes8 ys) ∧ Below w.heap.size w wr) (fun _ i _ => n - (intOf i).toNat)
  case atStart => exact ⟨0, enc n, Nat.zero_le _, rfl, by simp [Hid], by have := enc_len_63 (n := n) (by omega); omega, hown1, hb1⟩
  case round =>
    obtain ⟨k, ys, hk, rfl, HY, hyl, hown, hb⟩ := hrel
    have hsz := hb.size
    clear hown1 hb1 hz1'
    obtain ⟨wo, rfl⟩ : ∃ wo : World, wo = wr := ⟨_, rfl⟩
    obtain ⟨A2, c2, rfl⟩ := own_slice hown
    have hlt : k < n := by
      apply Nat.lt_of_not_le
      intro h
      obtain ⟨x, hx, hn0⟩ := H0.out
      have := HY.out x (by rw [List.take_of_length_le (by rw [HL.out]; exact h)]; exact hx)
      omega
    obtain ⟨b, off, u, rfl, HU, hc, _⟩ := hs.int hlt
    have hc' := cell_later hb hc
    have hu1 := H1.out u (List.mem_of_getElem? HU.out)
    clear hc hs
    by_cases hu0 : u < 0
    · go_wp2_with fail
      try rw [Exit.noGoto_ret]
      go_ret2
      exact ⟨rfl, hb⟩
    · obtain ⟨m, rfl⟩ : ∃ m : Nat, u = (m : Int) := ⟨u.toNat, by omega⟩
      have hm : m ≤ 9223372036854775807 := by omega
      have HQ : Hid (∀ x ∈ xs.take (k + 1), 0 ≤ x) := by
        intro x hx
        rw [take_at HU.out, List.mem_append] at hx
        rcases hx with hx | hx
        · exact HY.out x hx
        · simp at hx; omega
      clear hu0 hu1
      by_cases hy : ys.length ≤ 1048576
      · have hd : decide ((ys.length : Int) ≤ 1048576) = true := by rw [decide_eq_true_eq]; omega
        have hel := enc_len_63 (n := m) (by omega)
        have hq : (ys ++ enc m).length ≤ 1048600 := by rw [List.length_append]; omega
        go_wp2_with (first
          | (go_at_call 82; refine (wire_num w.heap.size _ m ys _ hown (by omega) (by omega) (by omega)).mono ?_; rintro e w2 ⟨v2, rfl, hown2, hb2⟩; have hb3 := hb.trans hb2))
        go_roundw
        case rel => exact ⟨k + 1, _, by omega, by go_num, HQ, hq, hown2, hb3⟩
        case measure => simp [intOf]; omega
      · have hd : decide ((ys.length : Int) ≤ 1048576) = false := by rw [decide_eq_false_iff_not]; omega
        clear hy
        go_wp2_with fail
        go_roundw
        case rel => exact ⟨k + 1, ys, by omega, by go_num, HQ, hyl, hown, hb⟩
        case measure => simp [intOf]; omega
end Go.Proofs.Ytihpmaifcebpiaa
