/-
  Plain facts on float64 words: what a word stands for, scaled to whole numbers; whole numbers of fewer than 53 bits are met exactly, also as sums and differences. No conditions but those that each lemma states.
-/
import Derived.Test.YtkjdhjkmnkcgoaaMem
namespace Go.Proofs.Ytkjdhjkmnkcgoaa
open Go.RowKit Ieee

/-- The scale: every finite float64 is a whole multiple of 2^-1074. -/
def bigE : Nat := 1074
theorem bigE_eq : bigE = 1074 := rfl
def scale : Nat := 2 ^ bigE
theorem scale_pos : 0 < scale := Nat.two_pow_pos _
theorem scale_split (a b : Nat) (h : a + b = bigE) : scale = 2 ^ a * 2 ^ b := by rw [← Nat.pow_add, h, scale]
theorem pow_scale {i : Int} (h : -1074 ≤ i) (hi : i ≤ 0) : 2 ^ (i + 1074).toNat * 2 ^ (-i).toNat = scale := by
  rw [← Nat.pow_add, scale]; congr 1; have := bigE_eq; omega
theorem pow_scale' {i : Int} (hi : 0 ≤ i) : 2 ^ (i + 1074).toNat = 2 ^ i.toNat * scale := by
  rw [scale, ← Nat.pow_add]; congr 1; have := bigE_eq; omega

/-- What a word stands for, times the scale. -/
def val (x : Nat) : Option Int :=
  match double.read x with
  | .number s m e => some (signed s m (e + 1074).toNat)
  | _ => none

theorem signed_eq (s : Bool) (m u : Nat) : signed s m u = (if s then -1 else 1) * ((m * 2 ^ u : Nat) : Int) := by
  unfold signed; cases s <;> simp [Nat.shiftLeft_eq]

theorem read_place {x : Nat} {s : Bool} {m : Nat} {e : Int} (h : double.read x = .number s m e) : -1074 ≤ e := by
  unfold Format.read at h
  simp only at h
  split at h
  · injection h with _ _ h; rw [← h]; decide
  · split at h
    · injection h with _ _ h
      have : double.leastPlace = -1074 := by decide
      rw [this] at h
      omega
    · split at h <;> cases h

theorem order_val {x y : Nat} {a b : Int} (hx : val x = some a) (hy : val y = some b) : double.order x y = some (compare a b) := by
  unfold val at hx hy
  cases hrx : double.read x with
  | infinity s => rw [hrx] at hx; cases hx
  | nan s f => rw [hrx] at hx; cases hx
  | number s m i =>
    cases hry : double.read y with
    | infinity s => rw [hry] at hy; cases hy
    | nan s f => rw [hry] at hy; cases hy
    | number t n j =>
      rw [hrx] at hx; rw [hry] at hy
      have hi := read_place hrx
      have hj := read_place hry
      simp only [Option.some.injEq] at hx hy
      unfold Format.order
      rw [hrx, hry]
      simp only [Datum.order, Option.some.injEq]
      subst hx; subst hy
      have hb : -1074 ≤ min i j := by omega
      have e1 : signed s m (i + 1074).toNat = signed s m (i - min i j).toNat * ((2 ^ (min i j + 1074).toNat : Nat) : Int) := by
        rw [signed_eq, signed_eq, Int.mul_assoc]
        congr 1
        rw [← Int.natCast_mul, Nat.mul_assoc, ← Nat.pow_add]
        congr 3; omega
      have e2 : signed t n (j + 1074).toNat = signed t n (j - min i j).toNat * ((2 ^ (min i j + 1074).toNat : Nat) : Int) := by
        rw [signed_eq, signed_eq, Int.mul_assoc]
        congr 1
        rw [← Int.natCast_mul, Nat.mul_assoc, ← Nat.pow_add]
        congr 3; omega
      rw [e1, e2]
      have hp : (0 : Int) < ((2 ^ (min i j + 1074).toNat : Nat) : Int) := Int.natCast_pos.2 (Nat.two_pow_pos _)
      generalize ((2 ^ (min i j + 1074).toNat : Nat) : Int) = c at *
      generalize signed s m (i - min i j).toNat = u
      generalize signed t n (j - min i j).toNat = v
      simp only [compare, compareOfLessAndEq]
      have l1 : u < v ↔ u * c < v * c := (Int.mul_lt_mul_right hp).symm
      have l2 : u = v ↔ u * c = v * c := ⟨fun h => by rw [h], fun h => Int.eq_of_mul_eq_mul_right (by omega) h⟩
      by_cases h1 : u < v
      · rw [if_pos h1, if_pos (l1.1 h1)]
      · rw [if_neg h1, if_neg (fun h => h1 (l1.2 h))]
        by_cases h2 : u = v
        · rw [if_pos h2, if_pos (l2.1 h2)]
        · rw [if_neg h2, if_neg (fun h => h2 (l2.2 h))]

theorem read_word {neg : Bool} {rung : Nat} (h : rung < double.infRung) :
    double.read (double.word neg rung) = if rung < double.binade then .number neg rung double.leastPlace else .number neg (double.binade + rung % double.binade) (double.leastPlace + (rung / double.binade - 1 : Nat)) := by
  have e1 : double.signWeight = 9223372036854775808 := by decide
  have e2 : double.infRung = 9218868437227405312 := by decide
  rw [e2] at h
  have a1 : double.word neg rung / double.signWeight % 2 = neg.toNat := by
    unfold Format.word; rw [e1]
    cases neg
    · show rung / 9223372036854775808 % 2 = 0; omega
    · show (9223372036854775808 + rung) / 9223372036854775808 % 2 = 1; omega
  have a2 : double.word neg rung % double.signWeight = rung := by
    unfold Format.word; rw [e1]
    cases neg
    · show rung % 9223372036854775808 = rung; omega
    · show (9223372036854775808 + rung) % 9223372036854775808 = rung; omega
  have a3 : (neg.toNat == 1) = neg := by cases neg <;> rfl
  unfold Format.read
  simp only [a1, a2, a3, e2, if_pos h]

theorem log2_shift {v k : Nat} (hv : 0 < v) : (v * 2 ^ k).log2 = v.log2 + k := by
  have h0 : v * 2 ^ k ≠ 0 := Nat.ne_of_gt (Nat.mul_pos hv (Nat.two_pow_pos _))
  obtain ⟨a, b⟩ := (Nat.log2_eq_iff (n := v) (by omega)).1 rfl
  refine (Nat.log2_eq_iff h0).2 ⟨?_, ?_⟩
  · rw [Nat.pow_add]; exact Nat.mul_le_mul_right _ a
  · rw [show v.log2 + k + 1 = (v.log2 + 1) + k by omega, Nat.pow_add]
    exact Nat.mul_lt_mul_of_pos_right b (Nat.two_pow_pos _)

theorem cut_exact (way : Toward) (neg : Bool) (q d : Nat) : way.cut neg (q * 2 ^ d) d = q := by
  rcases Nat.eq_zero_or_pos q with rfl | hq
  · unfold Toward.cut
    simp only [Nat.zero_mul, Nat.zero_div, Nat.zero_mod]
    have hg : 1 <<< min d (Nat.log2 0 + 2) = 2 ^ min d (Nat.log2 0 + 2) := by rw [Nat.shiftLeft_eq, Nat.one_mul]
    rw [hg]
    generalize hgg : 2 ^ min d (Nat.log2 0 + 2) = g
    have hp : 0 < g := by rw [← hgg]; exact Nat.two_pow_pos _
    have e : (g == 0) = false := by simp; omega
    cases way <;> simp [e]
  · unfold Toward.cut
    have hm : min d ((q * 2 ^ d).log2 + 2) = d := by rw [log2_shift hq]; omega
    simp only [hm]
    have hg : 1 <<< d = 2 ^ d := by rw [Nat.shiftLeft_eq, Nat.one_mul]
    rw [hg, Nat.mul_div_cancel _ (Nat.two_pow_pos _), Nat.mul_mod_left]
    have hp : 0 < 2 ^ d := Nat.two_pow_pos _
    generalize 2 ^ d = g at *
    have e : (g == 0) = false := by simp; omega
    cases way <;> simp [e]

theorem cut_zero (neg : Bool) (n d : Nat) : Toward.zero.cut neg n d = n / 2 ^ d := by
  unfold Toward.cut
  simp only [Bool.toNat_false, Nat.add_zero]
  rw [Nat.shiftLeft_eq, Nat.one_mul]
  rcases Nat.le_total d (n.log2 + 2) with h | h
  · rw [Nat.min_eq_left h]
  · rw [Nat.min_eq_right h]
    have h1 : n < 2 ^ (n.log2 + 2) := Nat.lt_of_lt_of_le Nat.lt_log2_self (Nat.pow_le_pow_right (by omega) (by omega))
    have h2 : n < 2 ^ d := Nat.lt_of_lt_of_le h1 (Nat.pow_le_pow_right (by omega) h)
    rw [Nat.div_eq_of_lt h1, Nat.div_eq_of_lt h2]

theorem kept_bd {v : Nat} (hv0 : 0 < v) (hv : v < 2 ^ 53) : v.log2 ≤ 52 ∧ 2 ^ 52 ≤ v * 2 ^ (52 - v.log2) ∧ v * 2 ^ (52 - v.log2) < 2 ^ 53 := by
  have hl52 : v.log2 ≤ 52 := by
    have := (Nat.log2_lt (by omega : v ≠ 0)).2 hv
    omega
  obtain ⟨a, b⟩ := (Nat.log2_eq_iff (n := v) (by omega)).1 rfl
  refine ⟨hl52, ?_, ?_⟩
  · have e : (2 : Nat) ^ 52 = 2 ^ v.log2 * 2 ^ (52 - v.log2) := by rw [← Nat.pow_add, show v.log2 + (52 - v.log2) = 52 by omega]
    rw [e]; exact Nat.mul_le_mul_right _ a
  · have e : (2 : Nat) ^ 53 = 2 ^ (v.log2 + 1) * 2 ^ (52 - v.log2) := by rw [← Nat.pow_add, show v.log2 + 1 + (52 - v.log2) = 53 by omega]
    rw [e]; exact Nat.mul_lt_mul_of_pos_right b (Nat.two_pow_pos _)

theorem kept_at {v : Nat} (hv0 : 0 < v) (hv : v < 2 ^ 53) : ∃ L K : Nat, Hid (v.log2 = L) ∧ Hid (v * 2 ^ (52 - L) = K) ∧ L ≤ 52 ∧ 4503599627370496 ≤ K ∧ K < 9007199254740992 := by
  obtain ⟨a, b, c⟩ := kept_bd hv0 hv
  exact ⟨_, _, rfl, rfl, a, b, c⟩

theorem cut_kept {neg : Bool} {mag v L K : Nat} {place : Int} (hL : L ≤ 52) (hp : place ≤ 0) (hK : v * 2 ^ (52 - L) = K) (hm : mag = v * 2 ^ (-place).toNat) :
    Toward.even.cut neg (mag <<< (place - ((L : Int) - 52)).toNat) ((L : Int) - 52 - place).toNat = K := by
  rcases Int.le_total ((L : Int) - 52) place with h | h
  · have e1 : ((L : Int) - 52 - place).toNat = 0 := by omega
    have e : (-place).toNat + (place - ((L : Int) - 52)).toNat = 52 - L := by omega
    have e2 : mag <<< (place - ((L : Int) - 52)).toNat = K * 2 ^ 0 := by
      rw [Nat.shiftLeft_eq, hm, Nat.mul_assoc, ← Nat.pow_add, e, Nat.pow_zero, Nat.mul_one, hK]
    rw [e1, e2, cut_exact]
  · have e1 : (place - ((L : Int) - 52)).toNat = 0 := by omega
    have e : (-place).toNat = 52 - L + ((L : Int) - 52 - place).toNat := by omega
    have e2 : mag <<< (place - ((L : Int) - 52)).toNat = K * 2 ^ ((L : Int) - 52 - place).toNat := by
      rw [e1, Nat.shiftLeft_zero, hm, e, Nat.pow_add, ← Nat.mul_assoc, hK]
    rw [e2, cut_exact]

/-- The rung of a whole number v of fewer than 53 bits. -/
def rungOf (L K : Nat) : Nat := (L + 1022) * 4503599627370496 + K

theorem nearest_pos {neg : Bool} {mag v L K : Nat} {place : Int} (hp : -1074 ≤ place) (hp0 : place ≤ 0) (hv0 : 0 < v) (hm : mag = v * 2 ^ (-place).toNat)
    (HL : Hid (v.log2 = L)) (HK : Hid (v * 2 ^ (52 - L) = K)) (hl : L ≤ 52) (hk1 : 4503599627370496 ≤ K) (hk2 : K < 9007199254740992) :
    double.nearest neg mag place = double.word neg (rungOf L K) := by
  have hcut := cut_kept (neg := neg) hl hp0 HK.out hm
  have hmag : mag ≠ 0 := by
    rw [hm]
    exact Nat.ne_of_gt (Nat.mul_pos hv0 (Nat.two_pow_pos _))
  have hlog : mag.log2 = L + (-place).toNat := by
    rw [hm, log2_shift hv0, HL.out]
  have ef : (double.fractionBits : Int) = 52 := rfl
  have el : double.leastPlace = -1074 := by decide
  have eb : double.binade = 4503599627370496 := rfl
  have einf : double.infRung = 9218868437227405312 := by decide
  clear hm
  have hlast : max (place + (mag.log2 : Int) - (double.fractionBits : Int)) double.leastPlace = (L : Int) - 52 := by
    rw [hlog, ef, el]; omega
  unfold Format.nearest
  rw [if_neg hmag]
  simp only [hlast]
  simp only [el, eb, einf, hcut]
  have e3 : ((L : Int) - 52 - -1074).toNat = L + 1022 := by omega
  rw [e3]
  generalize hG : (L + 1022) * 4503599627370496 + K = G
  have hG2 : G ≤ 9218868437227405312 := by omega
  rw [Nat.min_eq_left hG2, ← hG, rungOf]

theorem val_word {neg : Bool} {v L K : Nat} (HK : Hid (v * 2 ^ (52 - L) = K)) (hl : L ≤ 52) (hk1 : 4503599627370496 ≤ K) (hk2 : K < 9007199254740992) :
    val (double.word neg (rungOf L K)) = some ((if neg then -1 else 1) * ((v * scale : Nat) : Int)) := by
  have eb : double.binade = 4503599627370496 := rfl
  have el : double.leastPlace = -1074 := by decide
  have einf : double.infRung = 9218868437227405312 := by decide
  obtain ⟨Z, hZ⟩ : ∃ Z, 2 ^ (L + 1022) = Z := ⟨_, rfl⟩
  have hs : v * scale = K * Z := by
    rw [scale_split (52 - L) (L + 1022) (by have := bigE_eq; omega), hZ, ← Nat.mul_assoc, HK.out]
  rw [hs]
  clear hs
  obtain ⟨R, hR, hr1, hr2, e1, e2⟩ : ∃ R, rungOf L K = R ∧ R < 9218868437227405312 ∧ ¬ R < 4503599627370496 ∧ 4503599627370496 + R % 4503599627370496 = K ∧ R / 4503599627370496 = L + 1023 := by
    refine ⟨_, rfl, ?_, ?_, ?_, ?_⟩ <;> unfold rungOf <;> omega
  rw [hR]
  clear hR
  have hread : double.read (double.word neg R) = .number neg K ((L : Int) - 52) := by
    rw [read_word (by rw [einf]; exact hr1), eb, el, if_neg hr2, e1, e2]
    have e4 : (-1074 : Int) + ((L + 1023 - 1 : Nat) : Int) = (L : Int) - 52 := by omega
    rw [e4]
  unfold val
  rw [hread]
  simp only
  have e3 : ((L : Int) - 52 + 1074).toNat = L + 1022 := by omega
  rw [e3, signed_eq, hZ]

theorem val_zero (neg : Bool) : val (double.word neg 0) = some 0 := by
  have eb : double.binade = 2 ^ 52 := rfl
  have einf : double.infRung = 9218868437227405312 := by decide
  unfold val
  rw [read_word (by rw [einf]; omega), eb, if_pos (by omega)]
  simp only
  rw [signed_eq]
  simp

/-- A datum that is a whole number n of fewer than 53 bits is written as n. -/
theorem val_write {neg : Bool} {mag : Nat} {place : Int} {n : Int} (hp : -1074 ≤ place) (hp0 : place ≤ 0) (hn : n.natAbs < 2 ^ 53) (hm : mag = n.natAbs * 2 ^ (-place).toNat) (hneg : n ≠ 0 → neg = decide (n < 0)) :
    val (double.write (.number neg mag place)) = some (n * scale) := by
  show val (double.nearest neg mag place) = _
  by_cases h0 : n = 0
  · subst h0
    have : mag = 0 := by rw [hm]; simp
    unfold Format.nearest
    rw [if_pos this, val_zero]; simp
  · obtain ⟨L, K, HL, HK, hl, hk1, hk2⟩ := kept_at (v := n.natAbs) (by omega) hn
    rw [nearest_pos hp hp0 (by omega) hm HL HK hl hk1 hk2, val_word HK hl hk1 hk2]
    have hneg := hneg h0
    subst hneg
    congr 1
    by_cases h : n < 0
    · rw [if_pos (by simpa using h), Int.natCast_mul]
      have : ((n.natAbs : Nat) : Int) = -n := by omega
      rw [this, Int.neg_mul, Int.neg_mul, Int.one_mul, Int.neg_neg]
    · rw [if_neg (by simpa using h), Int.natCast_mul]
      have : ((n.natAbs : Nat) : Int) = n := by omega
      rw [this]; simp

theorem val_nearest {n : Int} (hn : n.natAbs < 2 ^ 53) : val (FloatKind.f64.nearest n) = some (n * scale) :=
  val_write (n := n) (by omega) (Int.le_refl _) hn (by simp) (fun _ => rfl)

/-- Sums and differences of whole numbers are exact. -/
theorem signed_val {s : Bool} {m : Nat} {i base : Int} {a : Int} (hb : -1074 ≤ base) (hb0 : base ≤ 0) (hi : base ≤ i) (h : signed s m (i + 1074).toNat = a * scale) : signed s m (i - base).toNat = a * ((2 ^ (-base).toNat : Nat) : Int) := by
  have e1 : signed s m (i + 1074).toNat = signed s m (i - base).toNat * ((2 ^ (base + 1074).toNat : Nat) : Int) := by
    rw [signed_eq, signed_eq, Int.mul_assoc]
    congr 1
    rw [← Int.natCast_mul, Nat.mul_assoc, ← Nat.pow_add]
    have e : (i + 1074).toNat = (i - base).toNat + (base + 1074).toNat := by omega
    rw [e]
  have e2 : (scale : Int) = ((2 ^ (-base).toNat : Nat) : Int) * ((2 ^ (base + 1074).toNat : Nat) : Int) := by
    rw [← Int.natCast_mul, ← scale_split _ _ (by have := bigE_eq; omega)]
  rw [e1, e2, ← Int.mul_assoc] at h
  exact Int.eq_of_mul_eq_mul_right (by have : (0 : Int) < ((2 ^ (base + 1074).toNat : Nat) : Int) := Int.natCast_pos.2 (Nat.two_pow_pos _); omega) h

theorem read_low {x : Nat} {s : Bool} {m : Nat} {e : Int} (h : double.read x = .number s m e) : e ≤ 0 ∨ (4503599627370496 ≤ m ∧ 0 < e) := by
  have el : double.leastPlace = -1074 := by decide
  have eb : double.binade = 4503599627370496 := rfl
  unfold Format.read at h
  simp only at h
  split at h
  · injection h with _ _ h; rw [el] at h; omega
  · split at h
    · injection h with _ h1 h
      rw [eb] at h1
      generalize x % double.signWeight % 4503599627370496 = r at h1
      omega
    · split at h <;> cases h

/-- A whole number of fewer than 53 bits has its last digit at place 0 or below. -/
theorem place_low {x : Nat} {s : Bool} {m : Nat} {e a : Int} (h : double.read x = .number s m e) (ha : signed s m (e + 1074).toNat = a * scale) (hb : a.natAbs < 4503599627370496) : e ≤ 0 := by
  rcases read_low h with h1 | ⟨h1, h2⟩
  · exact h1
  · exfalso
    have hp := read_place h
    have e1 : m * 2 ^ (e + 1074).toNat = a.natAbs * scale := by
      have h3 := congrArg Int.natAbs ha
      rw [signed_eq, Int.natAbs_mul, Int.natAbs_mul (a := a)] at h3
      have h4 : (if s then (-1 : Int) else 1).natAbs = 1 := by cases s <;> rfl
      rw [h4, Nat.one_mul, Int.natAbs_natCast, Int.natAbs_natCast] at h3
      exact h3
    rw [pow_scale' (by omega), ← Nat.mul_assoc] at e1
    have e2 := Nat.eq_of_mul_eq_mul_right scale_pos e1
    have h5 : 1 ≤ 2 ^ e.toNat := Nat.one_le_two_pow
    have h6 : m * 1 ≤ m * 2 ^ e.toNat := Nat.mul_le_mul_left _ h5
    omega

theorem sum_val {s t : Bool} {m n : Nat} {i j a b : Int} (hi : -1074 ≤ i) (hj : -1074 ≤ j) (hi0 : i ≤ 0) (hj0 : j ≤ 0) (ha : signed s m (i + 1074).toNat = a * scale) (hb : signed t n (j + 1074).toNat = b * scale) (hsum : (a + b).natAbs < 2 ^ 53) :
    ∃ d, Datum.sum (.number s m i) (.number t n j) = some d ∧ val (double.write d) = some ((a + b) * scale) := by
  have ea := signed_val (base := min i j) (by omega) (by omega) (by omega) ha
  have eb := signed_val (base := min i j) (by omega) (by omega) (by omega) hb
  refine ⟨.number (if signed s m (i - min i j).toNat + signed t n (j - min i j).toNat = 0 then s && t else decide (signed s m (i - min i j).toNat + signed t n (j - min i j).toNat < 0)) (signed s m (i - min i j).toNat + signed t n (j - min i j).toNat).natAbs (min i j), rfl, ?_⟩
  rw [ea, eb, ← Int.add_mul]
  have hpos : (0 : Int) < ((2 ^ (-(min i j)).toNat : Nat) : Int) := Int.natCast_pos.2 (Nat.two_pow_pos _)
  refine val_write (n := a + b) (by omega) (by omega) hsum ?_ ?_
  · rw [Int.natAbs_mul, Int.natAbs_natCast]
  · intro h0
    generalize ((2 ^ (-(min i j)).toNat : Nat) : Int) = c at *
    have h1 : ¬ (a + b) * c = 0 := by
      intro h; rcases Int.mul_eq_zero.1 h with h | h <;> omega
    rw [if_neg h1]
    by_cases h2 : a + b < 0
    · have h3 : (a + b) * c < 0 := Int.mul_neg_of_neg_of_pos h2 hpos
      simp [h2, h3]
    · have h3 : ¬ (a + b) * c < 0 := by
        have := Int.mul_nonneg (show 0 ≤ a + b by omega) (show 0 ≤ c by omega)
        omega
      simp [h2, h3]

theorem val_read {x : Nat} {V : Int} (h : val x = some V) : ∃ s m e, double.read x = .number s m e ∧ signed s m (e + 1074).toNat = V := by
  unfold val at h
  cases hr : double.read x with
  | number s m e => rw [hr] at h; exact ⟨s, m, e, rfl, by simpa using h⟩
  | infinity s => rw [hr] at h; cases h
  | nan s f => rw [hr] at h; cases h

theorem add_val {x y : Nat} {a b : Int} (hx : val x = some (a * scale)) (hy : val y = some (b * scale)) (h1 : a.natAbs < 4503599627370496) (h2 : b.natAbs < 4503599627370496) :
    ∃ z, double.add x y = some z ∧ val z = some ((a + b) * scale) := by
  obtain ⟨s, m, i, hr, ha⟩ := val_read hx
  obtain ⟨t, n, j, hq, hb⟩ := val_read hy
  obtain ⟨d, hd, hv⟩ := sum_val (read_place hr) (read_place hq) (place_low hr ha h1) (place_low hq hb h2) ha hb (by omega)
  exact ⟨double.write d, by unfold Format.add; rw [hr, hq, hd]; rfl, hv⟩

theorem sub_val {x y : Nat} {a b : Int} (hx : val x = some (a * scale)) (hy : val y = some (b * scale)) (h1 : a.natAbs < 4503599627370496) (h2 : b.natAbs < 4503599627370496) :
    ∃ z, double.sub x y = some z ∧ val z = some ((a - b) * scale) := by
  obtain ⟨s, m, i, hr, ha⟩ := val_read hx
  obtain ⟨t, n, j, hq, hb⟩ := val_read hy
  have hb' : signed (!t) n (j + 1074).toNat = -b * scale := by
    rw [signed_eq] at hb ⊢
    rw [Int.neg_mul, ← hb]
    cases t <;> simp
  obtain ⟨d, hd, hv⟩ := sum_val (b := -b) (read_place hr) (read_place hq) (place_low hr ha h1) (place_low hq hb h2) ha hb' (by omega)
  exact ⟨double.write d, by unfold Format.sub; rw [hr, hq]; show (Datum.sum _ (Datum.number (!t) n j)).map _ = _; rw [hd]; rfl, by rw [show a - b = a + -b by omega]; exact hv⟩

/-- To int: towards zero. -/
theorem toInt_val {x : Nat} {V : Int} (h : val x = some V) : (double.read x).toInt .zero = some (V.tdiv scale) := by
  obtain ⟨s, m, e, hr, hV⟩ := val_read h
  have hp := read_place hr
  rw [hr]
  unfold Datum.toInt Datum.integral
  simp only [Option.some.injEq]
  rw [signed_eq, Nat.pow_zero, Nat.mul_one, cut_zero, ← hV, signed_eq]
  have hpos := scale_pos
  have hmag : (m <<< e.toNat) / 2 ^ (-e).toNat = (m * 2 ^ (e + 1074).toNat) / scale := by
    rcases Int.le_total 0 e with h0 | h0
    · rw [pow_scale' h0, ← Nat.mul_assoc, Nat.mul_div_cancel _ hpos, Nat.shiftLeft_eq]
      have : (-e).toNat = 0 := by omega
      rw [this, Nat.pow_zero, Nat.div_one]
    · have e0 : e.toNat = 0 := by omega
      rw [e0, Nat.shiftLeft_zero, ← pow_scale hp h0, Nat.mul_comm m, Nat.mul_div_mul_left _ _ (Nat.two_pow_pos _)]
  rw [hmag]
  generalize m * 2 ^ (e + 1074).toNat = A
  generalize scale = B
  cases s
  · simp only [Bool.false_eq_true, if_false, Int.one_mul]
    exact (Int.ofNat_tdiv A B).symm
  · simp only [if_true, Int.neg_mul, Int.one_mul, Int.neg_tdiv]
    rw [← Int.ofNat_tdiv]

theorem val_floatOfInt {n : Int} (hn : n.natAbs < 2 ^ 53) : val (floatOfInt .f64 n) = some (n * scale) := val_nearest hn

theorem compare_scale (n m : Int) : compare (n * (scale : Int)) (m * scale) = compare n m := by
  have hp : (0 : Int) < scale := Int.natCast_pos.2 scale_pos
  generalize (scale : Int) = c at *
  simp only [compare, compareOfLessAndEq]
  have l1 : n < m ↔ n * c < m * c := (Int.mul_lt_mul_right hp).symm
  have l2 : n = m ↔ n * c = m * c := ⟨fun h => by rw [h], fun h => Int.eq_of_mul_eq_mul_right (by omega) h⟩
  by_cases h1 : n < m
  · rw [if_pos h1, if_pos (l1.1 h1)]
  · rw [if_neg h1, if_neg (fun h => h1 (l1.2 h))]
    by_cases h2 : n = m
    · rw [if_pos h2, if_pos (l2.1 h2)]
    · rw [if_neg h2, if_neg (fun h => h2 (l2.2 h))]

theorem compare_lt {n m : Int} (h : n < m) : compare n m = .lt := by simp [compare, compareOfLessAndEq, h]
theorem compare_gt {n m : Int} (h : m < n) : compare n m = .gt := by
  have h1 : ¬ n < m := by omega
  have h2 : ¬ n = m := by omega
  simp [compare, compareOfLessAndEq, h1, h2]
theorem compare_eq (n : Int) : compare n n = .eq := by simp [compare, compareOfLessAndEq]
theorem lt_of_compare {n m : Int} (h : compare n m = .lt) : n < m := by
  rcases Int.lt_trichotomy n m with h1 | h1 | h1
  · exact h1
  · subst h1; rw [compare_eq] at h; cases h
  · rw [compare_gt h1] at h; cases h
theorem gt_of_compare {n m : Int} (h : compare n m = .gt) : m < n := by
  rcases Int.lt_trichotomy n m with h1 | h1 | h1
  · rw [compare_lt h1] at h; cases h
  · subst h1; rw [compare_eq] at h; cases h
  · exact h1
theorem eq_of_compare {n m : Int} (h : compare n m = .eq) : n = m := by
  rcases Int.lt_trichotomy n m with h1 | h1 | h1
  · rw [compare_lt h1] at h; cases h
  · exact h1
  · rw [compare_gt h1] at h; cases h

theorem order_ints {x y : Nat} {n m : Int} (hx : val x = some (n * scale)) (hy : val y = some (m * scale)) : double.order x y = some (compare n m) := by
  rw [order_val hx hy, compare_scale]

theorem order_infinity {x y : Nat} {s : Bool} {t : Bool} {m : Nat} {e : Int} (hx : double.read x = .infinity s) (hy : double.read y = .number t m e) : double.order x y = some (if s then .lt else .gt) := by
  unfold Format.order; rw [hx, hy]; rfl
theorem order_nan {x y : Nat} {s : Bool} {f : Nat} (hx : double.read x = .nan s f) : double.order x y = none := by
  unfold Format.order; rw [hx]; rfl

/-- What lies between two whole numbers is finite. -/
theorem val_between {x : Nat} {a b : Int} {o p : Ordering} (ha : a.natAbs < 2 ^ 53) (hb : b.natAbs < 2 ^ 53) (ho : double.order x (floatOfInt .f64 a) = some o) (hp : double.order x (floatOfInt .f64 b) = some p) (h1 : o ≠ .lt) (h2 : p ≠ .gt) :
    ∃ V, val x = some V ∧ a * scale ≤ V ∧ V ≤ b * scale := by
  have va := val_floatOfInt ha
  have vb := val_floatOfInt hb
  obtain ⟨_, _, _, ra, _⟩ := val_read va
  obtain ⟨_, _, _, rb, _⟩ := val_read vb
  cases hr : double.read x with
  | infinity s =>
    rw [order_infinity hr ra] at ho
    rw [order_infinity hr rb] at hp
    cases s
    · injection hp with hp; exact absurd hp.symm h2
    · injection ho with ho; exact absurd ho.symm h1
  | nan s f => rw [order_nan hr] at ho; cases ho
  | number s m e =>
    have hv : val x = some (signed s m (e + 1074).toNat) := by unfold val; rw [hr]
    refine ⟨_, hv, ?_, ?_⟩
    · rw [order_val hv va] at ho
      injection ho with ho
      apply Int.not_lt.1
      intro h
      rw [compare_lt h] at ho
      exact h1 ho.symm
    · rw [order_val hv vb] at hp
      injection hp with hp
      apply Int.not_lt.1
      intro h
      rw [compare_gt h] at hp
      exact h2 hp.symm

/-- Between two whole numbers the whole part is between them. -/
theorem tdiv_between {V a b : Int} (h1 : a * scale ≤ V) (h2 : V ≤ b * scale) (ha : -9223372036854775808 ≤ a) (hb : b ≤ 9223372036854775807) : -9223372036854775808 ≤ V.tdiv scale ∧ V.tdiv scale ≤ 9223372036854775807 := by
  have hp : (0 : Int) < scale := Int.natCast_pos.2 scale_pos
  generalize (scale : Int) = c at *
  rcases Int.le_total 0 V with h | h
  · rw [Int.tdiv_eq_ediv_of_nonneg h]
    have e1 := Int.ediv_nonneg h (by omega : 0 ≤ c)
    have e2 : V / c ≤ b := Int.ediv_le_of_le_mul hp h2
    omega
  · have e : V.tdiv c = -((-V).tdiv c) := by rw [Int.neg_tdiv, Int.neg_neg]
    rw [e, Int.tdiv_eq_ediv_of_nonneg (by omega)]
    have e1 := Int.ediv_nonneg (a := -V) (b := c) (by omega) (by omega)
    have e2 : -V / c ≤ -a := Int.ediv_le_of_le_mul hp (by rw [Int.neg_mul]; omega)
    omega

theorem tdiv_small {V a b : Int} (h1 : a * scale ≤ V) (h2 : V ≤ b * scale) (ha : -4503599627370496 ≤ a) (hb : b ≤ 4503599627370496) : -4503599627370496 ≤ V.tdiv scale ∧ V.tdiv scale ≤ 4503599627370496 := by
  have hp : (0 : Int) < scale := Int.natCast_pos.2 scale_pos
  generalize (scale : Int) = c at *
  rcases Int.le_total 0 V with h | h
  · rw [Int.tdiv_eq_ediv_of_nonneg h]
    have e1 := Int.ediv_nonneg h (by omega : 0 ≤ c)
    have e2 : V / c ≤ b := Int.ediv_le_of_le_mul hp h2
    omega
  · have e : V.tdiv c = -((-V).tdiv c) := by rw [Int.neg_tdiv, Int.neg_neg]
    rw [e, Int.tdiv_eq_ediv_of_nonneg (by omega)]
    have e1 := Int.ediv_nonneg (a := -V) (b := c) (by omega) (by omega)
    have e2 : -V / c ≤ -a := Int.ediv_le_of_le_mul hp (by rw [Int.neg_mul]; omega)
    omega

theorem floatToInt_val {x : Nat} {V : Int} (h : val x = some V) (h1 : -9223372036854775808 ≤ V.tdiv scale) (h2 : V.tdiv scale ≤ 9223372036854775807) : floatToIntVal .f64 x .i64 = some (V.tdiv scale) := by
  unfold floatToIntVal
  have e : (FloatKind.f64.decode x).toInt .zero = some (V.tdiv scale) := toInt_val h
  rw [e]
  simp only
  have e2 : IntKind.i64.min = -9223372036854775808 := rfl
  have e3 : IntKind.i64.max = 9223372036854775807 := rfl
  rw [e2, e3, if_pos ⟨h1, h2⟩]

theorem tdiv_scale (n : Int) : (n * (scale : Int)).tdiv scale = n := Int.mul_tdiv_cancel n (by have : (0 : Int) < scale := Int.natCast_pos.2 scale_pos; omega)
end Go.Proofs.Ytkjdhjkmnkcgoaa
