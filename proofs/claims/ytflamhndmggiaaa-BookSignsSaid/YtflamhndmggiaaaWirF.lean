
/-
  Contracts of laying numbers as bytes: wire's own.
-/
import Derived.Test.YtflamhndmggiaaaWirD
namespace Go.Proofs.Ytflamhndmggiaaa
open Go.RowKit

/-- Numbers' bytes, behind the count. -/
def nums (xs : List Int) : List UInt8 := xs.flatMap fun x => enc x.toNat
/-- Numbers' bytes. -/
def numsB (xs : List Int) : List UInt8 := enc xs.length ++ nums xs
theorem nums_append (a b : List Int) : nums (a ++ b) = nums a ++ nums b := by simp [nums]
theorem nums_take {xs : List Int} {k : Nat} {u : Int} (h : xs[k]? = some u) : nums (xs.take (k + 1)) = nums (xs.take k) ++ enc u.toNat := by
  rw [take_at h, nums_append]; simp [nums]
theorem nums_take_le (xs : List Int) (k : Nat) : (nums (xs.take k)).length ≤ (nums xs).length := by
  have h : nums xs = nums (xs.take k) ++ nums (xs.drop k) := by rw [← nums_append, List.take_append_drop]
  rw [h, List.length_append]; omega

set_option maxRecDepth 100000 in
set_option maxHeartbeats 1000000 in
theorem wire_Nums_yes {A : Option Addr} {n c : Nat} {xs : List Int} (w : World) (hs : Sl w 1 A n (ints xs)) (hn : n ≤ 1099511627776) (h0 : ∀ x ∈ xs, 0 ≤ x ∧ x ≤ 9223372036854775807) (hb : (numsB xs).length ≤ 1048576) :
    Calls Try.prog 49 #[.slice A n c] w fun e w' => ∃ v', e = .returned (.tuple #[v', .int .i64 0]) ∧ w'.ownsRow w.heap.size 5 1 v' (numsB xs).length (bytes8 (numsB xs)) ∧ Below w.heap.size w w' := by
  have HL := hide hs.ilen
  have HB := hide hb
  have H0 := hide h0
  clear hb h0
  go_enter Try.func49, Try.ntmps49
  go_wp2_with (go_at_call 72; refine (wire_num w.heap.size _ n [] _ (World.ownsRow_nil _ _ _ _) (Nat.le_refl _) (by omega) (by simp)).mono ?_; rintro e w1 ⟨v1, rfl, hown1, hb1⟩)
  have hz1' := hb1.size
  go_loopw [4, 12] (fun b i wr => ∃ (k : Nat) (ys : List UInt8), k ≤ n ∧ i = .int .i64 k ∧ Hid (enc n ++ nums (xs.take k) = ys) ∧ ys.length ≤ 1048576 ∧ wr.ownsRow w.heap.size 5 1 b ys.length (bytes8 ys) ∧ Below w.heap.size w wr) (fun _ i _ => n - (intOf i).toNat)
  case atStart => exact ⟨0, enc n, Nat.zero_le _, rfl, by simp [Hid, nums], by have := enc_len_63 (n := n) (by omega); omega, hown1, hb1⟩
  case round =>
    obtain ⟨k, ys, hk, rfl, HY, hyl, hown, hb⟩ := hrel
    have hsz := hb.size
    have hTot : Hid ((enc n ++ nums xs).length ≤ 1048576) := by have := HB.out; rw [numsB, HL.out] at this; exact this
    clear hown1 hb1 hz1'
    obtain ⟨wo, rfl⟩ : ∃ wo : World, wo = wr := ⟨_, rfl⟩
    obtain ⟨A2, c2, rfl⟩ := own_slice hown
    by_cases hlt : k < n
    · obtain ⟨b, off, u, rfl, HU, hc, _⟩ := hs.int hlt
      have hc' := cell_later hb hc
      obtain ⟨hu0, hu1⟩ := H0.out u (List.mem_of_getElem? HU.out)
      obtain ⟨m, rfl⟩ : ∃ m : Nat, u = (m : Int) := ⟨u.toNat, by omega⟩
      have hm : m ≤ 9223372036854775807 := by omega
      clear hc hs hu0 hu1
      have HQ : Hid (enc n ++ nums (xs.take (k + 1)) = ys ++ enc m) := by
        rw [Hid, nums_take HU.out, ← HY.out]; simp
      have hq : (ys ++ enc m).length ≤ 1048576 := by
        have h2 := congrArg List.length HQ.out
        have h3 := nums_take_le xs (k + 1)
        have h4 := hTot.out
        rw [List.length_append] at h2 h4
        omega
      obtain ⟨yl, HYL⟩ : ∃ yl, Hid (ys.length = yl) := ⟨_, rfl⟩
      go_wp2_with (first
        | (go_at_call 72; refine (wire_num w.heap.size _ m ys _ hown (by omega) (by omega) (by omega)).mono ?_; rintro e w2 ⟨v2, rfl, hown2, hb2⟩; have hb3 := hb.trans hb2))
      go_roundw
      case rel => exact ⟨k + 1, _, by omega, by go_num, HQ, hq, hown2, hb3⟩
      case measure => simp [intOf]; omega
    · obtain rfl : k = n := by omega
      have HF : Hid (ys = numsB xs) := by
        have h := HY.out
        rw [List.take_of_length_le (by rw [HL.out]; exact Nat.le_refl _)] at h
        rw [Hid, numsB, HL.out, h]
      go_wp2_with fail
      go_ret2
      refine ⟨_, rfl, ?_, hb⟩
      rw [← HF.out]
      exact hown

set_option maxRecDepth 100000 in
set_option maxHeartbeats 1000000 in
theorem wire_Nums_no {A : Option Addr} {n c : Nat} {xs : List Int} (w : World) (hs : Sl w 1 A n (ints xs)) (hn : n ≤ 1099511627776) (h0 : ∃ x ∈ xs, x < 0) (h1 : ∀ x ∈ xs, x ≤ 9223372036854775807) :
    Calls Try.prog 49 #[.slice A n c] w fun e w' => e = .returned (.tuple #[.slice none 0 0, .int .i64 1]) ∧ Below w.heap.size w w' := by
  have HL := hide hs.ilen
  have H0 := hide h0
  have H1 := hide h1
  clear h0 h1
  go_enter Try.func49, Try.ntmps49
  go_wp2_with (go_at_call 72; refine (wire_num w.heap.size _ n [] _ (World.ownsRow_nil _ _ _ _) (Nat.le_refl _) (by omega) (by simp)).mono ?_; rintro e w1 ⟨v1, rfl, hown1, hb1⟩)
  have hz1' := hb1.size
  go_loopw [4, 12] (fun b i wr => ∃ (k : Nat) (ys : List UInt8), k ≤ n ∧ i = .int .i64 k ∧ Hid (∀ x ∈ xs.take k, 0 ≤ x) ∧ ys.length ≤ 1048600 ∧ wr.ownsRow w.heap.size 5 1 b ys.length (bytes8 ys) ∧ Below w.heap.size w wr) (fun _ i _ => n - (intOf i).toNat)
  case atStart => exact ⟨0, enc n, Nat.zero_le _, rfl, by simp [Hid], by have := enc_len_63 (n := n) (by omega); omega, hown1, hb1⟩
  case round =>
    obtain ⟨k, ys, hk, rfl, HY, hyl, hown, hb⟩ := hrel
    have hsz := hb.size
    clear hown1 hb1 hz1'
    obtain ⟨wo, rfl⟩ : ∃ wo : World, wo = wr := ⟨_, rfl⟩
    obtain ⟨A2, c2, rfl⟩ := own_slice hown
    have hlt : k < n := by
      apply Nat.lt_of_not_le
      intro h
      obtain ⟨x, hx, hn0⟩ := H0.out
      have := HY.out x (by rw [List.take_of_length_le (by rw [HL.out]; exact h)]; exact hx)
      omega
    obtain ⟨b, off, u, rfl, HU, hc, _⟩ := hs.int hlt
    have hc' := cell_later hb hc
    have hu1 := H1.out u (List.mem_of_getElem? HU.out)
    clear hc hs
    by_cases hu0 : u < 0
    · go_wp2_with fail
      try rw [Exit.noGoto_ret]
      go_ret2
      exact ⟨rfl, hb⟩
    · obtain ⟨m, rfl⟩ : ∃ m : Nat, u = (m : Int) := ⟨u.toNat, by omega⟩
      have hm : m ≤ 9223372036854775807 := by omega
      have HQ : Hid (∀ x ∈ xs.take (k + 1), 0 ≤ x) := by
        intro x hx
        rw [take_at HU.out, List.mem_append] at hx
        rcases hx with hx | hx
        · exact HY.out x hx
        · simp at hx; omega
      clear hu0 hu1
      by_cases hy : ys.length ≤ 1048576
      · have hd : decide ((ys.length : Int) ≤ 1048576) = true := by rw [decide_eq_true_eq]; omega
        have hel := enc_len_63 (n := m) (by omega)
        have hq : (ys ++ enc m).length ≤ 1048600 := by rw [List.length_append]; omega
        go_wp2_with (first
          | (go_at_call 72; refine (wire_num w.heap.size _ m ys _ hown (by omega) (by omega) (by omega)).mono ?_; rintro e w2 ⟨v2, rfl, hown2, hb2⟩; have hb3 := hb.trans hb2))
        go_roundw
        case rel => exact ⟨k + 1, _, by omega, by go_num, HQ, hq, hown2, hb3⟩
        case measure => simp [intOf]; omega
      · have hd : decide ((ys.length : Int) ≤ 1048576) = false := by rw [decide_eq_false_iff_not]; omega
        clear hy
        go_wp2_with fail
        go_roundw
        case rel => exact ⟨k + 1, ys, by omega, by go_num, HQ, hyl, hown, hb⟩
        case measure => simp [intOf]; omega
end Go.Proofs.Ytflamhndmggiaaa
