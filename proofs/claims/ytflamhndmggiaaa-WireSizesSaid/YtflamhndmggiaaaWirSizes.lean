/-
  The walk of WireSizes: whatever the list of records, the call answers true and changes nothing that was there.
-/
import Derived.Test.YtflamhndmggiaaaW2
namespace Go.Proofs.Ytflamhndmggiaaa
open Go.RowKit

theorem pow128 (i : Nat) : 128 ^ i = 2 ^ (7 * i) := by rw [Nat.pow_mul]
theorem size_two (i : Nat) : (enc (2 ^ i)).length = i / 7 + 1 := by
  have h1 : 2 ^ i < 128 ^ (i / 7 + 1) := by
    rw [pow128]; exact Nat.pow_lt_pow_right (by omega) (by omega)
  have h2 : 128 ^ (i / 7) ≤ 2 ^ i := by
    rw [pow128]; exact Nat.pow_le_pow_right (by omega) (by omega)
  have h3 := enc_len_le (i / 7) (2 ^ i) h1
  rcases Nat.eq_zero_or_pos (i / 7) with h0 | h0
  · have := enc_pos (2 ^ i); omega
  · have := enc_len_gt (i / 7) (2 ^ i) h2 h0; omega
theorem size_two_less (i : Nat) : (enc (2 ^ i - 1)).length = max 1 ((i + 6) / 7) := by
  rcases Nat.eq_zero_or_pos i with rfl | hi
  · rw [Nat.pow_zero, Nat.sub_self, enc_lt (by omega)]; rfl
  · have hm : max 1 ((i + 6) / 7) = (i - 1) / 7 + 1 := by omega
    rw [hm]
    have hp : 2 ^ i = 2 * 2 ^ (i - 1) := by
      conv => lhs; rw [show i = (i - 1) + 1 by omega, Nat.pow_succ]
      omega
    have hp1 : 1 ≤ 2 ^ (i - 1) := Nat.one_le_pow _ _ (by omega)
    have h1 : 2 ^ i - 1 < 128 ^ ((i - 1) / 7 + 1) := by
      have : 2 ^ i ≤ 128 ^ ((i - 1) / 7 + 1) := by
        rw [pow128]; exact Nat.pow_le_pow_right (by omega) (by omega)
      omega
    have h2 : 128 ^ ((i - 1) / 7) ≤ 2 ^ i - 1 := by
      have : 128 ^ ((i - 1) / 7) ≤ 2 ^ (i - 1) := by
        rw [pow128]; exact Nat.pow_le_pow_right (by omega) (by omega)
      omega
    have h3 := enc_len_le ((i - 1) / 7) (2 ^ i - 1) h1
    rcases Nat.eq_zero_or_pos ((i - 1) / 7) with h0 | h0
    · have := enc_pos (2 ^ i - 1); omega
    · have := enc_len_gt ((i - 1) / 7) (2 ^ i - 1) h2 h0; omega
theorem shl_one {i : Nat} (hi : i ≤ 62) : ∃ p : Nat, Hid (p = 2 ^ i) ∧ wrap64 (2 ^ i) = (p : Int) ∧ 1 ≤ p ∧ p ≤ 4611686018427387904 := by
  have h1 : 2 ^ i ≤ 2 ^ 62 := Nat.pow_le_pow_right (by omega) hi
  have h2 : (2 : Nat) ^ 62 = 4611686018427387904 := by decide
  have h3 : 1 ≤ 2 ^ i := Nat.one_le_pow _ _ (by omega)
  refine ⟨2 ^ i, rfl, ?_, h3, by omega⟩
  have e : (2 : Int) ^ i = ((2 ^ i : Nat) : Int) := by simp
  rw [e]
  exact IntWalk.wrap64_in _ (by omega)
set_option maxRecDepth 100000 in
set_option maxHeartbeats 4000000 in
theorem walk_WireSizes {v : Value} {w : World} (ho : ∃ A n c, v = .slice A n c ∧ Asks2 w A n) :
    Calls Try.prog 8 #[v] w fun r w' => r = .returned (.bool true) ∧ Below w.heap.size w w' := by
  obtain ⟨A, n, c, rfl, hn, _⟩ := ho
  go_enter Try.func8, Try.ntmps8
  go_wp2_with fail
  go_loopw [3] (fun i wr => ∃ k : Nat, k ≤ 63 ∧ i = .int .i64 k ∧ Below w.heap.size w wr) (fun i _ => 63 - (intOf i).toNat)
  case atStart => exact ⟨0, Nat.zero_le _, rfl, Below.refl _ _⟩
  case round =>
    obtain ⟨k, hk, rfl, hb⟩ := hrel
    obtain ⟨wo, rfl⟩ : ∃ wo : World, wo = wr := ⟨_, rfl⟩
    by_cases hlt : k < 63
    · obtain ⟨p, HP, hwp, hp1, hp2⟩ := shl_one (i := k) (by omega)
      have HA : Hid ((enc (p - 1)).length = max 1 ((k + 6) / 7)) := by rw [HP.out]; exact size_two_less k
      have HB : Hid ((enc p).length = k / 7 + 1) := by rw [HP.out]; exact size_two k
      have hp3 : ((p : Int) - 1) = ((p - 1 : Nat) : Int) := by omega
      -- from here
      obtain ⟨a, HAA⟩ : ∃ a, Hid ((enc (p - 1)).length = a) := ⟨_, rfl⟩
      obtain ⟨c', HCC⟩ : ∃ c', Hid ((enc p).length = c') := ⟨_, rfl⟩
      have ha : a = max 1 ((k + 6) / 7) := HAA.out.symm.trans HA.out
      have hc' : c' = k / 7 + 1 := HCC.out.symm.trans HB.out
      have hd2 : ((c' : Int) != (k : Int) / 7 + 1) = false := by rw [bne_eq_false_iff_eq]; omega
      have ha9 : a ≤ 9 := by omega
      have hc9 : c' ≤ 9 := by omega
      have HAH := hide ha
      have HCH := hide hc'
      have HG : Hid (getN (enc p) = some (p, c')) := by
        have h := getN_of p (by omega) []
        rw [List.append_nil, HCC.out] at h
        exact h
      clear ha
      clear hc'
      by_cases hmx : 1 < (k + 6) / 7
      · have q1 : (1 : Int) < ((k : Int) + 6) / 7 := by omega
        have q2 : ((a : Int) != ((k : Int) + 6) / 7) = false := by rw [bne_eq_false_iff_eq]; have := HAH.out; omega
        clear hmx
        go_wp2_with fail
        refine (wire_Num_yes (p - 1) _ (by omega)).mono ?_
        rintro e w_1 ⟨v1, rfl, o1, hb_1'⟩
        have hb_1 := below_then hb hb_1'
        have za__1 := hb_1'.size
        have ya_ := hb.size
        rw [HAA.out] at o1
        obtain ⟨A5, c5, rfl⟩ := own_slice o1
        clear hb_1' hb
        clear o1 za__1
        go_wp2_with fail
        refine (wire_Num_yes p _ (by omega)).mono ?_
        rintro e w_2 ⟨v2, rfl, o2, hb_2'⟩
        have hb_2 := below_then hb_1 hb_2'
        have zb__2 := hb_2'.size
        have yb_ := hb_1.size
        rw [HCC.out] at o2
        obtain ⟨A6, c6, rfl⟩ := own_slice o2
        clear hb_2' hb_1
        go_wp2_with fail
        refine (wire_GetNum_yes _ (Sl.of_own o2) (by omega) HG.out).mono ?_
        rintro e w' ⟨rfl, rfl⟩
        clear o2 zb__2
        go_wp2_with fail
        refine (law2_num _ _).mono ?_
        rintro e w' ⟨rfl, rfl⟩
        go_wp2_with fail
        refine (law2_num _ _).mono ?_
        rintro e w' ⟨rfl, rfl⟩
        go_wp2_with fail
        refine (law2_num _ _).mono ?_
        rintro e w' ⟨rfl, rfl⟩
        go_wp2_with fail
        go_roundw
        case rel => exact ⟨k + 1, by omega, by go_num, hb_2⟩
        case measure => simp [intOf]; omega
      · have q1 : ((k : Int) + 6) / 7 ≤ 1 := by omega
        have q2 : ((a : Int) != 1) = false := by rw [bne_eq_false_iff_eq]; have := HAH.out; omega
        clear hmx
        go_wp2_with fail
        refine (wire_Num_yes (p - 1) _ (by omega)).mono ?_
        rintro e w_1 ⟨v1, rfl, o1, hb_1'⟩
        have hb_1 := below_then hb hb_1'
        have za__1 := hb_1'.size
        have ya_ := hb.size
        rw [HAA.out] at o1
        obtain ⟨A5, c5, rfl⟩ := own_slice o1
        clear hb_1' hb
        clear o1 za__1
        go_wp2_with fail
        refine (wire_Num_yes p _ (by omega)).mono ?_
        rintro e w_2 ⟨v2, rfl, o2, hb_2'⟩
        have hb_2 := below_then hb_1 hb_2'
        have zb__2 := hb_2'.size
        have yb_ := hb_1.size
        rw [HCC.out] at o2
        obtain ⟨A6, c6, rfl⟩ := own_slice o2
        clear hb_2' hb_1
        go_wp2_with fail
        refine (wire_GetNum_yes _ (Sl.of_own o2) (by omega) HG.out).mono ?_
        rintro e w' ⟨rfl, rfl⟩
        clear o2 zb__2
        go_wp2_with fail
        refine (law2_num _ _).mono ?_
        rintro e w' ⟨rfl, rfl⟩
        go_wp2_with fail
        refine (law2_num _ _).mono ?_
        rintro e w' ⟨rfl, rfl⟩
        go_wp2_with fail
        refine (law2_num _ _).mono ?_
        rintro e w' ⟨rfl, rfl⟩
        go_wp2_with fail
        go_roundw
        case rel => exact ⟨k + 1, by omega, by go_num, hb_2⟩
        case measure => simp [intOf]; omega
    · obtain rfl : k = 63 := by omega
      have e0 : putB [] = [0] := by simp only [putB, txt, List.flatMap_nil, List.append_nil, List.length_nil]; rw [enc_lt (by omega)]; rfl
      have e1 : numsB [] = [0] := by simp only [numsB, nums, List.flatMap_nil, List.append_nil, List.length_nil]; rw [enc_lt (by omega)]; rfl
      have HE0 := hide e0
      have HE1 := hide e1
      have HG2 : Hid (getN [255, 255, 255, 255, 255, 255, 255, 255, 255, 1] = none) := by unfold Hid getN; decide
      have HG3 : Hid (getN [128, 0] = none) := by unfold Hid getN; decide
      have HG4 : Hid (getN [] = none) := by unfold Hid getN; decide
      clear e0 e1
      go_wp2_with fail
      refine (wire_Put _ (ls := []) Sl.nil_ (by omega) (by rw [HE0.out]; simp)).mono ?_
      rintro e w_1 ⟨v1, rfl, o1, hb_1'⟩
      have hb_1 := below_then hb hb_1'
      have za__1 := hb_1'.size
      have ya_ := hb.size
      rw [HE0.out] at o1
      obtain ⟨A5, c5, rfl⟩ := own_slice o1
      clear hb_1' hb
      go_wp2_with fail
      refine (wire_Nums_yes _ (xs := []) Sl.nil_ (by omega) (by simp) (by rw [HE1.out]; simp)).mono ?_
      rintro e w_2 ⟨v2, rfl, o2, hb_2'⟩
      have hb_2 := below_then hb_1 hb_2'
      have zb__2 := hb_2'.size
      have yb_ := hb_1.size
      have a__2 := own_later o1 hb_2'
      have za__2 := Nat.le_trans za__1 hb_2'.size
      rw [HE1.out] at o2
      obtain ⟨A6, c6, rfl⟩ := own_slice o2
      clear hb_2' o1 za__1 hb_1
      go_wp2_with fail
      have hb_3 : Below w.heap.size w (w_2.alloc (.cells #[.int .u8 255, .int .u8 255, .int .u8 255, .int .u8 255, .int .u8 255, .int .u8 255, .int .u8 255, .int .u8 255, .int .u8 255, .int .u8 1] 5)) := hb_2.alloc hb_2.size _
      have a__3 := a__2.alloc (.cells #[.int .u8 255, .int .u8 255, .int .u8 255, .int .u8 255, .int .u8 255, .int .u8 255, .int .u8 255, .int .u8 255, .int .u8 255, .int .u8 1] 5)
      have za__3 : _ ≤ (w_2.alloc (.cells #[.int .u8 255, .int .u8 255, .int .u8 255, .int .u8 255, .int .u8 255, .int .u8 255, .int .u8 255, .int .u8 255, .int .u8 255, .int .u8 1] 5)).heap.size := Nat.le_trans za__2 (by simp)
      have b__3 := o2.alloc (.cells #[.int .u8 255, .int .u8 255, .int .u8 255, .int .u8 255, .int .u8 255, .int .u8 255, .int .u8 255, .int .u8 255, .int .u8 255, .int .u8 1] 5)
      have zb__3 : _ ≤ (w_2.alloc (.cells #[.int .u8 255, .int .u8 255, .int .u8 255, .int .u8 255, .int .u8 255, .int .u8 255, .int .u8 255, .int .u8 255, .int .u8 255, .int .u8 1] 5)).heap.size := Nat.le_trans zb__2 (by simp)
      have x_3 : Sl (w_2.alloc (.cells #[.int .u8 255, .int .u8 255, .int .u8 255, .int .u8 255, .int .u8 255, .int .u8 255, .int .u8 255, .int .u8 255, .int .u8 255, .int .u8 1] 5)) 1 (some ⟨w_2.heap.size, 0, none⟩) 10 (bytes8 [255, 255, 255, 255, 255, 255, 255, 255, 255, 1]) := Sl.fresh w_2 [.int .u8 255, .int .u8 255, .int .u8 255, .int .u8 255, .int .u8 255, .int .u8 255, .int .u8 255, .int .u8 255, .int .u8 255, .int .u8 1] _
      clear hb_2 a__2 za__2 o2 zb__2
      refine (same_below (wire_GetNum_no _ x_3 (by omega) HG2.out)).mono ?_
      rintro e w_4 ⟨rfl, hb_4'⟩
      have hb_4 := below_then hb_3 hb_4'
      have x_4 := x_3.below hb_4'
      have a__4 := own_later a__3 hb_4'
      have za__4 := Nat.le_trans za__3 hb_4'.size
      have b__4 := own_later b__3 hb_4'
      have zb__4 := Nat.le_trans zb__3 hb_4'.size
      clear hb_4' x_3 a__3 za__3 b__3 zb__3 hb_3
      clear x_4
      go_wp2_with fail
      have hb_5 : Below w.heap.size w (w_4.alloc (.cells #[.int .u8 128, .int .u8 0] 5)) := hb_4.alloc hb_4.size _
      have a__5 := a__4.alloc (.cells #[.int .u8 128, .int .u8 0] 5)
      have za__5 : _ ≤ (w_4.alloc (.cells #[.int .u8 128, .int .u8 0] 5)).heap.size := Nat.le_trans za__4 (by simp)
      have b__5 := b__4.alloc (.cells #[.int .u8 128, .int .u8 0] 5)
      have zb__5 : _ ≤ (w_4.alloc (.cells #[.int .u8 128, .int .u8 0] 5)).heap.size := Nat.le_trans zb__4 (by simp)
      have x_5 : Sl (w_4.alloc (.cells #[.int .u8 128, .int .u8 0] 5)) 1 (some ⟨w_4.heap.size, 0, none⟩) 2 (bytes8 [128, 0]) := Sl.fresh w_4 [.int .u8 128, .int .u8 0] _
      clear hb_4 a__4 za__4 b__4 zb__4
      refine (same_below (wire_GetNum_no _ x_5 (by omega) HG3.out)).mono ?_
      rintro e w_6 ⟨rfl, hb_6'⟩
      have hb_6 := below_then hb_5 hb_6'
      have x_6 := x_5.below hb_6'
      have a__6 := own_later a__5 hb_6'
      have za__6 := Nat.le_trans za__5 hb_6'.size
      have b__6 := own_later b__5 hb_6'
      have zb__6 := Nat.le_trans zb__5 hb_6'.size
      clear hb_6' x_5 a__5 za__5 b__5 zb__5 hb_5
      clear x_6
      go_wp2_with fail
      refine (wire_GetNum_no _ (A := none) (bs := []) Sl.nil_ (by omega) HG4.out).mono ?_
      rintro e w' ⟨rfl, rfl⟩
      go_wp2_with fail
      refine (law2_num _ _).mono ?_
      rintro e w' ⟨rfl, rfl⟩
      go_wp2_with fail
      have hb_7 : Below w.heap.size w (w_6.alloc (.cells #[.int .u8 0] 5)) := hb_6.alloc hb_6.size _
      have a__7 := a__6.alloc (.cells #[.int .u8 0] 5)
      have za__7 : _ ≤ (w_6.alloc (.cells #[.int .u8 0] 5)).heap.size := Nat.le_trans za__6 (by simp)
      have b__7 := b__6.alloc (.cells #[.int .u8 0] 5)
      have zb__7 : _ ≤ (w_6.alloc (.cells #[.int .u8 0] 5)).heap.size := Nat.le_trans zb__6 (by simp)
      have x_7 : Sl (w_6.alloc (.cells #[.int .u8 0] 5)) 1 (some ⟨w_6.heap.size, 0, none⟩) 1 (bytes8 [0]) := Sl.fresh w_6 [.int .u8 0] _
      clear hb_6 a__6 za__6 b__6 zb__6
      refine (eqBytes_b _ (Sl.of_own a__7) (by simp) x_7 (by omega) (beq_self [0])).mono ?_
      rintro e w_8 ⟨rfl, hb_8'⟩
      have hb_8 := below_then hb_7 hb_8'
      have x_8 := x_7.below hb_8'
      have a__8 := own_later a__7 hb_8'
      have za__8 := Nat.le_trans za__7 hb_8'.size
      have b__8 := own_later b__7 hb_8'
      have zb__8 := Nat.le_trans zb__7 hb_8'.size
      clear hb_8' x_7 a__7 za__7 b__7 zb__7 hb_7
      clear x_8 a__8 za__8
      go_wp2_with fail
      refine (law2_num _ _).mono ?_
      rintro e w' ⟨rfl, rfl⟩
      go_wp2_with fail
      have hb_9 : Below w.heap.size w (w_8.alloc (.cells #[.int .u8 0] 5)) := hb_8.alloc hb_8.size _
      have b__9 := b__8.alloc (.cells #[.int .u8 0] 5)
      have zb__9 : _ ≤ (w_8.alloc (.cells #[.int .u8 0] 5)).heap.size := Nat.le_trans zb__8 (by simp)
      have x_9 : Sl (w_8.alloc (.cells #[.int .u8 0] 5)) 1 (some ⟨w_8.heap.size, 0, none⟩) 1 (bytes8 [0]) := Sl.fresh w_8 [.int .u8 0] _
      clear hb_8 b__8 zb__8
      refine (eqBytes_b _ (Sl.of_own b__9) (by simp) x_9 (by omega) (beq_self [0])).mono ?_
      rintro e w_10 ⟨rfl, hb_10'⟩
      have hb_10 := below_then hb_9 hb_10'
      have x_10 := x_9.below hb_10'
      have b__10 := own_later b__9 hb_10'
      have zb__10 := Nat.le_trans zb__9 hb_10'.size
      clear hb_10' x_9 b__9 zb__9 hb_9
      clear x_10 b__10 zb__10
      go_wp2_with fail
      refine (law2_num _ _).mono ?_
      rintro e w' ⟨rfl, rfl⟩
      go_wp2_with fail
      refine (law2_num _ _).mono ?_
      rintro e w' ⟨rfl, rfl⟩
      go_wp2_with fail
      refine (law2_num _ _).mono ?_
      rintro e w' ⟨rfl, rfl⟩
      go_wp2_with fail
      refine (law2_wakes _).mono ?_
      rintro e w_11 ⟨rfl, hb_11'⟩
      have hb_11 := below_then hb_10 hb_11'
      clear hb_11' hb_10
      go_wp2_with fail
      go_ret
      exact ⟨rfl, hb_11⟩
end Go.Proofs.Ytflamhndmggiaaa
