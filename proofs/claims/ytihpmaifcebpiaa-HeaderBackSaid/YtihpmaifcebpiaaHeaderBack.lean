/-
  The walk of HeaderBack: whatever the list of records, the call answers true and changes nothing that was there.
-/
import Derived.Test.YtihpmaifcebpiaaHdrL
import Derived.Test.YtihpmaifcebpiaaHdrQ
import Derived.Test.YtihpmaifcebpiaaHdrS
import Derived.Test.YtihpmaifcebpiaaSpo
import Derived.Test.YtihpmaifcebpiaaQui
namespace Go.Proofs.Ytihpmaifcebpiaa
open Go.RowKit

set_option maxRecDepth 100000 in
set_option maxHeartbeats 4000000 in
theorem walk_HeaderBack {v : Value} {w : World} (ho : ∃ A n c, v = .slice A n c ∧ Asks6 w A n) :
    Calls Try.prog 9 #[v] w fun r w' => r = .returned (.bool true) ∧ Below w.heap.size w w' := by
  obtain ⟨A, n, c, rfl, hn, h⟩ := ho
  obtain ⟨i0, hi, hz0, hz1, hz2⟩ := info_parts Try.infoByte
  go_enter Try.func9, Try.ntmps9
  go_wp2_with fail
  go_loopw [3] (fun i wr => ∃ k : Nat, k ≤ n ∧ i = .int .i64 k ∧ Below w.heap.size w wr) (fun i _ => n - (intOf i).toNat)
  case atStart => exact ⟨0, Nat.zero_le _, rfl, Below.refl _ _⟩
  case round =>
    obtain ⟨k, hk, rfl, hb_0⟩ := hrel
    obtain ⟨w_0, rfl⟩ : ∃ wo : World, wo = wr := ⟨_, rfl⟩
    by_cases hlt : k < n
    · obtain ⟨b, off, rfl, hc⟩ := h (by omega)
      obtain ⟨⟨⟨a, r, bs, ps⟩, d, ss⟩, A1, n1, c1, A2, n2, c2, A3, n3, c3, N, A4, n4, c4, xs, C0, C1, C2, C3, C4, C5, C6, C7, ⟨S1, hn1⟩, ⟨S2, hn2⟩, ⟨S3, hn3⟩, ⟨S4, hn4, hcc4, hcm4⟩⟩ := hc k hlt
      simp only at C0 C1 C4 S1 S2 S3
      have HC0 := hide C0
      have HC1 := hide C1
      have HC2 := hide C2
      have HC3 := hide C3
      have HC4 := hide C4
      have HC5 := hide C5
      have HC6 := hide C6
      have HC7 := hide C7
      have HS1 := hide S1
      have HS2 := hide S2
      have HS3 := hide S3
      have HS4 := hide S4
      have HL1 := hide S1.ilen
      have HL2 := hide S2.ilen
      have HL3 := hide S3.ilen
      have HBL := hide S4.blen
      have HH := hide hc
      clear C0 C1 C2 C3 C4 C5 C6 C7 S1 S2 S3 S4 h hc
      by_cases hm : k < 8
      · skip
        have cHC0_0 := cell_later hb_0 HC0.out
        have cHC1_0 := cell_later hb_0 HC1.out
        have cHC2_0 := cell_later hb_0 HC2.out
        have cHC3_0 := cell_later hb_0 HC3.out
        have cHC4_0 := cell_later hb_0 HC4.out
        have cHC5_0 := cell_later hb_0 HC5.out
        have cHC6_0 := cell_later hb_0 HC6.out
        have cHC7_0 := cell_later hb_0 HC7.out
        cases hv : heavy6 n1 n2 n3 n4 with
        | true =>
          have HV := hide hv
          clear hv
          go_wp2_with fail
          refine (law6_heavy (A1 := A1) (A2 := A2) (A3 := A3) (A4 := A4) (c1 := c1) (c2 := c2) (c3 := c3) (n4 := n4) (c4 := c4) a r d N _ hn1 hn2 hn3 (by omega)).mono ?_
          rintro e w_1 ⟨rfl, hb_1'⟩
          have hb_1 := below_then hb_0 hb_1'
          have cHC0_1 := cell_later hb_1 HC0.out
          have cHC1_1 := cell_later hb_1 HC1.out
          have cHC2_1 := cell_later hb_1 HC2.out
          have cHC3_1 := cell_later hb_1 HC3.out
          have cHC4_1 := cell_later hb_1 HC4.out
          have cHC5_1 := cell_later hb_1 HC5.out
          have cHC6_1 := cell_later hb_1 HC6.out
          have cHC7_1 := cell_later hb_1 HC7.out
          clear hb_1' cHC0_0 cHC1_0 cHC2_0 cHC3_0 cHC4_0 cHC5_0 cHC6_0 cHC7_0 hb_0
          rw [HV.out]
          go_wp2_with fail
          go_ret
          exact ⟨rfl, hb_1⟩
        | false =>
          obtain ⟨hw500, hn4'⟩ := heavy6_false hv
          have HV := hide hv
          clear hv
          go_wp2_with fail
          refine (law6_heavy (A1 := A1) (A2 := A2) (A3 := A3) (A4 := A4) (c1 := c1) (c2 := c2) (c3 := c3) (n4 := n4) (c4 := c4) a r d N _ hn1 hn2 hn3 (by omega)).mono ?_
          rintro e w_1 ⟨rfl, hb_1'⟩
          have hb_1 := below_then hb_0 hb_1'
          have cHC0_1 := cell_later hb_1 HC0.out
          have cHC1_1 := cell_later hb_1 HC1.out
          have cHC2_1 := cell_later hb_1 HC2.out
          have cHC3_1 := cell_later hb_1 HC3.out
          have cHC4_1 := cell_later hb_1 HC4.out
          have cHC5_1 := cell_later hb_1 HC5.out
          have cHC6_1 := cell_later hb_1 HC6.out
          have cHC7_1 := cell_later hb_1 HC7.out
          clear hb_1' cHC0_0 cHC1_0 cHC2_0 cHC3_0 cHC4_0 cHC5_0 cHC6_0 cHC7_0 hb_0
          rw [HV.out]
          cases hr : formH 16 ⟨a, r, bs, ps⟩ with
          | false =>
            have HR := hide hr
            clear hr
            go_wp2_with fail
            refine (header_Bytes_no (c1 := c1) (c2 := c2) ⟨a, r, bs, ps⟩ _ (HS1.out.below hb_1) (HS2.out.below hb_1) (by omega) (by omega) HR).mono ?_
            rintro e w_2 ⟨rfl, hb_2'⟩
            have hb_2 := below_then hb_1 hb_2'
            have cHC0_2 := cell_later hb_2 HC0.out
            have cHC1_2 := cell_later hb_2 HC1.out
            have cHC2_2 := cell_later hb_2 HC2.out
            have cHC3_2 := cell_later hb_2 HC3.out
            have cHC4_2 := cell_later hb_2 HC4.out
            have cHC5_2 := cell_later hb_2 HC5.out
            have cHC6_2 := cell_later hb_2 HC6.out
            have cHC7_2 := cell_later hb_2 HC7.out
            clear hb_2' cHC0_1 cHC1_1 cHC2_1 cHC3_1 cHC4_1 cHC5_1 cHC6_1 cHC7_1 hb_1
            go_wp2_with fail
            refine (law6_num _ _).mono ?_
            rintro e w' ⟨rfl, rfl⟩
            go_wp2_with fail
            go_roundw
            case rel => exact ⟨k + 1, by omega, by go_num, hb_2⟩
            case measure => simp [intOf]; omega
          | true =>
            have HR := hide hr
            obtain ⟨L, HLL⟩ : ∃ L, Hid ((headerB ⟨a, r, bs, ps⟩).length = L) := ⟨_, rfl⟩
            have hL2 : L ≤ 300 := by rw [← HLL.out]; exact (header_size hr).2.1
            have HP := hide (parseH_there hr)
            have HP0 := hide (parseH_behind hr)
            have HPk : Hid (∀ j, j < L → parseH ((headerB ⟨a, r, bs, ps⟩).take j) = none) := fun j hj => parseH_begin hr (by rw [HLL.out]; exact hj)
            clear hr
            go_wp2_with fail
            refine (header_Bytes_yes (c1 := c1) (c2 := c2) ⟨a, r, bs, ps⟩ _ (HS1.out.below hb_1) (HS2.out.below hb_1) HR).mono ?_
            rintro e w_2 ⟨v1, rfl, o1, hb_2'⟩
            have hb_2 := below_then hb_1 hb_2'
            have zbx_2 := hb_2'.size
            have ybx := hb_1.size
            have cHC0_2 := cell_later hb_2 HC0.out
            have cHC1_2 := cell_later hb_2 HC1.out
            have cHC2_2 := cell_later hb_2 HC2.out
            have cHC3_2 := cell_later hb_2 HC3.out
            have cHC4_2 := cell_later hb_2 HC4.out
            have cHC5_2 := cell_later hb_2 HC5.out
            have cHC6_2 := cell_later hb_2 HC6.out
            have cHC7_2 := cell_later hb_2 HC7.out
            rw [HLL.out] at o1
            obtain ⟨A5, c5, rfl, hc5, hc5m⟩ := own_slice_cap o1
            unfold maxLen at hc5m
            clear hb_2' cHC0_1 cHC1_1 cHC2_1 cHC3_1 cHC4_1 cHC5_1 cHC6_1 cHC7_1 hb_1
            go_wp2_with fail
            refine (law6_num _ _).mono ?_
            rintro e w' ⟨rfl, rfl⟩
            go_wp2_with fail
            refine (header_Parse _ (Sl.of_own o1) hc5 hc5m HP).mono ?_
            rintro e w_3 ⟨v2, v3, rfl, o2, o3, _, hb_3'⟩
            simp only at o2 o3
            rw [HL1.out] at o2
            rw [HL2.out] at o3
            obtain ⟨A6, c6, rfl⟩ := own_slice o2
            obtain ⟨A7, c7, rfl⟩ := own_slice o3
            have hb_3 := below_then hb_2 hb_3'
            have zhx_3 := hb_3'.size
            have yhx := hb_2.size
            have bx_3 := own_later o1 hb_3'
            have zbx_3 := Nat.le_trans zbx_2 hb_3'.size
            have cHC0_3 := cell_later hb_3 HC0.out
            have cHC1_3 := cell_later hb_3 HC1.out
            have cHC2_3 := cell_later hb_3 HC2.out
            have cHC3_3 := cell_later hb_3 HC3.out
            have cHC4_3 := cell_later hb_3 HC4.out
            have cHC5_3 := cell_later hb_3 HC5.out
            have cHC6_3 := cell_later hb_3 HC6.out
            have cHC7_3 := cell_later hb_3 HC7.out
            clear hb_3' o1 zbx_2 cHC0_2 cHC1_2 cHC2_2 cHC3_2 cHC4_2 cHC5_2 cHC6_2 cHC7_2 hb_2
            have zhy_3 := zhx_3
            have yhy := yhx
            have hb_4 : Below w.heap.size w (w_3.alloc (.cells #[.int .i64 a, .int .i64 r, .slice A6 n1 c6, .slice A7 n2 c7] 49)) := hb_3.alloc hb_3.size _
            have bx_4 := bx_3.alloc (.cells #[.int .i64 a, .int .i64 r, .slice A6 n1 c6, .slice A7 n2 c7] 49)
            have zbx_4 : _ ≤ (w_3.alloc (.cells #[.int .i64 a, .int .i64 r, .slice A6 n1 c6, .slice A7 n2 c7] 49)).heap.size := Nat.le_trans zbx_3 (by simp)
            have hx_4 := o2.alloc (.cells #[.int .i64 a, .int .i64 r, .slice A6 n1 c6, .slice A7 n2 c7] 49)
            have zhx_4 : _ ≤ (w_3.alloc (.cells #[.int .i64 a, .int .i64 r, .slice A6 n1 c6, .slice A7 n2 c7] 49)).heap.size := Nat.le_trans zhx_3 (by simp)
            have hy_4 := o3.alloc (.cells #[.int .i64 a, .int .i64 r, .slice A6 n1 c6, .slice A7 n2 c7] 49)
            have zhy_4 : _ ≤ (w_3.alloc (.cells #[.int .i64 a, .int .i64 r, .slice A6 n1 c6, .slice A7 n2 c7] 49)).heap.size := Nat.le_trans zhy_3 (by simp)
            have cHC0_4 := cell_later hb_4 HC0.out
            have cHC1_4 := cell_later hb_4 HC1.out
            have cHC2_4 := cell_later hb_4 HC2.out
            have cHC3_4 := cell_later hb_4 HC3.out
            have cHC4_4 := cell_later hb_4 HC4.out
            have cHC5_4 := cell_later hb_4 HC5.out
            have cHC6_4 := cell_later hb_4 HC6.out
            have cHC7_4 := cell_later hb_4 HC7.out
            have kh_4 := hide (Blk.new w_3 49 #[.int .i64 a, .int .i64 r, .slice A6 n1 c6, .slice A7 n2 c7])
            clear hb_3 bx_3 zbx_3 o2 zhx_3 o3 zhy_3 cHC0_3 cHC1_3 cHC2_3 cHC3_3 cHC4_3 cHC5_3 cHC6_3 cHC7_3
            go_wp2_with fail
            refine (ref0_CopyBytes _ _ _ _ _ (Sl.of_own bx_4) (by omega) (by omega)).mono ?_
            rintro e w_5 ⟨v5, rfl, cp_5, hb_5'⟩
            have zz_5 := hb_5'.size
            obtain ⟨Ac5, cc5, rfl⟩ := own_slice cp_5
            go_wp2_with (at_builtin; refine wpList_append_own _ rfl _ _ 27 rfl _ 5 i0 (.int .u8 0) 1 1 Try.underlying27 hi hz0 hz1 hz2 rfl (by decide) _ _ _ rfl (cp_5.alloc _) ⟨w_5.heap.size, 0, none⟩ 1 1 [.int .u8 0] rfl rfl (news_one _ _ _) (one_int _ _) (by unfold maxLen; omega) (by omega) (by (try simp at zz_5); simp; omega) ?_)
            intro v6 w_6 o6 hg6 _
            have hb_6' := (hb_5'.alloc hb_5'.size _).grown hg6 (by (try simp at zz_5); simp; omega) (fun g hg' => (cp_5.lt g hg').1)
            clear hg6 cp_5 hb_5' zz_5
            have hb_6 := below_then hb_4 hb_6'
            have zbz_6 := hb_6'.size
            have ybz := hb_4.size
            have bx_6 := own_later bx_4 hb_6'
            have zbx_6 := Nat.le_trans zbx_4 hb_6'.size
            have hx_6 := own_later hx_4 hb_6'
            have zhx_6 := Nat.le_trans zhx_4 hb_6'.size
            have hy_6 := own_later hy_4 hb_6'
            have zhy_6 := Nat.le_trans zhy_4 hb_6'.size
            have kh_6 := hide (kh_4.out.later hb_6')
            have cHC0_6 := cell_later hb_6 HC0.out
            have cHC1_6 := cell_later hb_6 HC1.out
            have cHC2_6 := cell_later hb_6 HC2.out
            have cHC3_6 := cell_later hb_6 HC3.out
            have cHC4_6 := cell_later hb_6 HC4.out
            have cHC5_6 := cell_later hb_6 HC5.out
            have cHC6_6 := cell_later hb_6 HC6.out
            have cHC7_6 := cell_later hb_6 HC7.out
            clear hb_6' bx_4 zbx_4 hx_4 zhx_4 hy_4 zhy_4 kh_4 cHC0_4 cHC1_4 cHC2_4 cHC3_4 cHC4_4 cHC5_4 cHC6_4 cHC7_4 hb_4
            have ob := o6
            rw [show bytes8 (headerB ⟨a, r, bs, ps⟩) ++ [Value.int .u8 0] = bytes8 (headerB ⟨a, r, bs, ps⟩ ++ [0]) by simp [bytes8]] at ob
            obtain ⟨A8, c8, rfl, hc8, hc8m⟩ := own_slice_cap ob
            unfold maxLen at hc8m
            clear o6
            go_wp2_with fail
            refine (header_Parse _ (Sl.of_own ob) hc8 hc8m HP0).mono ?_
            rintro e w_7 ⟨rfl, hb_7'⟩
            have hb_7 := below_then hb_6 hb_7'
            have bx_7 := own_later bx_6 hb_7'
            have zbx_7 := Nat.le_trans zbx_6 hb_7'.size
            have hx_7 := own_later hx_6 hb_7'
            have zhx_7 := Nat.le_trans zhx_6 hb_7'.size
            have hy_7 := own_later hy_6 hb_7'
            have zhy_7 := Nat.le_trans zhy_6 hb_7'.size
            have bz_7 := own_later ob hb_7'
            have zbz_7 := Nat.le_trans zbz_6 hb_7'.size
            have kh_7 := hide (kh_6.out.later hb_7')
            have cHC0_7 := cell_later hb_7 HC0.out
            have cHC1_7 := cell_later hb_7 HC1.out
            have cHC2_7 := cell_later hb_7 HC2.out
            have cHC3_7 := cell_later hb_7 HC3.out
            have cHC4_7 := cell_later hb_7 HC4.out
            have cHC5_7 := cell_later hb_7 HC5.out
            have cHC6_7 := cell_later hb_7 HC6.out
            have cHC7_7 := cell_later hb_7 HC7.out
            clear hb_7' bx_6 zbx_6 hx_6 zhx_6 hy_6 zhy_6 ob zbz_6 kh_6 cHC0_6 cHC1_6 cHC2_6 cHC3_6 cHC4_6 cHC5_6 cHC6_6 cHC7_6 hb_6
            have hb_8 : Below w.heap.size w (w_7.alloc (.cells #[.int .i64 0, .int .i64 0, .slice none 0 0, .slice none 0 0] 49)) := hb_7.alloc hb_7.size _
            have bx_8 := bx_7.alloc (.cells #[.int .i64 0, .int .i64 0, .slice none 0 0, .slice none 0 0] 49)
            have zbx_8 : _ ≤ (w_7.alloc (.cells #[.int .i64 0, .int .i64 0, .slice none 0 0, .slice none 0 0] 49)).heap.size := Nat.le_trans zbx_7 (by simp)
            have hx_8 := hx_7.alloc (.cells #[.int .i64 0, .int .i64 0, .slice none 0 0, .slice none 0 0] 49)
            have zhx_8 : _ ≤ (w_7.alloc (.cells #[.int .i64 0, .int .i64 0, .slice none 0 0, .slice none 0 0] 49)).heap.size := Nat.le_trans zhx_7 (by simp)
            have hy_8 := hy_7.alloc (.cells #[.int .i64 0, .int .i64 0, .slice none 0 0, .slice none 0 0] 49)
            have zhy_8 : _ ≤ (w_7.alloc (.cells #[.int .i64 0, .int .i64 0, .slice none 0 0, .slice none 0 0] 49)).heap.size := Nat.le_trans zhy_7 (by simp)
            have bz_8 := bz_7.alloc (.cells #[.int .i64 0, .int .i64 0, .slice none 0 0, .slice none 0 0] 49)
            have zbz_8 : _ ≤ (w_7.alloc (.cells #[.int .i64 0, .int .i64 0, .slice none 0 0, .slice none 0 0] 49)).heap.size := Nat.le_trans zbz_7 (by simp)
            have kh_8 := hide (kh_7.out.alloc (.cells #[.int .i64 0, .int .i64 0, .slice none 0 0, .slice none 0 0] 49))
            have cHC0_8 := cell_later hb_8 HC0.out
            have cHC1_8 := cell_later hb_8 HC1.out
            have cHC2_8 := cell_later hb_8 HC2.out
            have cHC3_8 := cell_later hb_8 HC3.out
            have cHC4_8 := cell_later hb_8 HC4.out
            have cHC5_8 := cell_later hb_8 HC5.out
            have cHC6_8 := cell_later hb_8 HC6.out
            have cHC7_8 := cell_later hb_8 HC7.out
            clear hb_7 bx_7 zbx_7 hx_7 zhx_7 hy_7 zhy_7 bz_7 zbz_7 kh_7 cHC0_7 cHC1_7 cHC2_7 cHC3_7 cHC4_7 cHC5_7 cHC6_7 cHC7_7
            clear bz_8 zbz_8
            have hi1 : (0 : Int) ≤ (k : Int) := by omega
            have hi2 : (k : Int) < (n : Int) := by omega
            go_wp2_with fail
            generalize (w_7.alloc (.cells #[.int .i64 0, .int .i64 0, .slice none 0 0, .slice none 0 0] 49)) = w_8 at hb_8 bx_8 zbx_8 hx_8 zhx_8 hy_8 zhy_8 kh_8 cHC0_8 cHC1_8 cHC2_8 cHC3_8 cHC4_8 cHC5_8 cHC6_8 cHC7_8 ⊢
            go_wp2_with fail
            have fq0 : ∀ n : Wd w_8, n.w.cell? ⟨b, off + k * 8, none⟩ = some (.int .i64 a) := Wd.cell (cell_later hb_8 HC0.out)
            have fq1 : ∀ n : Wd w_8, n.w.cell? ⟨b, off + k * 8 + 1, none⟩ = some (.int .i64 r) := Wd.cell (cell_later hb_8 HC1.out)
            have fq2 : ∀ n : Wd w_8, n.w.cell? ⟨b, off + k * 8 + 2, none⟩ = some (.slice A1 n1 c1) := Wd.cell (cell_later hb_8 HC2.out)
            have fq3 : ∀ n : Wd w_8, n.w.cell? ⟨b, off + k * 8 + 3, none⟩ = some (.slice A2 n2 c2) := Wd.cell (cell_later hb_8 HC3.out)
            have fq4 : ∀ n : Wd w_8, n.w.cell? ⟨w_3.heap.size, 0, none⟩ = some (.int .i64 a) := Wd.cell (kh_8.out.at_ rfl)
            have fq5 : ∀ n : Wd w_8, n.w.cell? ⟨w_3.heap.size, 1, none⟩ = some (.int .i64 r) := Wd.cell (kh_8.out.at_ rfl)
            have fq6 : ∀ n : Wd w_8, n.w.cell? ⟨w_3.heap.size, 2, none⟩ = some (.slice A6 n1 c6) := Wd.cell (kh_8.out.at_ rfl)
            have fq7 : ∀ n : Wd w_8, n.w.cell? ⟨w_3.heap.size, 3, none⟩ = some (.slice A7 n2 c7) := Wd.cell (kh_8.out.at_ rfl)
            refine wp_region_wd (by kernel_rfl) (by kernel_rfl) ?_
            repeat (go_big_quiet_step (first
              | (go_at_call 30; exact wd_same (law6_num _ _))
              | (go_at_call 35; exact wd_call (ref0_EqHeader (c1 := c6) (c2 := c7) (d1 := c1) (d2 := c2) ⟨a, r, bs, ps⟩ ⟨a, r, bs, ps⟩ _ ((Sl.of_own hx_8).below (Wd.below _)) ((Sl.of_own hy_8).below (Wd.below _)) (HS1.out.below (below_then hb_8 (Wd.below _))) (HS2.out.below (below_then hb_8 (Wd.below _))) (by omega) (by omega) (by omega) (by omega) (r := true) (by simp [Hid])))
              | fail))
            refine wpQuiet_nil (wd_end fun w_9 hb_9' => ?_)
            clear fq0 fq1 fq2 fq3 fq4 fq5 fq6 fq7
            have hb_9 := below_then hb_8 hb_9'
            have bx_9 := own_later bx_8 hb_9'
            have zbx_9 := Nat.le_trans zbx_8 hb_9'.size
            have hx_9 := own_later hx_8 hb_9'
            have zhx_9 := Nat.le_trans zhx_8 hb_9'.size
            have hy_9 := own_later hy_8 hb_9'
            have zhy_9 := Nat.le_trans zhy_8 hb_9'.size
            have kh_9 := hide (kh_8.out.later hb_9')
            have cHC0_9 := cell_later hb_9 HC0.out
            have cHC1_9 := cell_later hb_9 HC1.out
            have cHC2_9 := cell_later hb_9 HC2.out
            have cHC3_9 := cell_later hb_9 HC3.out
            have cHC4_9 := cell_later hb_9 HC4.out
            have cHC5_9 := cell_later hb_9 HC5.out
            have cHC6_9 := cell_later hb_9 HC6.out
            have cHC7_9 := cell_later hb_9 HC7.out
            clear hb_9' bx_8 zbx_8 hx_8 zhx_8 hy_8 zhy_8 kh_8 cHC0_8 cHC1_8 cHC2_8 cHC3_8 cHC4_8 cHC5_8 cHC6_8 cHC7_8 hb_8
            clear kh_9 hx_9 zhx_9 hy_9 zhy_9
            have s5 := Sl.of_own bx_9
            clear bx_9 zbx_9
            go_wp2_with fail
            go_loopw [10] (fun i wr => ∃ j : Nat, i = .int .i64 j ∧ j ≤ 200000 ∧ Below w.heap.size w wr ∧ Sl wr 1 A5 L (bytes8 (headerB ⟨a, r, bs, ps⟩))) (fun i _ => 200000 - (intOf i).toNat)
            case atStart => exact ⟨0, rfl, by omega, hb_9, s5⟩
            case round =>
              obtain ⟨j, rfl, hj, hb_10, sj⟩ := hrel
              clear hb_9 s5 cHC0_9 cHC1_9 cHC2_9 cHC3_9 cHC4_9 cHC5_9 cHC6_9 cHC7_9
              obtain ⟨w_10, rfl⟩ : ∃ wo : World, wo = wr := ⟨_, rfl⟩
              by_cases hjL : j < L
              · have hg := hide (HPk.out j hjL)
                have st := sj.take (k := j) (by omega)
                rw [take_bytes] at st
                go_wp2_with fail
                refine (header_Parse _ st (by omega) hc5m hg).mono ?_
                rintro e wz ⟨rfl, hbz'⟩
                have hbz := (below_then hb_10 hbz').alloc (below_then hb_10 hbz').size (.cells #[.int .i64 0, .int .i64 0, .slice none 0 0, .slice none 0 0] 49)
                have sz := (sj.below hbz').alloc (.cells #[.int .i64 0, .int .i64 0, .slice none 0 0, .slice none 0 0] 49)
                clear hbz' sj st hb_10
                go_wp2_with fail
                refine (law6_num _ _).mono ?_
                rintro e w' ⟨rfl, rfl⟩
                go_wp2_with fail
                go_roundw
                case rel => exact ⟨j + 1 + L / 20, by go_num, by omega, hbz, sz⟩
                case measure => simp [intOf]; omega
              · go_wp2_with fail
                go_loopw [13] (fun i wr => ∃ q : Nat, i = .int .i64 q ∧ q ≤ k ∧ Below w.heap.size w wr ∧ Sl wr 1 A5 L (bytes8 (headerB ⟨a, r, bs, ps⟩))) (fun i _ => k - (intOf i).toNat)
                case atStart => exact ⟨0, rfl, by omega, hb_10, sj⟩
                case round =>
                  obtain ⟨q, rfl, hq, hb_11, sq⟩ := hrel
                  clear hb_10 sj
                  obtain ⟨w_11, rfl⟩ : ∃ wo : World, wo = wr := ⟨_, rfl⟩
                  by_cases hqk : q < k
                  · obtain ⟨⟨⟨a2, r2, bs2, ps2⟩, d2', ss2⟩, B1, m1, d1, B2, m2, d2, B3, m3, d3, N2, B4, m4, d4, xs2, D0, D1, D2, D3, _, _, _, _, ⟨T1, hm1⟩, ⟨T2, hm2⟩, _, _⟩ := HH.out q (by omega)
                    simp only at D0 D1 T1 T2
                    have HD0 := hide D0
                    have HD1 := hide D1
                    have HD2 := hide D2
                    have HD3 := hide D3
                    have HT1 := hide T1
                    have HT2 := hide T2
                    have hi3 : (0 : Int) ≤ (q : Int) := by omega
                    have hi4 : (q : Int) < (n : Int) := by omega
                    clear D0 D1 D2 D3 T1 T2
                    have cHC0_11 := cell_later hb_11 HC0.out
                    have cHC1_11 := cell_later hb_11 HC1.out
                    have cHC2_11 := cell_later hb_11 HC2.out
                    have cHC3_11 := cell_later hb_11 HC3.out
                    have cHD0_11 := cell_later hb_11 HD0.out
                    have cHD1_11 := cell_later hb_11 HD1.out
                    have cHD2_11 := cell_later hb_11 HD2.out
                    have cHD3_11 := cell_later hb_11 HD3.out
                    cases hr2 : formH 16 ⟨a2, r2, bs2, ps2⟩ with
                    | false =>
                      have HR2 := hide hr2
                      clear hr2
                      go_wp2_with fail
                      refine (header_Bytes_no (c1 := d1) (c2 := d2) ⟨a2, r2, bs2, ps2⟩ _ (HT1.out.below hb_11) (HT2.out.below hb_11) (by omega) (by omega) HR2).mono ?_
                      rintro e w_12 ⟨rfl, hb_12'⟩
                      have hb_12 := below_then hb_11 hb_12'
                      have sq_12 := sq.below hb_12'
                      have cHC0_12 := cell_later hb_12 HC0.out
                      have cHC1_12 := cell_later hb_12 HC1.out
                      have cHC2_12 := cell_later hb_12 HC2.out
                      have cHC3_12 := cell_later hb_12 HC3.out
                      have cHD0_12 := cell_later hb_12 HD0.out
                      have cHD1_12 := cell_later hb_12 HD1.out
                      have cHD2_12 := cell_later hb_12 HD2.out
                      have cHD3_12 := cell_later hb_12 HD3.out
                      clear hb_12' sq cHC0_11 cHC1_11 cHC2_11 cHC3_11 cHD0_11 cHD1_11 cHD2_11 cHD3_11 hb_11
                      go_wp2_with fail
                      refine wp_region_wd (by kernel_rfl) (by kernel_rfl) ?_
                      repeat (go_big_quiet_step (first
                        | (go_at_call 30; exact wd_same (law6_num _ _))
                        | fail))
                      refine wpQuiet_nil (wd_end fun w_13 hb_13' => ?_)
                      have hb_13 := below_then hb_12 hb_13'
                      have sq_13 := sq_12.below hb_13'
                      have cHC0_13 := cell_later hb_13 HC0.out
                      have cHC1_13 := cell_later hb_13 HC1.out
                      have cHC2_13 := cell_later hb_13 HC2.out
                      have cHC3_13 := cell_later hb_13 HC3.out
                      have cHD0_13 := cell_later hb_13 HD0.out
                      have cHD1_13 := cell_later hb_13 HD1.out
                      have cHD2_13 := cell_later hb_13 HD2.out
                      have cHD3_13 := cell_later hb_13 HD3.out
                      clear hb_13' sq_12 cHC0_12 cHC1_12 cHC2_12 cHC3_12 cHD0_12 cHD1_12 cHD2_12 cHD3_12 hb_12
                      go_wp2_with fail
                      go_roundw
                      case rel => exact ⟨q + 1, by go_num, by omega, hb_13, sq_13⟩
                      case measure => simp [intOf]; omega
                    | true =>
                      have HR2 := hide hr2
                      obtain ⟨L3, HL3'⟩ : ∃ L, Hid ((headerB ⟨a2, r2, bs2, ps2⟩).length = L) := ⟨_, rfl⟩
                      have hL3 : L3 ≤ 300 := by rw [← HL3'.out]; exact (header_size hr2).2.1
                      clear hr2
                      go_wp2_with fail
                      refine (header_Bytes_yes (c1 := d1) (c2 := d2) ⟨a2, r2, bs2, ps2⟩ _ (HT1.out.below hb_11) (HT2.out.below hb_11) HR2).mono ?_
                      rintro e w_12 ⟨v3, rfl, o3, hb_12'⟩
                      have hb_12 := below_then hb_11 hb_12'
                      have zbz_12 := hb_12'.size
                      have ybz := hb_11.size
                      have sq_12 := sq.below hb_12'
                      have cHC0_12 := cell_later hb_12 HC0.out
                      have cHC1_12 := cell_later hb_12 HC1.out
                      have cHC2_12 := cell_later hb_12 HC2.out
                      have cHC3_12 := cell_later hb_12 HC3.out
                      have cHD0_12 := cell_later hb_12 HD0.out
                      have cHD1_12 := cell_later hb_12 HD1.out
                      have cHD2_12 := cell_later hb_12 HD2.out
                      have cHD3_12 := cell_later hb_12 HD3.out
                      rw [HL3'.out] at o3
                      obtain ⟨A8, c8, rfl⟩ := own_slice o3
                      clear hb_12' sq cHC0_11 cHC1_11 cHC2_11 cHC3_11 cHD0_11 cHD1_11 cHD2_11 cHD3_11 hb_11
                      cases he : decide ((⟨a, r, bs, ps⟩ : HdD) = ⟨a2, r2, bs2, ps2⟩)
                      case false =>
                        have HE1 : Hid ((headerB ⟨a, r, bs, ps⟩ == headerB ⟨a2, r2, bs2, ps2⟩) = false) := by rw [Hid, headerB_inj HR.out HR2.out]; exact he
                        have HE2 := hide he
                        clear he
                        go_wp2_with fail
                        have fq0 : ∀ n : Wd w_12, n.w.cell? ⟨b, off + k * 8, none⟩ = some (.int .i64 a) := Wd.cell (cell_later hb_12 HC0.out)
                        have fq1 : ∀ n : Wd w_12, n.w.cell? ⟨b, off + k * 8 + 1, none⟩ = some (.int .i64 r) := Wd.cell (cell_later hb_12 HC1.out)
                        have fq2 : ∀ n : Wd w_12, n.w.cell? ⟨b, off + k * 8 + 2, none⟩ = some (.slice A1 n1 c1) := Wd.cell (cell_later hb_12 HC2.out)
                        have fq3 : ∀ n : Wd w_12, n.w.cell? ⟨b, off + k * 8 + 3, none⟩ = some (.slice A2 n2 c2) := Wd.cell (cell_later hb_12 HC3.out)
                        have fq4 : ∀ n : Wd w_12, n.w.cell? ⟨b, off + q * 8, none⟩ = some (.int .i64 a2) := Wd.cell (cell_later hb_12 HD0.out)
                        have fq5 : ∀ n : Wd w_12, n.w.cell? ⟨b, off + q * 8 + 1, none⟩ = some (.int .i64 r2) := Wd.cell (cell_later hb_12 HD1.out)
                        have fq6 : ∀ n : Wd w_12, n.w.cell? ⟨b, off + q * 8 + 2, none⟩ = some (.slice B1 m1 d1) := Wd.cell (cell_later hb_12 HD2.out)
                        have fq7 : ∀ n : Wd w_12, n.w.cell? ⟨b, off + q * 8 + 3, none⟩ = some (.slice B2 m2 d2) := Wd.cell (cell_later hb_12 HD3.out)
                        refine wp_region_wd (by kernel_rfl) (by kernel_rfl) ?_
                        repeat (go_big_quiet_step (first
                          | (go_at_call 30; exact wd_same (law6_num _ _))
                          | (go_at_call 19; exact wd_call (eqBytes_b _ (sq_12.below (Wd.below _)) (by omega) ((Sl.of_own o3).below (Wd.below _)) (by omega) HE1))
                          | (go_at_call 35; exact wd_call (ref0_EqHeader (c1 := c1) (c2 := c2) (d1 := d1) (d2 := d2) ⟨a, r, bs, ps⟩ ⟨a2, r2, bs2, ps2⟩ _ (HS1.out.below (below_then hb_12 (Wd.below _))) (HS2.out.below (below_then hb_12 (Wd.below _))) (HT1.out.below (below_then hb_12 (Wd.below _))) (HT2.out.below (below_then hb_12 (Wd.below _))) (by omega) (by omega) (by omega) (by omega) HE2))
                          | fail))
                        refine wpQuiet_nil (wd_end fun w_13 hb_13' => ?_)
                        clear fq0 fq1 fq2 fq3 fq4 fq5 fq6 fq7
                        have hb_13 := below_then hb_12 hb_13'
                        have sq_13 := sq_12.below hb_13'
                        have bz_13 := own_later o3 hb_13'
                        have zbz_13 := Nat.le_trans zbz_12 hb_13'.size
                        have cHC0_13 := cell_later hb_13 HC0.out
                        have cHC1_13 := cell_later hb_13 HC1.out
                        have cHC2_13 := cell_later hb_13 HC2.out
                        have cHC3_13 := cell_later hb_13 HC3.out
                        have cHD0_13 := cell_later hb_13 HD0.out
                        have cHD1_13 := cell_later hb_13 HD1.out
                        have cHD2_13 := cell_later hb_13 HD2.out
                        have cHD3_13 := cell_later hb_13 HD3.out
                        clear hb_13' sq_12 o3 zbz_12 cHC0_12 cHC1_12 cHC2_12 cHC3_12 cHD0_12 cHD1_12 cHD2_12 cHD3_12 hb_12
                        clear bz_13 zbz_13
                        go_wp2_with fail
                        go_roundw
                        case rel => exact ⟨q + 1, by go_num, by omega, hb_13, sq_13⟩
                        case measure => simp [intOf]; omega
                      case true =>
                        have HE1 : Hid ((headerB ⟨a, r, bs, ps⟩ == headerB ⟨a2, r2, bs2, ps2⟩) = true) := by rw [Hid, headerB_inj HR.out HR2.out]; exact he
                        have HE2 := hide he
                        clear he
                        go_wp2_with fail
                        have fq0 : ∀ n : Wd w_12, n.w.cell? ⟨b, off + k * 8, none⟩ = some (.int .i64 a) := Wd.cell (cell_later hb_12 HC0.out)
                        have fq1 : ∀ n : Wd w_12, n.w.cell? ⟨b, off + k * 8 + 1, none⟩ = some (.int .i64 r) := Wd.cell (cell_later hb_12 HC1.out)
                        have fq2 : ∀ n : Wd w_12, n.w.cell? ⟨b, off + k * 8 + 2, none⟩ = some (.slice A1 n1 c1) := Wd.cell (cell_later hb_12 HC2.out)
                        have fq3 : ∀ n : Wd w_12, n.w.cell? ⟨b, off + k * 8 + 3, none⟩ = some (.slice A2 n2 c2) := Wd.cell (cell_later hb_12 HC3.out)
                        have fq4 : ∀ n : Wd w_12, n.w.cell? ⟨b, off + q * 8, none⟩ = some (.int .i64 a2) := Wd.cell (cell_later hb_12 HD0.out)
                        have fq5 : ∀ n : Wd w_12, n.w.cell? ⟨b, off + q * 8 + 1, none⟩ = some (.int .i64 r2) := Wd.cell (cell_later hb_12 HD1.out)
                        have fq6 : ∀ n : Wd w_12, n.w.cell? ⟨b, off + q * 8 + 2, none⟩ = some (.slice B1 m1 d1) := Wd.cell (cell_later hb_12 HD2.out)
                        have fq7 : ∀ n : Wd w_12, n.w.cell? ⟨b, off + q * 8 + 3, none⟩ = some (.slice B2 m2 d2) := Wd.cell (cell_later hb_12 HD3.out)
                        refine wp_region_wd (by kernel_rfl) (by kernel_rfl) ?_
                        repeat (go_big_quiet_step (first
                          | (go_at_call 30; exact wd_same (law6_num _ _))
                          | (go_at_call 19; exact wd_call (eqBytes_b _ (sq_12.below (Wd.below _)) (by omega) ((Sl.of_own o3).below (Wd.below _)) (by omega) HE1))
                          | (go_at_call 35; exact wd_call (ref0_EqHeader (c1 := c1) (c2 := c2) (d1 := d1) (d2 := d2) ⟨a, r, bs, ps⟩ ⟨a2, r2, bs2, ps2⟩ _ (HS1.out.below (below_then hb_12 (Wd.below _))) (HS2.out.below (below_then hb_12 (Wd.below _))) (HT1.out.below (below_then hb_12 (Wd.below _))) (HT2.out.below (below_then hb_12 (Wd.below _))) (by omega) (by omega) (by omega) (by omega) HE2))
                          | fail))
                        refine wpQuiet_nil (wd_end fun w_13 hb_13' => ?_)
                        clear fq0 fq1 fq2 fq3 fq4 fq5 fq6 fq7
                        have hb_13 := below_then hb_12 hb_13'
                        have sq_13 := sq_12.below hb_13'
                        have bz_13 := own_later o3 hb_13'
                        have zbz_13 := Nat.le_trans zbz_12 hb_13'.size
                        have cHC0_13 := cell_later hb_13 HC0.out
                        have cHC1_13 := cell_later hb_13 HC1.out
                        have cHC2_13 := cell_later hb_13 HC2.out
                        have cHC3_13 := cell_later hb_13 HC3.out
                        have cHD0_13 := cell_later hb_13 HD0.out
                        have cHD1_13 := cell_later hb_13 HD1.out
                        have cHD2_13 := cell_later hb_13 HD2.out
                        have cHD3_13 := cell_later hb_13 HD3.out
                        clear hb_13' sq_12 o3 zbz_12 cHC0_12 cHC1_12 cHC2_12 cHC3_12 cHD0_12 cHD1_12 cHD2_12 cHD3_12 hb_12
                        clear bz_13 zbz_13
                        go_wp2_with fail
                        go_roundw
                        case rel => exact ⟨q + 1, by go_num, by omega, hb_13, sq_13⟩
                        case measure => simp [intOf]; omega
                  · go_wp2_with fail
                    go_roundw
                    case rel => exact ⟨k + 1, by omega, by go_num, hb_11⟩
                    case measure => simp [intOf]; omega
      · go_wp2_with fail
        refine (law6_wakes _).mono ?_
        rintro e w1 ⟨rfl, hb1⟩
        go_wp2_with fail
        go_ret
        exact ⟨rfl, below_then hb_0 hb1⟩
    · go_wp2_with fail
      refine (law6_wakes _).mono ?_
      rintro e w1 ⟨rfl, hb1⟩
      go_wp2_with fail
      go_ret
      exact ⟨rfl, below_then hb_0 hb1⟩
end Go.Proofs.Ytihpmaifcebpiaa
