/-
  The walk of HeaderTurned: whatever the list of records, the call answers true and changes nothing that was there.
-/
import Derived.Test.YtihpmaifcebpiaaHdrL
import Derived.Test.YtihpmaifcebpiaaHdrS
import Derived.Test.YtihpmaifcebpiaaBatR
import Derived.Test.YtihpmaifcebpiaaSpo
import Derived.Test.YtihpmaifcebpiaaQui
namespace Go.Proofs.Ytihpmaifcebpiaa
open Go.RowKit

set_option maxRecDepth 100000 in
set_option maxHeartbeats 4000000 in
theorem walk_HeaderTurned {v : Value} {w : World} (ho : ∃ A n c, v = .slice A n c ∧ Asks6 w A n) :
    Calls Try.prog 10 #[v] w fun r w' => r = .returned (.bool true) ∧ Below w.heap.size w w' := by
  obtain ⟨A, n, c, rfl, hn, h⟩ := ho
  obtain ⟨i0, hi, hz0, hz1, hz2⟩ := info_parts Try.infoByte
  go_enter Try.func10, Try.ntmps10
  go_wp2_with fail
  go_loopw [3] (fun i wr => ∃ k : Nat, k ≤ n ∧ i = .int .i64 k ∧ Below w.heap.size w wr) (fun i _ => n - (intOf i).toNat)
  case atStart => exact ⟨0, Nat.zero_le _, rfl, Below.refl _ _⟩
  case round =>
    obtain ⟨k, hk, rfl, hb_0⟩ := hrel
    obtain ⟨w_0, rfl⟩ : ∃ wo : World, wo = wr := ⟨_, rfl⟩
    by_cases hlt : k < n
    · obtain ⟨b, off, rfl, hc⟩ := h (by omega)
      obtain ⟨⟨⟨a, r, bs, ps⟩, d, ss⟩, A1, n1, c1, A2, n2, c2, A3, n3, c3, N, A4, n4, c4, xs, C0, C1, C2, C3, C4, C5, C6, C7, ⟨S1, hn1⟩, ⟨S2, hn2⟩, ⟨S3, hn3⟩, ⟨S4, hn4, hcc4, hcm4⟩⟩ := hc k hlt
      simp only at C0 C1 C4 S1 S2 S3
      have HC0 := hide C0
      have HC1 := hide C1
      have HC2 := hide C2
      have HC3 := hide C3
      have HC4 := hide C4
      have HC5 := hide C5
      have HC6 := hide C6
      have HC7 := hide C7
      have HS1 := hide S1
      have HS2 := hide S2
      have HS3 := hide S3
      have HS4 := hide S4
      have HL1 := hide S1.ilen
      have HL2 := hide S2.ilen
      have HL3 := hide S3.ilen
      have HBL := hide S4.blen
      clear C0 C1 C2 C3 C4 C5 C6 C7 S1 S2 S3 S4 h hc
      by_cases hm : k < 8
      · skip
        have cHC0_0 := cell_later hb_0 HC0.out
        have cHC1_0 := cell_later hb_0 HC1.out
        have cHC2_0 := cell_later hb_0 HC2.out
        have cHC3_0 := cell_later hb_0 HC3.out
        have cHC4_0 := cell_later hb_0 HC4.out
        have cHC5_0 := cell_later hb_0 HC5.out
        have cHC6_0 := cell_later hb_0 HC6.out
        have cHC7_0 := cell_later hb_0 HC7.out
        cases hv : heavy6 n1 n2 n3 n4 with
        | true =>
          have HV := hide hv
          clear hv
          go_wp2_with fail
          refine (law6_heavy (A1 := A1) (A2 := A2) (A3 := A3) (A4 := A4) (c1 := c1) (c2 := c2) (c3 := c3) (n4 := n4) (c4 := c4) a r d N _ hn1 hn2 hn3 (by omega)).mono ?_
          rintro e w_1 ⟨rfl, hb_1'⟩
          have hb_1 := below_then hb_0 hb_1'
          have cHC0_1 := cell_later hb_1 HC0.out
          have cHC1_1 := cell_later hb_1 HC1.out
          have cHC2_1 := cell_later hb_1 HC2.out
          have cHC3_1 := cell_later hb_1 HC3.out
          have cHC4_1 := cell_later hb_1 HC4.out
          have cHC5_1 := cell_later hb_1 HC5.out
          have cHC6_1 := cell_later hb_1 HC6.out
          have cHC7_1 := cell_later hb_1 HC7.out
          clear hb_1' cHC0_0 cHC1_0 cHC2_0 cHC3_0 cHC4_0 cHC5_0 cHC6_0 cHC7_0 hb_0
          rw [HV.out]
          go_wp2_with fail
          go_ret
          exact ⟨rfl, hb_1⟩
        | false =>
          obtain ⟨hw500, hn4'⟩ := heavy6_false hv
          have HV := hide hv
          clear hv
          go_wp2_with fail
          refine (law6_heavy (A1 := A1) (A2 := A2) (A3 := A3) (A4 := A4) (c1 := c1) (c2 := c2) (c3 := c3) (n4 := n4) (c4 := c4) a r d N _ hn1 hn2 hn3 (by omega)).mono ?_
          rintro e w_1 ⟨rfl, hb_1'⟩
          have hb_1 := below_then hb_0 hb_1'
          have cHC0_1 := cell_later hb_1 HC0.out
          have cHC1_1 := cell_later hb_1 HC1.out
          have cHC2_1 := cell_later hb_1 HC2.out
          have cHC3_1 := cell_later hb_1 HC3.out
          have cHC4_1 := cell_later hb_1 HC4.out
          have cHC5_1 := cell_later hb_1 HC5.out
          have cHC6_1 := cell_later hb_1 HC6.out
          have cHC7_1 := cell_later hb_1 HC7.out
          clear hb_1' cHC0_0 cHC1_0 cHC2_0 cHC3_0 cHC4_0 cHC5_0 cHC6_0 cHC7_0 hb_0
          rw [HV.out]
          cases hr : formH 16 ⟨a, r, bs, ps⟩ with
          | false =>
            have HR := hide hr
            clear hr
            go_wp2_with fail
            refine (header_Bytes_no (c1 := c1) (c2 := c2) ⟨a, r, bs, ps⟩ _ (HS1.out.below hb_1) (HS2.out.below hb_1) (by omega) (by omega) HR).mono ?_
            rintro e w_2 ⟨rfl, hb_2'⟩
            have hb_2 := below_then hb_1 hb_2'
            have cHC0_2 := cell_later hb_2 HC0.out
            have cHC1_2 := cell_later hb_2 HC1.out
            have cHC2_2 := cell_later hb_2 HC2.out
            have cHC3_2 := cell_later hb_2 HC3.out
            have cHC4_2 := cell_later hb_2 HC4.out
            have cHC5_2 := cell_later hb_2 HC5.out
            have cHC6_2 := cell_later hb_2 HC6.out
            have cHC7_2 := cell_later hb_2 HC7.out
            clear hb_2' cHC0_1 cHC1_1 cHC2_1 cHC3_1 cHC4_1 cHC5_1 cHC6_1 cHC7_1 hb_1
            go_wp2_with fail
            refine (law6_num _ _).mono ?_
            rintro e w' ⟨rfl, rfl⟩
            go_wp2_with fail
            go_roundw
            case rel => exact ⟨k + 1, by omega, by go_num, hb_2⟩
            case measure => simp [intOf]; omega
          | true =>
            have HR := hide hr
            obtain ⟨B0, HB0⟩ : ∃ B, Hid (headerB ⟨a, r, bs, ps⟩ = B) := ⟨_, rfl⟩
            obtain ⟨L, HLL⟩ : ∃ L, Hid (B0.length = L) := ⟨_, rfl⟩
            have hL2 : L ≤ 300 := by rw [← HLL.out, ← HB0.out]; exact (header_size hr).2.1
            clear hr
            go_wp2_with fail
            refine (header_Bytes_yes (c1 := c1) (c2 := c2) ⟨a, r, bs, ps⟩ _ (HS1.out.below hb_1) (HS2.out.below hb_1) HR).mono ?_
            rintro e w_2 ⟨v1, rfl, o1, hb_2'⟩
            have hb_2 := below_then hb_1 hb_2'
            have zbx_2 := hb_2'.size
            have ybx := hb_1.size
            have cHC0_2 := cell_later hb_2 HC0.out
            have cHC1_2 := cell_later hb_2 HC1.out
            have cHC2_2 := cell_later hb_2 HC2.out
            have cHC3_2 := cell_later hb_2 HC3.out
            have cHC4_2 := cell_later hb_2 HC4.out
            have cHC5_2 := cell_later hb_2 HC5.out
            have cHC6_2 := cell_later hb_2 HC6.out
            have cHC7_2 := cell_later hb_2 HC7.out
            rw [HB0.out, HLL.out] at o1
            obtain ⟨A5, c5, rfl, hc5, hc5m⟩ := own_slice_cap o1
            unfold maxLen at hc5m
            clear hb_2' cHC0_1 cHC1_1 cHC2_1 cHC3_1 cHC4_1 cHC5_1 cHC6_1 cHC7_1 hb_1
            go_wp2_with fail
            refine (law6_num _ _).mono ?_
            rintro e w' ⟨rfl, rfl⟩
            have s5 := Sl.of_own o1
            have hi1 : (0 : Int) ≤ (k : Int) := by omega
            have hi2 : (k : Int) < (n : Int) := by omega
            clear o1 zbx_2 cHC0_2 cHC1_2 cHC2_2 cHC3_2 cHC4_2 cHC5_2 cHC6_2 cHC7_2
            go_wp2_with fail
            go_loopw [6] (fun i wr => ∃ j : Nat, i = .int .i64 j ∧ j ≤ 200000 ∧ Below w.heap.size w wr ∧ Sl wr 1 A5 L (bytes8 B0)) (fun i _ => 200000 - (intOf i).toNat)
            case atStart => exact ⟨0, rfl, by omega, hb_2, s5⟩
            case round =>
              obtain ⟨j, rfl, hj, hb_3, sj⟩ := hrel
              clear hb_2 s5
              obtain ⟨w_3, rfl⟩ : ∃ wo : World, wo = wr := ⟨_, rfl⟩
              by_cases hjL : j < L
              · obtain ⟨u, HU⟩ : ∃ u, Hid (B0[j]? = some u) := by obtain ⟨_, _, u, _, h, _⟩ := sj.byte hjL; exact ⟨u, h⟩
                obtain ⟨dd, hd0, hd1, hd⟩ : ∃ d : Nat, 0 < d ∧ d < 256 ∧ Hid (d = 1 + (k + j) % 255) := ⟨1 + (k + j) % 255, by omega, by omega, rfl⟩
                obtain ⟨u', HX⟩ : ∃ u', Hid (u ^^^ UInt8.ofNat dd = u') := ⟨_, rfl⟩
                have hxor : bits .xor .u8 (u.toNat : Int) (1 + ((k : Int) + (j : Int)) % 255) = (u'.toNat : Int) := by rw [← HX.out, ← xor_u8d u hd1, hd.out]; congr 1
                have HNE : Hid (B0.set j u' ≠ headerB ⟨a, r, bs, ps⟩) := by rw [HB0.out]; exact set_ne HU.out (by rw [← HX.out]; exact xor_ne u hd0 hd1)
                go_wp2_with fail
                refine (ref0_CopyBytes _ _ _ _ _ sj (by omega) (by omega)).mono ?_
                rintro e w_a ⟨v2, rfl, oa, hba'⟩
                obtain ⟨A6, c6, rfl, hc6, hc6m⟩ := own_slice_cap oa
                unfold maxLen at hc6m
                obtain ⟨g, cap, hv, hgb, hgl⟩ := oa.form (by omega)
                injection hv with hA _ hc
                subst hA
                subst hc
                have c0 : w_a.cell? ⟨g, j, none⟩ = some (.int .u8 u.toNat) := by rw [oa.cellAt j (by omega)]; simp [bytes8, HU.out]
                have f0 := oa.frozenAt j
                have hst := hide (fun u => oa.stored j u)
                have HB : Hid (∀ u, Below w_3.heap.size w_3 (w_a.setCell ⟨g, j, none⟩ u)) := fun u => below_set hba' hgb u
                clear oa hba'
                go_wp2_with fail
                have hb_4' := HB.out (.int .u8 u'.toNat)
                have oy := (hst.out (.int .u8 u'.toNat)).1
                rw [show (bytes8 B0).set j (.int .u8 u'.toNat) = bytes8 (B0.set j u') by simp [bytes8, List.map_set]] at oy
                generalize w_a.setCell ⟨g, j, none⟩ (.int .u8 u'.toNat) = w_4 at hb_4' oy ⊢
                have HBL2 : Hid ((B0.set j u').length = L) := by rw [Hid, List.length_set]; exact HLL.out
                obtain ⟨bs', HBS⟩ : ∃ bs', Hid (B0.set j u' = bs') := ⟨_, rfl⟩
                rw [HBS.out] at oy HNE HBL2
                clear HB hst c0 f0 hxor hd HX
                have hb_4 := below_then hb_3 hb_4'
                have zyy_4 := hb_4'.size
                have yyy := hb_3.size
                have sj_4 := sj.below hb_4'
                clear hb_4' sj hb_3
                obtain ⟨o, HP⟩ : ∃ o, Hid (parseH bs' = o) := ⟨_, rfl⟩
                cases o with
                | none =>
                  go_wp2_with fail
                  refine (header_Parse _ (Sl.of_own oy) hc6 hc6m HP).mono ?_
                  rintro e w_5 ⟨rfl, hb_5'⟩
                  have hb_5 := below_then hb_4 hb_5'
                  have sj_5 := sj_4.below hb_5'
                  have yy_5 := own_later oy hb_5'
                  have zyy_5 := Nat.le_trans zyy_4 hb_5'.size
                  clear hb_5' sj_4 oy zyy_4 hb_4
                  have hb_6 : Below w.heap.size w (w_5.alloc (.cells #[.int .i64 0, .int .i64 0, .slice none 0 0, .slice none 0 0] 49)) := hb_5.alloc hb_5.size _
                  have sj_6 := sj_5.alloc (.cells #[.int .i64 0, .int .i64 0, .slice none 0 0, .slice none 0 0] 49)
                  have yy_6 := yy_5.alloc (.cells #[.int .i64 0, .int .i64 0, .slice none 0 0, .slice none 0 0] 49)
                  have zyy_6 : _ ≤ (w_5.alloc (.cells #[.int .i64 0, .int .i64 0, .slice none 0 0, .slice none 0 0] 49)).heap.size := Nat.le_trans zyy_5 (by simp)
                  have kh_6 := hide (Blk.new w_5 49 #[.int .i64 0, .int .i64 0, .slice none 0 0, .slice none 0 0])
                  clear hb_5 sj_5 yy_5 zyy_5
                  go_wp2_with fail
                  refine (law6_num _ _).mono ?_
                  rintro e w' ⟨rfl, rfl⟩
                  go_wp2_with fail
                  refine (law6_num _ _).mono ?_
                  rintro e w' ⟨rfl, rfl⟩
                  have f0 : (w_5.alloc (.cells #[.int .i64 0, .int .i64 0, .slice none 0 0, .slice none 0 0] 49)).cell? ⟨w_5.heap.size, 0, none⟩ = some (.int .i64 0) := kh_6.out.at_ rfl
                  have f1 : (w_5.alloc (.cells #[.int .i64 0, .int .i64 0, .slice none 0 0, .slice none 0 0] 49)).cell? ⟨w_5.heap.size, 1, none⟩ = some (.int .i64 0) := kh_6.out.at_ rfl
                  have f2 : (w_5.alloc (.cells #[.int .i64 0, .int .i64 0, .slice none 0 0, .slice none 0 0] 49)).cell? ⟨w_5.heap.size, 2, none⟩ = some (.slice none 0 0) := kh_6.out.at_ rfl
                  have f3 : (w_5.alloc (.cells #[.int .i64 0, .int .i64 0, .slice none 0 0, .slice none 0 0] 49)).cell? ⟨w_5.heap.size, 3, none⟩ = some (.slice none 0 0) := kh_6.out.at_ rfl
                  go_wp2_with fail
                  refine (ref0_EqHeader (c1 := 0) (c2 := 0) (d1 := 0) (d2 := 0) ⟨0, 0, [], []⟩ ⟨0, 0, [], []⟩ _ Sl.nil_ Sl.nil_ Sl.nil_ Sl.nil_ (by omega) (by omega) (by omega) (by omega) (r := true) (by simp [Hid])).mono ?_
                  rintro e w_7 ⟨rfl, hb_7'⟩
                  have hb_7 := below_then hb_6 hb_7'
                  have sj_7 := sj_6.below hb_7'
                  have yy_7 := own_later yy_6 hb_7'
                  have zyy_7 := Nat.le_trans zyy_6 hb_7'.size
                  have kh_7 := hide (kh_6.out.later hb_7')
                  clear hb_7' sj_6 yy_6 zyy_6 kh_6 hb_6
                  go_wp2_with fail
                  go_roundw
                  case rel => exact ⟨j + 1, by go_num, by omega, hb_7, sj_7⟩
                  case measure => simp [intOf]; omega
                | some y =>
                  obtain ⟨ya, yr, ybs, yps⟩ := y
                  have HE : Hid (decide ((⟨ya, yr, ybs, yps⟩ : HdD) = ⟨a, r, bs, ps⟩) = false) := turned_otherH HP.out HNE.out
                  have HBB : Hid (bs' = headerB ⟨ya, yr, ybs, yps⟩) := (parseH_back HP.out).1
                  have HM2 : Hid (formH 16 ⟨ya, yr, ybs, yps⟩ = true) := (parseH_back HP.out).2
                  obtain ⟨n5, HN5⟩ : ∃ n, Hid (ybs.length = n) := ⟨_, rfl⟩
                  obtain ⟨n6, HN6⟩ : ∃ n, Hid (yps.length = n) := ⟨_, rfl⟩
                  have hn56 : n5 ≤ 8 ∧ n6 ≤ 16 := by
                    have h := formH_iff.1 HM2.out
                    simp only at h
                    have := HN5.out; have := HN6.out; omega
                  obtain ⟨hn5, hn6⟩ := hn56
                  go_wp2_with fail
                  refine (header_Parse _ (Sl.of_own oy) hc6 hc6m HP).mono ?_
                  rintro e w_5 ⟨v3, v4, rfl, o3, o4, _, hb_5'⟩
                  simp only at o3 o4
                  rw [HN5.out] at o3
                  rw [HN6.out] at o4
                  obtain ⟨A7, c7, rfl⟩ := own_slice o3
                  obtain ⟨A8, c8, rfl⟩ := own_slice o4
                  have hb_5 := below_then hb_4 hb_5'
                  have zhx_5 := hb_5'.size
                  have yhx := hb_4.size
                  have sj_5 := sj_4.below hb_5'
                  have yy_5 := own_later oy hb_5'
                  have zyy_5 := Nat.le_trans zyy_4 hb_5'.size
                  clear hb_5' sj_4 oy zyy_4 hb_4
                  have zhy_5 := zhx_5
                  have yhy := yhx
                  have hb_6 : Below w.heap.size w (w_5.alloc (.cells #[.int .i64 ya, .int .i64 yr, .slice A7 n5 c7, .slice A8 n6 c8] 49)) := hb_5.alloc hb_5.size _
                  have sj_6 := sj_5.alloc (.cells #[.int .i64 ya, .int .i64 yr, .slice A7 n5 c7, .slice A8 n6 c8] 49)
                  have yy_6 := yy_5.alloc (.cells #[.int .i64 ya, .int .i64 yr, .slice A7 n5 c7, .slice A8 n6 c8] 49)
                  have zyy_6 : _ ≤ (w_5.alloc (.cells #[.int .i64 ya, .int .i64 yr, .slice A7 n5 c7, .slice A8 n6 c8] 49)).heap.size := Nat.le_trans zyy_5 (by simp)
                  have hx_6 := o3.alloc (.cells #[.int .i64 ya, .int .i64 yr, .slice A7 n5 c7, .slice A8 n6 c8] 49)
                  have zhx_6 : _ ≤ (w_5.alloc (.cells #[.int .i64 ya, .int .i64 yr, .slice A7 n5 c7, .slice A8 n6 c8] 49)).heap.size := Nat.le_trans zhx_5 (by simp)
                  have hy_6 := o4.alloc (.cells #[.int .i64 ya, .int .i64 yr, .slice A7 n5 c7, .slice A8 n6 c8] 49)
                  have zhy_6 : _ ≤ (w_5.alloc (.cells #[.int .i64 ya, .int .i64 yr, .slice A7 n5 c7, .slice A8 n6 c8] 49)).heap.size := Nat.le_trans zhy_5 (by simp)
                  have kh_6 := hide (Blk.new w_5 49 #[.int .i64 ya, .int .i64 yr, .slice A7 n5 c7, .slice A8 n6 c8])
                  clear hb_5 sj_5 yy_5 zyy_5 o3 zhx_5 o4 zhy_5
                  go_wp2_with fail
                  refine (law6_num _ _).mono ?_
                  rintro e w' ⟨rfl, rfl⟩
                  have f0 : (w_5.alloc (.cells #[.int .i64 ya, .int .i64 yr, .slice A7 n5 c7, .slice A8 n6 c8] 49)).cell? ⟨w_5.heap.size, 0, none⟩ = some (.int .i64 ya) := kh_6.out.at_ rfl
                  have f1 : (w_5.alloc (.cells #[.int .i64 ya, .int .i64 yr, .slice A7 n5 c7, .slice A8 n6 c8] 49)).cell? ⟨w_5.heap.size, 1, none⟩ = some (.int .i64 yr) := kh_6.out.at_ rfl
                  have f2 : (w_5.alloc (.cells #[.int .i64 ya, .int .i64 yr, .slice A7 n5 c7, .slice A8 n6 c8] 49)).cell? ⟨w_5.heap.size, 2, none⟩ = some (.slice A7 n5 c7) := kh_6.out.at_ rfl
                  have f3 : (w_5.alloc (.cells #[.int .i64 ya, .int .i64 yr, .slice A7 n5 c7, .slice A8 n6 c8] 49)).cell? ⟨w_5.heap.size, 3, none⟩ = some (.slice A8 n6 c8) := kh_6.out.at_ rfl
                  go_wp2_with fail
                  refine (header_Bytes_yes (c1 := c7) (c2 := c8) ⟨ya, yr, ybs, yps⟩ _ (Sl.of_own hx_6) (Sl.of_own hy_6) HM2).mono ?_
                  rintro e w_7 ⟨v5, rfl, o5, hb_7'⟩
                  have hb_7 := below_then hb_6 hb_7'
                  have zbw_7 := hb_7'.size
                  have ybw := hb_6.size
                  have sj_7 := sj_6.below hb_7'
                  have yy_7 := own_later yy_6 hb_7'
                  have zyy_7 := Nat.le_trans zyy_6 hb_7'.size
                  have hx_7 := own_later hx_6 hb_7'
                  have zhx_7 := Nat.le_trans zhx_6 hb_7'.size
                  have hy_7 := own_later hy_6 hb_7'
                  have zhy_7 := Nat.le_trans zhy_6 hb_7'.size
                  have kh_7 := hide (kh_6.out.later hb_7')
                  rw [← HBB.out, HBL2.out] at o5
                  obtain ⟨A9, c9, rfl⟩ := own_slice o5
                  clear hb_7' sj_6 yy_6 zyy_6 hx_6 zhx_6 hy_6 zhy_6 kh_6 hb_6
                  have HEY : Hid ((bs' == bs') = true) := by simp [Hid]
                  have cHC0_7 := cell_later hb_7 HC0.out
                  have cHC1_7 := cell_later hb_7 HC1.out
                  have cHC2_7 := cell_later hb_7 HC2.out
                  have cHC3_7 := cell_later hb_7 HC3.out
                  go_wp2_with fail
                  have fq0 : ∀ n : Wd w_7, n.w.cell? ⟨b, off + k * 8, none⟩ = some (.int .i64 a) := Wd.cell (cell_later hb_7 HC0.out)
                  have fq1 : ∀ n : Wd w_7, n.w.cell? ⟨b, off + k * 8 + 1, none⟩ = some (.int .i64 r) := Wd.cell (cell_later hb_7 HC1.out)
                  have fq2 : ∀ n : Wd w_7, n.w.cell? ⟨b, off + k * 8 + 2, none⟩ = some (.slice A1 n1 c1) := Wd.cell (cell_later hb_7 HC2.out)
                  have fq3 : ∀ n : Wd w_7, n.w.cell? ⟨b, off + k * 8 + 3, none⟩ = some (.slice A2 n2 c2) := Wd.cell (cell_later hb_7 HC3.out)
                  have fq4 : ∀ n : Wd w_7, n.w.cell? ⟨w_5.heap.size, 0, none⟩ = some (.int .i64 ya) := Wd.cell (kh_7.out.at_ rfl)
                  have fq5 : ∀ n : Wd w_7, n.w.cell? ⟨w_5.heap.size, 1, none⟩ = some (.int .i64 yr) := Wd.cell (kh_7.out.at_ rfl)
                  have fq6 : ∀ n : Wd w_7, n.w.cell? ⟨w_5.heap.size, 2, none⟩ = some (.slice A7 n5 c7) := Wd.cell (kh_7.out.at_ rfl)
                  have fq7 : ∀ n : Wd w_7, n.w.cell? ⟨w_5.heap.size, 3, none⟩ = some (.slice A8 n6 c8) := Wd.cell (kh_7.out.at_ rfl)
                  refine wp_region_wd (by kernel_rfl) (by kernel_rfl) ?_
                  repeat (go_big_quiet_step (first
                    | (go_at_call 30; exact wd_same (law6_num _ _))
                    | (go_at_call 19; exact wd_call (eqBytes_b _ ((Sl.of_own o5).below (Wd.below _)) (by omega) ((Sl.of_own yy_7).below (Wd.below _)) (by omega) HEY))
                    | (go_at_call 35; exact wd_call (ref0_EqHeader (c1 := c7) (c2 := c8) (d1 := c1) (d2 := c2) ⟨ya, yr, ybs, yps⟩ ⟨a, r, bs, ps⟩ _ ((Sl.of_own hx_7).below (Wd.below _)) ((Sl.of_own hy_7).below (Wd.below _)) (HS1.out.below (below_then hb_7 (Wd.below _))) (HS2.out.below (below_then hb_7 (Wd.below _))) (by omega) (by omega) (by omega) (by omega) HE))
                    | fail))
                  refine wpQuiet_nil (wd_end fun w_8 hb_8' => ?_)
                  clear fq0 fq1 fq2 fq3 fq4 fq5 fq6 fq7
                  have hb_8 := below_then hb_7 hb_8'
                  have sj_8 := sj_7.below hb_8'
                  have yy_8 := own_later yy_7 hb_8'
                  have zyy_8 := Nat.le_trans zyy_7 hb_8'.size
                  have hx_8 := own_later hx_7 hb_8'
                  have zhx_8 := Nat.le_trans zhx_7 hb_8'.size
                  have hy_8 := own_later hy_7 hb_8'
                  have zhy_8 := Nat.le_trans zhy_7 hb_8'.size
                  have bw_8 := own_later o5 hb_8'
                  have zbw_8 := Nat.le_trans zbw_7 hb_8'.size
                  have kh_8 := hide (kh_7.out.later hb_8')
                  have cHC0_8 := cell_later hb_8 HC0.out
                  have cHC1_8 := cell_later hb_8 HC1.out
                  have cHC2_8 := cell_later hb_8 HC2.out
                  have cHC3_8 := cell_later hb_8 HC3.out
                  clear hb_8' sj_7 yy_7 zyy_7 hx_7 zhx_7 hy_7 zhy_7 o5 zbw_7 kh_7 cHC0_7 cHC1_7 cHC2_7 cHC3_7 hb_7
                  clear bw_8 zbw_8 yy_8 zyy_8 kh_8 hx_8 zhx_8 hy_8 zhy_8
                  go_wp2_with fail
                  go_roundw
                  case rel => exact ⟨j + 1, by go_num, by omega, hb_8, sj_8⟩
                  case measure => simp [intOf]; omega
              · go_wp2_with fail
                go_roundw
                case rel => exact ⟨k + 1, by omega, by go_num, hb_3⟩
                case measure => simp [intOf]; omega
      · go_wp2_with fail
        refine (law6_wakes _).mono ?_
        rintro e w1 ⟨rfl, hb1⟩
        go_wp2_with fail
        go_ret
        exact ⟨rfl, below_then hb_0 hb1⟩
    · go_wp2_with fail
      refine (law6_wakes _).mono ?_
      rintro e w1 ⟨rfl, hb1⟩
      go_wp2_with fail
      go_ret
      exact ⟨rfl, below_then hb_0 hb1⟩
end Go.Proofs.Ytihpmaifcebpiaa
