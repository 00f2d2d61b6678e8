/-
  The walk of WireBack: whatever the list of records, the call answers true and changes nothing that was there.
-/
import Derived.Test.YtflamhndmggiaaaW2
import Derived.Deep.RegionHeld3
namespace Go.Proofs.Ytflamhndmggiaaa
open Go.RowKit

set_option maxRecDepth 100000 in
set_option maxHeartbeats 4000000 in
theorem walk_WireBack {v : Value} {w : World} (ho : ∃ A n c, v = .slice A n c ∧ Asks2 w A n) :
    Calls Try.prog 13 #[v] w fun r w' => r = .returned (.bool true) ∧ Below w.heap.size w w' := by
  obtain ⟨A, n, c, rfl, hn, h⟩ := ho
  obtain ⟨i0, hi, hz0, hz1, hz2⟩ := info_parts Try.infoByte
  go_enter Try.func13, Try.ntmps13
  go_wp2_with fail
  go_loopw [3] (fun i wr => ∃ k : Nat, k ≤ n ∧ i = .int .i64 k ∧ Below w.heap.size w wr) (fun i _ => n - (intOf i).toNat)
  case atStart => exact ⟨0, Nat.zero_le _, rfl, Below.refl _ _⟩
  case round =>
    obtain ⟨k, hk, rfl, hb⟩ := hrel
    obtain ⟨wo, rfl⟩ : ∃ wo : World, wo = wr := ⟨_, rfl⟩
    by_cases hlt : k < n
    · obtain ⟨b, off, rfl, hc⟩ := h (by omega)
      obtain ⟨N, A1, n1, c1, ls, A2, n2, c2, xs, A3, n3, c3, bs, C0, C1, C2, C3, ⟨hN1, hN2⟩, ⟨S1, hn1, hz⟩, ⟨S2, hn2, hzz⟩, ⟨S3, hn3, hcc3, hcm3⟩⟩ := hc k hlt
      have e0 := cell_later hb C0
      have e1 := cell_later hb C1
      have e2 := cell_later hb C2
      have e3 := cell_later hb C3
      have HC0 := hide C0
      have HC1 := hide C1
      have HC2 := hide C2
      have HC3 := hide C3
      have HS1 := hide S1
      have HS2 := hide S2
      have HS3 := hide S3
      have HZ := hide hz
      have HZZ := hide hzz
      obtain ⟨T, ht⟩ : ∃ T, twGo ls n1 = T := ⟨_, rfl⟩
      have HT := hide ht
      have HSL := hide S1.slen
      have HXL := hide S2.ilen
      have HBL := hide S3.blen
      clear C0 C1 C2 C3 S1 S2 S3 hz hzz ht h hc
      by_cases hm : k < 12
      · cases hv : heavy2 T n3 n2
        case true =>
          go_wp2_with fail
          refine (law2_heavy _ (HS1.out.below hb) hn1 HZ.out HT.out (by omega) (by omega)).mono ?_
          rintro e w1 ⟨rfl, hb1'⟩
          rw [hv]
          go_wp2_with fail
          go_ret
          exact ⟨rfl, below_then hb hb1'⟩
        case false =>
          obtain ⟨hT, hn3', hn2'⟩ := heavy2_false hv
          have hts := twGo_small ls n1 (by rw [HT.out]; exact hT)
          have HP8 : Hid ((putB ls).length ≤ 80009) := putB_small (by rw [HSL.out]; exact hts)
          have HPB : Hid ((putB ls).length ≤ 1048576) := by have := HP8.out; rw [Hid]; omega
          have HN8 : Hid ((numsB xs).length ≤ 4509) := numsB_small (by rw [HXL.out]; exact hn2') (fun x hx => (HZZ.out x hx).2)
          have HNB : Hid ((numsB xs).length ≤ 1048576) := by have := HN8.out; rw [Hid]; omega
          have hn1' : n1 ≤ 8000 := by omega
          obtain ⟨L, HLL⟩ : ∃ L, Hid ((putB ls).length = L) := ⟨_, rfl⟩
          have hL8 : L ≤ 80009 := by rw [← HLL.out]; exact HP8.out
          obtain ⟨M, HLM⟩ : ∃ M, Hid ((numsB xs).length = M) := ⟨_, rfl⟩
          have hM8 : M ≤ 4509 := by rw [← HLM.out]; exact HN8.out
          clear hts
          go_wp2_with fail
          refine (law2_heavy _ (HS1.out.below hb) hn1 HZ.out HT.out (by omega) (by omega)).mono ?_
          rintro e w1 ⟨rfl, hb1'⟩
          rw [hv]
          have hb_0 := below_then hb hb1'
          clear e0 e1 e2 e3 hb1' hb HT hv hT
          have HDT : Hid (∀ s ∈ ls, s.size ≤ 9223372036854775807) := fun s hs => by have := HZ.out s hs; omega
          have HGT : Hid (getT (putB ls) = some ls) := getL_there codecT HDT.out HPB.out
          have HGT0 : Hid (getT (putB ls ++ [0]) = none) := getL_behind codecT HDT.out HPB.out (by simp)
          have HGTk : Hid (∀ j, j < L → getT ((putB ls).take j) = none) := fun j hj => getL_begin codecT HDT.out HPB.out (by rw [show (putL encT ls).length = L from HLL.out]; exact hj)
          have cHC1_0 := cell_later hb_0 HC1.out
          go_wp2_with fail
          refine (wire_Put _ (HS1.out.below hb_0) (by omega) HPB.out).mono ?_
          rintro e w_1 ⟨v1, rfl, o1, hb_1'⟩
          have hb_1 := below_then hb_0 hb_1'
          have zb__1 := hb_1'.size
          have yb_ := hb_0.size
          have cHC1_1 := cell_later hb_1 HC1.out
          rw [HLL.out] at o1
          obtain ⟨A5, c5, rfl, hc5, hc5m⟩ := own_slice_cap o1
          unfold maxLen at hc5m
          clear hb_1' cHC1_0 hb_0
          go_wp2_with fail
          refine (wire_Get_yes _ (Sl.of_own o1) hc5 hc5m HGT.out).mono ?_
          rintro e w_2 ⟨v2, rfl, o2, hb_2'⟩
          have hb_2 := below_then hb_1 hb_2'
          have zx_2 := hb_2'.size
          have yx := hb_1.size
          have b__2 := own_later o1 hb_2'
          have zb__2 := Nat.le_trans zb__1 hb_2'.size
          have cHC1_2 := cell_later hb_2 HC1.out
          rw [HSL.out] at o2
          obtain ⟨A6, c6, rfl⟩ := own_slice o2
          clear hb_2' o1 zb__1 cHC1_1 hb_1
          go_wp2_with fail
          refine (ref0_CopyBytes _ _ _ _ _ (Sl.of_own b__2) (by omega) (by omega)).mono ?_
          rintro e w_3 ⟨v3, rfl, cp_3, hb_3'⟩
          have zz_3 := hb_3'.size
          obtain ⟨Ac3, cc3, rfl⟩ := own_slice cp_3
          go_wp2_with (at_builtin; refine wpList_append_own _ rfl _ _ 28 rfl _ 5 i0 (.int .u8 0) 1 1 Try.underlying28 hi hz0 hz1 hz2 rfl (by decide) _ _ _ rfl (cp_3.alloc _) ⟨w_3.heap.size, 0, none⟩ 1 1 [.int .u8 0] rfl rfl (news_one _ _ _) (one_int _ _) (by unfold maxLen; omega) (by omega) (by simp; omega) ?_)
          intro v4 w_4 o4 hg4 _
          have hb_4' := (hb_3'.alloc hb_3'.size _).grown hg4 (by simp; omega) (fun g hg' => (cp_3.lt g hg').1)
          clear hg4 cp_3 hb_3' zz_3
          have hb_4 := below_then hb_2 hb_4'
          have zbz_4 := hb_4'.size
          have ybz := hb_2.size
          have b__4 := own_later b__2 hb_4'
          have zb__4 := Nat.le_trans zb__2 hb_4'.size
          have x_4 := own_later o2 hb_4'
          have zx_4 := Nat.le_trans zx_2 hb_4'.size
          have cHC1_4 := cell_later hb_4 HC1.out
          clear hb_4' b__2 zb__2 o2 zx_2 cHC1_2 hb_2
          have ob := o4
          rw [show bytes8 (putB ls) ++ [Value.int .u8 0] = bytes8 (putB ls ++ [0]) by simp [bytes8]] at ob
          obtain ⟨A7, c7, rfl, hc7, hc7m⟩ := own_slice_cap ob
          unfold maxLen at hc7m
          clear o4
          go_wp2_with fail
          refine (wire_Get_no _ (Sl.of_own ob) hc7 hc7m HGT0.out).mono ?_
          rintro e w_5 ⟨rfl, hb_5'⟩
          have hb_5 := below_then hb_4 hb_5'
          have b__5 := own_later b__4 hb_5'
          have zb__5 := Nat.le_trans zb__4 hb_5'.size
          have x_5 := own_later x_4 hb_5'
          have zx_5 := Nat.le_trans zx_4 hb_5'.size
          have bz_5 := own_later ob hb_5'
          have zbz_5 := Nat.le_trans zbz_4 hb_5'.size
          have cHC1_5 := cell_later hb_5 HC1.out
          clear hb_5' b__4 zb__4 x_4 zx_4 ob zbz_4 cHC1_4 hb_4
          clear bz_5 zbz_5
          go_wp2_with fail
          refine (law2_num _ _).mono ?_
          rintro e w' ⟨rfl, rfl⟩
          go_wp2_with fail
          refine (law2_num _ _).mono ?_
          rintro e w' ⟨rfl, rfl⟩
          go_wp2_with fail
          refine (eqStrings_b _ (Sl.of_own x_5) (by omega) (HS1.out.below hb_5) (by omega) (eq_self ls)).mono ?_
          rintro e w_6 ⟨rfl, hb_6'⟩
          have hb_6 := below_then hb_5 hb_6'
          have b__6 := own_later b__5 hb_6'
          have zb__6 := Nat.le_trans zb__5 hb_6'.size
          have x_6 := own_later x_5 hb_6'
          have zx_6 := Nat.le_trans zx_5 hb_6'.size
          have cHC1_6 := cell_later hb_6 HC1.out
          clear hb_6' b__5 zb__5 x_5 zx_5 cHC1_5 hb_5
          clear x_6 zx_6 cHC1_6
          go_wp2_with fail
          refine (law2_num _ _).mono ?_
          rintro e w' ⟨rfl, rfl⟩
          have s5 := Sl.of_own b__6
          clear b__6 zb__6
          go_wp2_with fail
          go_loopw [10] (fun i wr => ∃ j : Nat, i = .int .i64 j ∧ j ≤ 200000 ∧ Below w.heap.size w wr ∧ Sl wr 1 A5 L (bytes8 (putB ls))) (fun i _ => 200000 - (intOf i).toNat)
          case atStart => exact ⟨0, rfl, by omega, hb_6, s5⟩
          case round =>
            obtain ⟨j, rfl, hj, hb_7, sj⟩ := hrel
            clear hb_6 s5
            obtain ⟨w_7, rfl⟩ : ∃ wo : World, wo = wr := ⟨_, rfl⟩
            by_cases hjL : j < L
            · have hg := hide (HGTk.out j hjL)
              have st := sj.take (k := j) (by omega)
              rw [take_bytes] at st
              go_wp2_with fail
              refine (wire_Get_no _ st (by omega) hc5m hg.out).mono ?_
              rintro e wz ⟨rfl, hbz'⟩
              have hbz := below_then hb_7 hbz'
              have sz := sj.below hbz'
              clear hbz' sj st hb_7
              go_wp2_with fail
              refine (law2_num _ _).mono ?_
              rintro e w' ⟨rfl, rfl⟩
              go_wp2_with fail
              go_roundw
              case rel => exact ⟨j + 1 + L / 20, by go_num, by omega, hbz, sz⟩
              case measure => simp [intOf]; omega
            · clear sj
              clear HGT HGT0 HGTk hc5 hc5m hc7 hc7m
              by_cases hneg : ∃ x ∈ xs, x < 0
              · have HNG := hide hneg
                have HX1 : Hid (∀ x ∈ xs, x ≤ 9223372036854775807) := fun x hx => (HZZ.out x hx).2
                clear hneg
                have cHC2_7 := cell_later hb_7 HC2.out
                go_wp2_with fail
                refine (wire_Nums_no _ (HS2.out.below hb_7) (by omega) HNG.out HX1.out).mono ?_
                rintro e w_8 ⟨rfl, hb_8'⟩
                have hb_8 := below_then hb_7 hb_8'
                have cHC2_8 := cell_later hb_8 HC2.out
                clear hb_8' cHC2_7 hb_7
                go_wp2_with fail
                refine (law2_num _ _).mono ?_
                rintro e w' ⟨rfl, rfl⟩
                go_wp2_with fail
                go_roundw
                case rel => exact ⟨k + 1, by omega, by go_num, hb_8⟩
                case measure => simp [intOf]; omega
              · have HXY : Hid (∀ x ∈ xs, 0 ≤ x ∧ x ≤ 9223372036854775807) := fun x hx => ⟨Int.not_lt.1 fun h => hneg ⟨x, hx, h⟩, (HZZ.out x hx).2⟩
                clear hneg
                have HGT : Hid (getI (numsB xs) = some xs) := getL_there codecI HXY.out HNB.out
                have HGT0 : Hid (getI (numsB xs ++ [0]) = none) := getL_behind codecI HXY.out HNB.out (by simp)
                have HGTk : Hid (∀ j, j < M → getI ((numsB xs).take j) = none) := fun j hj => getL_begin codecI HXY.out HNB.out (by rw [show (putL encI xs).length = M from HLM.out]; exact hj)
                have cHC2_7 := cell_later hb_7 HC2.out
                go_wp2_with fail
                refine (wire_Nums_yes _ (HS2.out.below hb_7) (by omega) HXY.out HNB.out).mono ?_
                rintro e w_8 ⟨v1, rfl, o1, hb_8'⟩
                have hb_8 := below_then hb_7 hb_8'
                have zb__8 := hb_8'.size
                have yb_ := hb_7.size
                have cHC2_8 := cell_later hb_8 HC2.out
                rw [HLM.out] at o1
                obtain ⟨A5, c5, rfl, hc5, hc5m⟩ := own_slice_cap o1
                unfold maxLen at hc5m
                clear hb_8' cHC2_7 hb_7
                go_wp2_with fail
                refine (law2_num _ _).mono ?_
                rintro e w' ⟨rfl, rfl⟩
                go_wp2_with fail
                refine (wire_GetNums_yes _ (Sl.of_own o1) hc5 hc5m HGT.out).mono ?_
                rintro e w_9 ⟨v2, rfl, o2, hb_9'⟩
                have hb_9 := below_then hb_8 hb_9'
                have zx_9 := hb_9'.size
                have yx := hb_8.size
                have b__9 := own_later o1 hb_9'
                have zb__9 := Nat.le_trans zb__8 hb_9'.size
                have cHC2_9 := cell_later hb_9 HC2.out
                rw [HXL.out] at o2
                obtain ⟨A6, c6, rfl⟩ := own_slice o2
                clear hb_9' o1 zb__8 cHC2_8 hb_8
                go_wp2_with fail
                refine (ref0_CopyBytes _ _ _ _ _ (Sl.of_own b__9) (by omega) (by omega)).mono ?_
                rintro e w_10 ⟨v10, rfl, cp_10, hb_10'⟩
                have zz_10 := hb_10'.size
                obtain ⟨Ac10, cc10, rfl⟩ := own_slice cp_10
                go_wp2_with (at_builtin; refine wpList_append_own _ rfl _ _ 28 rfl _ 5 i0 (.int .u8 0) 1 1 Try.underlying28 hi hz0 hz1 hz2 rfl (by decide) _ _ _ rfl (cp_10.alloc _) ⟨w_10.heap.size, 0, none⟩ 1 1 [.int .u8 0] rfl rfl (news_one _ _ _) (one_int _ _) (by unfold maxLen; omega) (by omega) (by simp; omega) ?_)
                intro v11 w_11 o11 hg11 _
                have hb_11' := (hb_10'.alloc hb_10'.size _).grown hg11 (by simp; omega) (fun g hg' => (cp_10.lt g hg').1)
                clear hg11 cp_10 hb_10' zz_10
                have hb_11 := below_then hb_9 hb_11'
                have zbz_11 := hb_11'.size
                have ybz := hb_9.size
                have b__11 := own_later b__9 hb_11'
                have zb__11 := Nat.le_trans zb__9 hb_11'.size
                have x_11 := own_later o2 hb_11'
                have zx_11 := Nat.le_trans zx_9 hb_11'.size
                have cHC2_11 := cell_later hb_11 HC2.out
                clear hb_11' b__9 zb__9 o2 zx_9 cHC2_9 hb_9
                have ob := o11
                rw [show bytes8 (numsB xs) ++ [Value.int .u8 0] = bytes8 (numsB xs ++ [0]) by simp [bytes8]] at ob
                obtain ⟨A7, c7, rfl, hc7, hc7m⟩ := own_slice_cap ob
                unfold maxLen at hc7m
                clear o11
                go_wp2_with fail
                refine (wire_GetNums_no _ (Sl.of_own ob) hc7 hc7m HGT0.out).mono ?_
                rintro e w_12 ⟨rfl, hb_12'⟩
                have hb_12 := below_then hb_11 hb_12'
                have b__12 := own_later b__11 hb_12'
                have zb__12 := Nat.le_trans zb__11 hb_12'.size
                have x_12 := own_later x_11 hb_12'
                have zx_12 := Nat.le_trans zx_11 hb_12'.size
                have bz_12 := own_later ob hb_12'
                have zbz_12 := Nat.le_trans zbz_11 hb_12'.size
                have cHC2_12 := cell_later hb_12 HC2.out
                clear hb_12' b__11 zb__11 x_11 zx_11 ob zbz_11 cHC2_11 hb_11
                clear bz_12 zbz_12
                go_wp2_with fail
                refine (law2_num _ _).mono ?_
                rintro e w' ⟨rfl, rfl⟩
                go_wp2_with fail
                refine (eqNumbers_b _ (Sl.of_own x_12) (by omega) (HS2.out.below hb_12) (by omega) (eq_self xs)).mono ?_
                rintro e w_13 ⟨rfl, hb_13'⟩
                have hb_13 := below_then hb_12 hb_13'
                have b__13 := own_later b__12 hb_13'
                have zb__13 := Nat.le_trans zb__12 hb_13'.size
                have x_13 := own_later x_12 hb_13'
                have zx_13 := Nat.le_trans zx_12 hb_13'.size
                have cHC2_13 := cell_later hb_13 HC2.out
                clear hb_13' b__12 zb__12 x_12 zx_12 cHC2_12 hb_12
                clear x_13 zx_13 cHC2_13
                go_wp2_with fail
                refine (law2_num _ _).mono ?_
                rintro e w' ⟨rfl, rfl⟩
                have s5 := Sl.of_own b__13
                clear b__13 zb__13
                go_wp2_with fail
                go_loopw [14] (fun i wr => ∃ j : Nat, i = .int .i64 j ∧ j ≤ 200000 ∧ Below w.heap.size w wr ∧ Sl wr 1 A5 M (bytes8 (numsB xs))) (fun i _ => 200000 - (intOf i).toNat)
                case atStart => exact ⟨0, rfl, by omega, hb_13, s5⟩
                case round =>
                  obtain ⟨j, rfl, hj, hb_14, sj⟩ := hrel
                  clear hb_13 s5
                  obtain ⟨w_14, rfl⟩ : ∃ wo : World, wo = wr := ⟨_, rfl⟩
                  by_cases hjL : j < M
                  · have hg := hide (HGTk.out j hjL)
                    have st := sj.take (k := j) (by omega)
                    rw [take_bytes] at st
                    go_wp2_with fail
                    refine (wire_GetNums_no _ st (by omega) hc5m hg.out).mono ?_
                    rintro e wz ⟨rfl, hbz'⟩
                    have hbz := below_then hb_14 hbz'
                    have sz := sj.below hbz'
                    clear hbz' sj st hb_14
                    go_wp2_with fail
                    refine (law2_num _ _).mono ?_
                    rintro e w' ⟨rfl, rfl⟩
                    go_wp2_with fail
                    go_roundw
                    case rel => exact ⟨j + 1 + M / 20, by go_num, by omega, hbz, sz⟩
                    case measure => simp [intOf]; omega
                  · clear sj
                    go_wp2_with fail
                    go_roundw
                    case rel => exact ⟨k + 1, by omega, by go_num, hb_14⟩
                    case measure => simp [intOf]; omega
      · go_wp2_with fail
        refine (law2_wakes _).mono ?_
        rintro e w1 ⟨rfl, hb1⟩
        go_wp2_with fail
        go_ret
        exact ⟨rfl, below_then hb hb1⟩
    · go_wp2_with fail
      refine (law2_wakes _).mono ?_
      rintro e w1 ⟨rfl, hb1⟩
      go_wp2_with fail
      go_ret
      exact ⟨rfl, below_then hb hb1⟩
end Go.Proofs.Ytflamhndmggiaaa
