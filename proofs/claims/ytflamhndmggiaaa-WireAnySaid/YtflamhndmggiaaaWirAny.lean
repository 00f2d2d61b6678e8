/-
  The walk of WireAny: whatever the list of records, the call answers true and changes nothing that was there.
-/
import Derived.Test.YtflamhndmggiaaaW2
namespace Go.Proofs.Ytflamhndmggiaaa
open Go.RowKit

set_option maxRecDepth 100000 in
set_option maxHeartbeats 4000000 in
theorem walk_WireAny {v : Value} {w : World} (ho : ∃ A n c, v = .slice A n c ∧ Asks2 w A n) :
    Calls Try.prog 14 #[v] w fun r w' => r = .returned (.bool true) ∧ Below w.heap.size w w' := by
  obtain ⟨A, n, c, rfl, hn, h⟩ := ho
  obtain ⟨i0, hi, hz0, hz1, hz2⟩ := info_parts Try.infoByte
  go_enter Try.func14, Try.ntmps14
  go_wp2_with fail
  go_loopw [3] (fun i wr => ∃ k : Nat, k ≤ n ∧ i = .int .i64 k ∧ Below w.heap.size w wr) (fun i _ => n - (intOf i).toNat)
  case atStart => exact ⟨0, Nat.zero_le _, rfl, Below.refl _ _⟩
  case round =>
    obtain ⟨k, hk, rfl, hb⟩ := hrel
    obtain ⟨wo, rfl⟩ : ∃ wo : World, wo = wr := ⟨_, rfl⟩
    by_cases hlt : k < n
    · obtain ⟨b, off, rfl, hc⟩ := h (by omega)
      obtain ⟨N, A1, n1, c1, ls, A2, n2, c2, xs, A3, n3, c3, bs, C0, C1, C2, C3, ⟨hN1, hN2⟩, ⟨S1, hn1, hz⟩, ⟨S2, hn2, hzz⟩, ⟨S3, hn3, hcc3, hcm3⟩⟩ := hc k hlt
      have e0 := cell_later hb C0
      have e1 := cell_later hb C1
      have e2 := cell_later hb C2
      have e3 := cell_later hb C3
      have HC0 := hide C0
      have HC1 := hide C1
      have HC2 := hide C2
      have HC3 := hide C3
      have HS1 := hide S1
      have HS2 := hide S2
      have HS3 := hide S3
      have HZ := hide hz
      have HZZ := hide hzz
      obtain ⟨T, ht⟩ : ∃ T, twGo ls n1 = T := ⟨_, rfl⟩
      have HT := hide ht
      have HSL := hide S1.slen
      have HXL := hide S2.ilen
      have HBL := hide S3.blen
      clear C0 C1 C2 C3 S1 S2 S3 hz hzz ht h hc
      by_cases hm : k < 12
      · cases hv : heavy2 T n3 n2
        case true =>
          go_wp2_with fail
          refine (law2_heavy _ (HS1.out.below hb) hn1 HZ.out HT.out (by omega) (by omega)).mono ?_
          rintro e w1 ⟨rfl, hb1'⟩
          rw [hv]
          go_wp2_with fail
          go_ret
          exact ⟨rfl, below_then hb hb1'⟩
        case false =>
          obtain ⟨hT, hn3', hn2'⟩ := heavy2_false hv
          have hts := twGo_small ls n1 (by rw [HT.out]; exact hT)
          have HP8 : Hid ((putB ls).length ≤ 80009) := putB_small (by rw [HSL.out]; exact hts)
          have HPB : Hid ((putB ls).length ≤ 1048576) := by have := HP8.out; rw [Hid]; omega
          have HN8 : Hid ((numsB xs).length ≤ 4509) := numsB_small (by rw [HXL.out]; exact hn2') (fun x hx => (HZZ.out x hx).2)
          have HNB : Hid ((numsB xs).length ≤ 1048576) := by have := HN8.out; rw [Hid]; omega
          have hn1' : n1 ≤ 8000 := by omega
          obtain ⟨L, HLL⟩ : ∃ L, Hid ((putB ls).length = L) := ⟨_, rfl⟩
          have hL8 : L ≤ 80009 := by rw [← HLL.out]; exact HP8.out
          obtain ⟨M, HLM⟩ : ∃ M, Hid ((numsB xs).length = M) := ⟨_, rfl⟩
          have hM8 : M ≤ 4509 := by rw [← HLM.out]; exact HN8.out
          clear hts
          go_wp2_with fail
          refine (law2_heavy _ (HS1.out.below hb) hn1 HZ.out HT.out (by omega) (by omega)).mono ?_
          rintro e w1 ⟨rfl, hb1'⟩
          rw [hv]
          have hb_0 := below_then hb hb1'
          clear e0 e1 e2 e3 hb1' hb HT hv hT
          have cHC3_0 := cell_later hb_0 HC3.out
          cases hg : getT bs with
          | none =>
            have HG := hide hg
            clear hg
            go_wp2_with fail
            refine (wire_Get_no _ (HS3.out.below hb_0) hcc3 hcm3 HG.out).mono ?_
            rintro e w_1 ⟨rfl, hb_1'⟩
            have hb_1 := below_then hb_0 hb_1'
            have cHC3_1 := cell_later hb_1 HC3.out
            clear hb_1' cHC3_0 hb_0
            go_wp2_with fail
            refine (law2_num _ _).mono ?_
            rintro e w' ⟨rfl, rfl⟩
            cases hg2 : getI bs with
            | none =>
              have HG2 := hide hg2
              clear hg2
              go_wp2_with fail
              refine (wire_GetNums_no _ (HS3.out.below hb_1) hcc3 hcm3 HG2.out).mono ?_
              rintro e w_2 ⟨rfl, hb_2'⟩
              have hb_2 := below_then hb_1 hb_2'
              have cHC3_2 := cell_later hb_2 HC3.out
              clear hb_2' cHC3_1 hb_1
              go_wp2_with fail
              refine (law2_num _ _).mono ?_
              rintro e w' ⟨rfl, rfl⟩
              cases hg3 : getN bs with
              | none =>
                have HG3 := hide hg3
                clear hg3
                go_wp2_with fail
                refine (wire_GetNum_no _ (HS3.out.below hb_2) (by omega) HG3.out).mono ?_
                rintro e w' ⟨rfl, rfl⟩
                go_wp2_with fail
                refine (law2_num _ _).mono ?_
                rintro e w' ⟨rfl, rfl⟩
                go_wp2_with fail
                go_wp2_with fail
                go_roundw
                case rel => exact ⟨k + 1, by omega, by go_num, hb_2⟩
                case measure => simp [intOf]; omega
              | some p3 =>
                obtain ⟨m, kk⟩ := p3
                have HG3 := hide hg3
                have hm9 : m ≤ 9223372036854775807 := (getN_some hg3).1
                have HK : Hid ((enc m).length = kk) := (getN_some hg3).2.1.symm
                have hkn : kk ≤ n3 := by rw [← HBL.out]; exact (getN_some hg3).2.2.2.2
                have HE3 : Hid ((enc m == bs.take kk) = true) := by
                  have h1 := (getN_some hg3).2.2.1
                  have h2 : bs.take kk = enc m := by rw [h1, List.take_left' HK.out]
                  rw [h2]; exact beq_self _
                have hkc : kk ≤ c3 := by omega
                clear hg3
                go_wp2_with fail
                refine (wire_GetNum_yes _ (HS3.out.below hb_2) (by omega) HG3.out).mono ?_
                rintro e w' ⟨rfl, rfl⟩
                go_wp2_with fail
                refine (law2_num _ _).mono ?_
                rintro e w' ⟨rfl, rfl⟩
                go_wp2_with fail
                refine (wire_Num_yes m _ hm9).mono ?_
                rintro e w_3 ⟨v5, rfl, o5, hb_3'⟩
                have hb_3 := below_then hb_2 hb_3'
                have znb_3 := hb_3'.size
                have ynb := hb_2.size
                have cHC3_3 := cell_later hb_3 HC3.out
                rw [HK.out] at o5
                obtain ⟨A8, c8, rfl⟩ := own_slice o5
                clear hb_3' cHC3_2 hb_2
                go_wp2_with fail
                refine (law2_num _ _).mono ?_
                rintro e w' ⟨rfl, rfl⟩
                go_wp2_with fail
                have st := (HS3.out.below hb_3).take (k := kk) hkn
                rw [take_bytes] at st
                refine (eqBytes_b _ (Sl.of_own o5) (by omega) st (by omega) HE3).mono ?_
                rintro e w_4 ⟨rfl, hb_4'⟩
                have hb_4 := below_then hb_3 hb_4'
                have nb_4 := own_later o5 hb_4'
                have znb_4 := Nat.le_trans znb_3 hb_4'.size
                have cHC3_4 := cell_later hb_4 HC3.out
                clear st
                clear hb_4' o5 znb_3 cHC3_3 hb_3
                go_wp2_with fail
                go_wp2_with fail
                go_roundw
                case rel => exact ⟨k + 1, by omega, by go_num, hb_4⟩
                case measure => simp [intOf]; omega
            | some xs2 =>
              have HG2 := hide hg2
              have HX2 : Hid (∀ x ∈ xs2, 0 ≤ x ∧ x ≤ 9223372036854775807) := (getL_back codecI hg2).2.2
              have HB2 : Hid (numsB xs2 = bs) := (getL_back codecI hg2).1.symm
              have HBX : Hid ((numsB xs2).length ≤ 1048576) := by rw [Hid, HB2.out, HBL.out]; omega
              have hlen2 : xs2.length ≤ 8000 := by
                have h2 := put_count (e := encI) codecI.pos xs2
                rw [putL_I, HB2.out, HBL.out] at h2
                omega
              obtain ⟨L2, HL2⟩ : ∃ L2, Hid (xs2.length = L2) := ⟨_, rfl⟩
              rw [HL2.out] at hlen2
              clear hg2
              go_wp2_with fail
              refine (wire_GetNums_yes _ (HS3.out.below hb_1) hcc3 hcm3 HG2.out).mono ?_
              rintro e w_2 ⟨v9, rfl, o9, hb_2'⟩
              have hb_2 := below_then hb_1 hb_2'
              have zy_2 := hb_2'.size
              have yy := hb_1.size
              have cHC3_2 := cell_later hb_2 HC3.out
              rw [HL2.out] at o9
              obtain ⟨A9, c9, rfl⟩ := own_slice o9
              clear hb_2' cHC3_1 hb_1
              go_wp2_with fail
              refine (law2_num _ _).mono ?_
              rintro e w' ⟨rfl, rfl⟩
              go_wp2_with fail
              refine (wire_Nums_yes _ (Sl.of_own o9) (by omega) HX2.out HBX.out).mono ?_
              rintro e w_3 ⟨v10, rfl, o10, hb_3'⟩
              have hb_3 := below_then hb_2 hb_3'
              have zyb_3 := hb_3'.size
              have yyb := hb_2.size
              have y_3 := own_later o9 hb_3'
              have zy_3 := Nat.le_trans zy_2 hb_3'.size
              have cHC3_3 := cell_later hb_3 HC3.out
              rw [HB2.out, HBL.out] at o10
              obtain ⟨A10, c10, rfl⟩ := own_slice o10
              clear hb_3' o9 zy_2 cHC3_2 hb_2
              go_wp2_with fail
              refine (law2_num _ _).mono ?_
              rintro e w' ⟨rfl, rfl⟩
              go_wp2_with fail
              refine (eqBytes_b _ (Sl.of_own o10) (by omega) (HS3.out.below hb_3) (by omega) (beq_self _)).mono ?_
              rintro e w_4 ⟨rfl, hb_4'⟩
              have hb_4 := below_then hb_3 hb_4'
              have y_4 := own_later y_3 hb_4'
              have zy_4 := Nat.le_trans zy_3 hb_4'.size
              have yb_4 := own_later o10 hb_4'
              have zyb_4 := Nat.le_trans zyb_3 hb_4'.size
              have cHC3_4 := cell_later hb_4 HC3.out
              clear hb_4' y_3 zy_3 o10 zyb_3 cHC3_3 hb_3
              clear y_4 zy_4 yb_4 zyb_4
              go_wp2_with fail
              cases hg3 : getN bs with
              | none =>
                have HG3 := hide hg3
                clear hg3
                go_wp2_with fail
                refine (wire_GetNum_no _ (HS3.out.below hb_4) (by omega) HG3.out).mono ?_
                rintro e w' ⟨rfl, rfl⟩
                go_wp2_with fail
                refine (law2_num _ _).mono ?_
                rintro e w' ⟨rfl, rfl⟩
                go_wp2_with fail
                go_wp2_with fail
                go_roundw
                case rel => exact ⟨k + 1, by omega, by go_num, hb_4⟩
                case measure => simp [intOf]; omega
              | some p3 =>
                obtain ⟨m, kk⟩ := p3
                have HG3 := hide hg3
                have hm9 : m ≤ 9223372036854775807 := (getN_some hg3).1
                have HK : Hid ((enc m).length = kk) := (getN_some hg3).2.1.symm
                have hkn : kk ≤ n3 := by rw [← HBL.out]; exact (getN_some hg3).2.2.2.2
                have HE3 : Hid ((enc m == bs.take kk) = true) := by
                  have h1 := (getN_some hg3).2.2.1
                  have h2 : bs.take kk = enc m := by rw [h1, List.take_left' HK.out]
                  rw [h2]; exact beq_self _
                have hkc : kk ≤ c3 := by omega
                clear hg3
                go_wp2_with fail
                refine (wire_GetNum_yes _ (HS3.out.below hb_4) (by omega) HG3.out).mono ?_
                rintro e w' ⟨rfl, rfl⟩
                go_wp2_with fail
                refine (law2_num _ _).mono ?_
                rintro e w' ⟨rfl, rfl⟩
                go_wp2_with fail
                refine (wire_Num_yes m _ hm9).mono ?_
                rintro e w_5 ⟨v5, rfl, o5, hb_5'⟩
                have hb_5 := below_then hb_4 hb_5'
                have znb_5 := hb_5'.size
                have ynb := hb_4.size
                have cHC3_5 := cell_later hb_5 HC3.out
                rw [HK.out] at o5
                obtain ⟨A8, c8, rfl⟩ := own_slice o5
                clear hb_5' cHC3_4 hb_4
                go_wp2_with fail
                refine (law2_num _ _).mono ?_
                rintro e w' ⟨rfl, rfl⟩
                go_wp2_with fail
                have st := (HS3.out.below hb_5).take (k := kk) hkn
                rw [take_bytes] at st
                refine (eqBytes_b _ (Sl.of_own o5) (by omega) st (by omega) HE3).mono ?_
                rintro e w_6 ⟨rfl, hb_6'⟩
                have hb_6 := below_then hb_5 hb_6'
                have nb_6 := own_later o5 hb_6'
                have znb_6 := Nat.le_trans znb_5 hb_6'.size
                have cHC3_6 := cell_later hb_6 HC3.out
                clear st
                clear hb_6' o5 znb_5 cHC3_5 hb_5
                go_wp2_with fail
                go_wp2_with fail
                go_roundw
                case rel => exact ⟨k + 1, by omega, by go_num, hb_6⟩
                case measure => simp [intOf]; omega
          | some ls2 =>
            have HG := hide hg
            have HB1 : Hid (putB ls2 = bs) := (getL_back codecT hg).1.symm
            have HB1X : Hid ((putB ls2).length ≤ 1048576) := by rw [Hid, HB1.out, HBL.out]; omega
            have hlen1 : ls2.length ≤ 8000 := by
              have h2 := put_count (e := encT) codecT.pos ls2
              rw [putL_T, HB1.out, HBL.out] at h2
              omega
            obtain ⟨L1, HL1⟩ : ∃ L1, Hid (ls2.length = L1) := ⟨_, rfl⟩
            rw [HL1.out] at hlen1
            clear hg
            go_wp2_with fail
            refine (wire_Get_yes _ (HS3.out.below hb_0) hcc3 hcm3 HG.out).mono ?_
            rintro e w_1 ⟨v1, rfl, o1, hb_1'⟩
            have hb_1 := below_then hb_0 hb_1'
            have zx_1 := hb_1'.size
            have yx := hb_0.size
            have cHC3_1 := cell_later hb_1 HC3.out
            rw [HL1.out] at o1
            obtain ⟨A5, c5, rfl⟩ := own_slice o1
            clear hb_1' cHC3_0 hb_0
            go_wp2_with fail
            refine (law2_num _ _).mono ?_
            rintro e w' ⟨rfl, rfl⟩
            go_wp2_with fail
            refine (wire_Put _ (Sl.of_own o1) (by omega) HB1X.out).mono ?_
            rintro e w_2 ⟨v2, rfl, o2, hb_2'⟩
            have hb_2 := below_then hb_1 hb_2'
            have zxb_2 := hb_2'.size
            have yxb := hb_1.size
            have x_2 := own_later o1 hb_2'
            have zx_2 := Nat.le_trans zx_1 hb_2'.size
            have cHC3_2 := cell_later hb_2 HC3.out
            rw [HB1.out, HBL.out] at o2
            obtain ⟨A6, c6, rfl⟩ := own_slice o2
            clear hb_2' o1 zx_1 cHC3_1 hb_1
            go_wp2_with fail
            refine (law2_num _ _).mono ?_
            rintro e w' ⟨rfl, rfl⟩
            go_wp2_with fail
            refine (eqBytes_b _ (Sl.of_own o2) (by omega) (HS3.out.below hb_2) (by omega) (beq_self _)).mono ?_
            rintro e w_3 ⟨rfl, hb_3'⟩
            have hb_3 := below_then hb_2 hb_3'
            have x_3 := own_later x_2 hb_3'
            have zx_3 := Nat.le_trans zx_2 hb_3'.size
            have xb_3 := own_later o2 hb_3'
            have zxb_3 := Nat.le_trans zxb_2 hb_3'.size
            have cHC3_3 := cell_later hb_3 HC3.out
            clear hb_3' x_2 zx_2 o2 zxb_2 cHC3_2 hb_2
            clear x_3 zx_3 xb_3 zxb_3
            go_wp2_with fail
            cases hg2 : getI bs with
            | none =>
              have HG2 := hide hg2
              clear hg2
              go_wp2_with fail
              refine (wire_GetNums_no _ (HS3.out.below hb_3) hcc3 hcm3 HG2.out).mono ?_
              rintro e w_4 ⟨rfl, hb_4'⟩
              have hb_4 := below_then hb_3 hb_4'
              have cHC3_4 := cell_later hb_4 HC3.out
              clear hb_4' cHC3_3 hb_3
              go_wp2_with fail
              refine (law2_num _ _).mono ?_
              rintro e w' ⟨rfl, rfl⟩
              cases hg3 : getN bs with
              | none =>
                have HG3 := hide hg3
                clear hg3
                go_wp2_with fail
                refine (wire_GetNum_no _ (HS3.out.below hb_4) (by omega) HG3.out).mono ?_
                rintro e w' ⟨rfl, rfl⟩
                go_wp2_with fail
                refine (law2_num _ _).mono ?_
                rintro e w' ⟨rfl, rfl⟩
                go_wp2_with fail
                go_wp2_with fail
                go_roundw
                case rel => exact ⟨k + 1, by omega, by go_num, hb_4⟩
                case measure => simp [intOf]; omega
              | some p3 =>
                obtain ⟨m, kk⟩ := p3
                have HG3 := hide hg3
                have hm9 : m ≤ 9223372036854775807 := (getN_some hg3).1
                have HK : Hid ((enc m).length = kk) := (getN_some hg3).2.1.symm
                have hkn : kk ≤ n3 := by rw [← HBL.out]; exact (getN_some hg3).2.2.2.2
                have HE3 : Hid ((enc m == bs.take kk) = true) := by
                  have h1 := (getN_some hg3).2.2.1
                  have h2 : bs.take kk = enc m := by rw [h1, List.take_left' HK.out]
                  rw [h2]; exact beq_self _
                have hkc : kk ≤ c3 := by omega
                clear hg3
                go_wp2_with fail
                refine (wire_GetNum_yes _ (HS3.out.below hb_4) (by omega) HG3.out).mono ?_
                rintro e w' ⟨rfl, rfl⟩
                go_wp2_with fail
                refine (law2_num _ _).mono ?_
                rintro e w' ⟨rfl, rfl⟩
                go_wp2_with fail
                refine (wire_Num_yes m _ hm9).mono ?_
                rintro e w_5 ⟨v5, rfl, o5, hb_5'⟩
                have hb_5 := below_then hb_4 hb_5'
                have znb_5 := hb_5'.size
                have ynb := hb_4.size
                have cHC3_5 := cell_later hb_5 HC3.out
                rw [HK.out] at o5
                obtain ⟨A8, c8, rfl⟩ := own_slice o5
                clear hb_5' cHC3_4 hb_4
                go_wp2_with fail
                refine (law2_num _ _).mono ?_
                rintro e w' ⟨rfl, rfl⟩
                go_wp2_with fail
                have st := (HS3.out.below hb_5).take (k := kk) hkn
                rw [take_bytes] at st
                refine (eqBytes_b _ (Sl.of_own o5) (by omega) st (by omega) HE3).mono ?_
                rintro e w_6 ⟨rfl, hb_6'⟩
                have hb_6 := below_then hb_5 hb_6'
                have nb_6 := own_later o5 hb_6'
                have znb_6 := Nat.le_trans znb_5 hb_6'.size
                have cHC3_6 := cell_later hb_6 HC3.out
                clear st
                clear hb_6' o5 znb_5 cHC3_5 hb_5
                go_wp2_with fail
                go_wp2_with fail
                go_roundw
                case rel => exact ⟨k + 1, by omega, by go_num, hb_6⟩
                case measure => simp [intOf]; omega
            | some xs2 =>
              have HG2 := hide hg2
              have HX2 : Hid (∀ x ∈ xs2, 0 ≤ x ∧ x ≤ 9223372036854775807) := (getL_back codecI hg2).2.2
              have HB2 : Hid (numsB xs2 = bs) := (getL_back codecI hg2).1.symm
              have HBX : Hid ((numsB xs2).length ≤ 1048576) := by rw [Hid, HB2.out, HBL.out]; omega
              have hlen2 : xs2.length ≤ 8000 := by
                have h2 := put_count (e := encI) codecI.pos xs2
                rw [putL_I, HB2.out, HBL.out] at h2
                omega
              obtain ⟨L2, HL2⟩ : ∃ L2, Hid (xs2.length = L2) := ⟨_, rfl⟩
              rw [HL2.out] at hlen2
              clear hg2
              go_wp2_with fail
              refine (wire_GetNums_yes _ (HS3.out.below hb_3) hcc3 hcm3 HG2.out).mono ?_
              rintro e w_4 ⟨v9, rfl, o9, hb_4'⟩
              have hb_4 := below_then hb_3 hb_4'
              have zy_4 := hb_4'.size
              have yy := hb_3.size
              have cHC3_4 := cell_later hb_4 HC3.out
              rw [HL2.out] at o9
              obtain ⟨A9, c9, rfl⟩ := own_slice o9
              clear hb_4' cHC3_3 hb_3
              go_wp2_with fail
              refine (law2_num _ _).mono ?_
              rintro e w' ⟨rfl, rfl⟩
              go_wp2_with fail
              refine (wire_Nums_yes _ (Sl.of_own o9) (by omega) HX2.out HBX.out).mono ?_
              rintro e w_5 ⟨v10, rfl, o10, hb_5'⟩
              have hb_5 := below_then hb_4 hb_5'
              have zyb_5 := hb_5'.size
              have yyb := hb_4.size
              have y_5 := own_later o9 hb_5'
              have zy_5 := Nat.le_trans zy_4 hb_5'.size
              have cHC3_5 := cell_later hb_5 HC3.out
              rw [HB2.out, HBL.out] at o10
              obtain ⟨A10, c10, rfl⟩ := own_slice o10
              clear hb_5' o9 zy_4 cHC3_4 hb_4
              go_wp2_with fail
              refine (law2_num _ _).mono ?_
              rintro e w' ⟨rfl, rfl⟩
              go_wp2_with fail
              refine (eqBytes_b _ (Sl.of_own o10) (by omega) (HS3.out.below hb_5) (by omega) (beq_self _)).mono ?_
              rintro e w_6 ⟨rfl, hb_6'⟩
              have hb_6 := below_then hb_5 hb_6'
              have y_6 := own_later y_5 hb_6'
              have zy_6 := Nat.le_trans zy_5 hb_6'.size
              have yb_6 := own_later o10 hb_6'
              have zyb_6 := Nat.le_trans zyb_5 hb_6'.size
              have cHC3_6 := cell_later hb_6 HC3.out
              clear hb_6' y_5 zy_5 o10 zyb_5 cHC3_5 hb_5
              clear y_6 zy_6 yb_6 zyb_6
              go_wp2_with fail
              cases hg3 : getN bs with
              | none =>
                have HG3 := hide hg3
                clear hg3
                go_wp2_with fail
                refine (wire_GetNum_no _ (HS3.out.below hb_6) (by omega) HG3.out).mono ?_
                rintro e w' ⟨rfl, rfl⟩
                go_wp2_with fail
                refine (law2_num _ _).mono ?_
                rintro e w' ⟨rfl, rfl⟩
                go_wp2_with fail
                go_wp2_with fail
                go_roundw
                case rel => exact ⟨k + 1, by omega, by go_num, hb_6⟩
                case measure => simp [intOf]; omega
              | some p3 =>
                obtain ⟨m, kk⟩ := p3
                have HG3 := hide hg3
                have hm9 : m ≤ 9223372036854775807 := (getN_some hg3).1
                have HK : Hid ((enc m).length = kk) := (getN_some hg3).2.1.symm
                have hkn : kk ≤ n3 := by rw [← HBL.out]; exact (getN_some hg3).2.2.2.2
                have HE3 : Hid ((enc m == bs.take kk) = true) := by
                  have h1 := (getN_some hg3).2.2.1
                  have h2 : bs.take kk = enc m := by rw [h1, List.take_left' HK.out]
                  rw [h2]; exact beq_self _
                have hkc : kk ≤ c3 := by omega
                clear hg3
                go_wp2_with fail
                refine (wire_GetNum_yes _ (HS3.out.below hb_6) (by omega) HG3.out).mono ?_
                rintro e w' ⟨rfl, rfl⟩
                go_wp2_with fail
                refine (law2_num _ _).mono ?_
                rintro e w' ⟨rfl, rfl⟩
                go_wp2_with fail
                refine (wire_Num_yes m _ hm9).mono ?_
                rintro e w_7 ⟨v5, rfl, o5, hb_7'⟩
                have hb_7 := below_then hb_6 hb_7'
                have znb_7 := hb_7'.size
                have ynb := hb_6.size
                have cHC3_7 := cell_later hb_7 HC3.out
                rw [HK.out] at o5
                obtain ⟨A8, c8, rfl⟩ := own_slice o5
                clear hb_7' cHC3_6 hb_6
                go_wp2_with fail
                refine (law2_num _ _).mono ?_
                rintro e w' ⟨rfl, rfl⟩
                go_wp2_with fail
                have st := (HS3.out.below hb_7).take (k := kk) hkn
                rw [take_bytes] at st
                refine (eqBytes_b _ (Sl.of_own o5) (by omega) st (by omega) HE3).mono ?_
                rintro e w_8 ⟨rfl, hb_8'⟩
                have hb_8 := below_then hb_7 hb_8'
                have nb_8 := own_later o5 hb_8'
                have znb_8 := Nat.le_trans znb_7 hb_8'.size
                have cHC3_8 := cell_later hb_8 HC3.out
                clear st
                clear hb_8' o5 znb_7 cHC3_7 hb_7
                go_wp2_with fail
                go_wp2_with fail
                go_roundw
                case rel => exact ⟨k + 1, by omega, by go_num, hb_8⟩
                case measure => simp [intOf]; omega
      · go_wp2_with fail
        refine (law2_wakes _).mono ?_
        rintro e w1 ⟨rfl, hb1⟩
        go_wp2_with fail
        go_ret
        exact ⟨rfl, below_then hb hb1⟩
    · go_wp2_with fail
      refine (law2_wakes _).mono ?_
      rintro e w1 ⟨rfl, hb1⟩
      go_wp2_with fail
      go_ret
      exact ⟨rfl, below_then hb hb1⟩
end Go.Proofs.Ytflamhndmggiaaa
