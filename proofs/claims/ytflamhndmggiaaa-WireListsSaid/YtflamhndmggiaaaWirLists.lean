/-
  The walk of WireLists: whatever the list of records, the call answers true and changes nothing that was there.
-/
import Derived.Test.YtflamhndmggiaaaW2
namespace Go.Proofs.Ytflamhndmggiaaa
open Go.RowKit

set_option maxRecDepth 100000 in
set_option maxHeartbeats 4000000 in
theorem walk_WireLists {v : Value} {w : World} (ho : ∃ A n c, v = .slice A n c ∧ Asks2 w A n) :
    Calls Try.prog 12 #[v] w fun r w' => r = .returned (.bool true) ∧ Below w.heap.size w w' := by
  obtain ⟨A, n, c, rfl, hn, h⟩ := ho
  obtain ⟨i0, hi, hz0, hz1, hz2⟩ := info_parts Try.infoByte
  go_enter Try.func12, Try.ntmps12
  go_wp2_with fail
  go_loopw [3] (fun i wr => ∃ k : Nat, k ≤ n ∧ i = .int .i64 k ∧ Below w.heap.size w wr) (fun i _ => n - (intOf i).toNat)
  case atStart => exact ⟨0, Nat.zero_le _, rfl, Below.refl _ _⟩
  case round =>
    obtain ⟨k, hk, rfl, hb⟩ := hrel
    obtain ⟨wo, rfl⟩ : ∃ wo : World, wo = wr := ⟨_, rfl⟩
    by_cases hlt : k < n
    · obtain ⟨b, off, rfl, hc⟩ := h (by omega)
      obtain ⟨N, A1, n1, c1, ls, A2, n2, c2, xs, A3, n3, c3, bs, C0, C1, C2, C3, ⟨hN1, hN2⟩, ⟨S1, hn1, hz⟩, ⟨S2, hn2, hzz⟩, ⟨S3, hn3, hcc3, hcm3⟩⟩ := hc k hlt
      have e0 := cell_later hb C0
      have e1 := cell_later hb C1
      have e2 := cell_later hb C2
      have e3 := cell_later hb C3
      have HC0 := hide C0
      have HC1 := hide C1
      have HC2 := hide C2
      have HC3 := hide C3
      have HS1 := hide S1
      have HS2 := hide S2
      have HS3 := hide S3
      have HZ := hide hz
      have HZZ := hide hzz
      obtain ⟨T, ht⟩ : ∃ T, twGo ls n1 = T := ⟨_, rfl⟩
      have HT := hide ht
      have HSL := hide S1.slen
      have HXL := hide S2.ilen
      have HBL := hide S3.blen
      clear C0 C1 C2 C3 S1 S2 S3 hz hzz ht h hc
      by_cases hm : k < 12
      · cases hv : heavy2 T n3 n2
        case true =>
          go_wp2_with fail
          refine (law2_heavy _ (HS1.out.below hb) hn1 HZ.out HT.out (by omega) (by omega)).mono ?_
          rintro e w1 ⟨rfl, hb1'⟩
          rw [hv]
          go_wp2_with fail
          go_ret
          exact ⟨rfl, below_then hb hb1'⟩
        case false =>
          obtain ⟨hT, hn3', hn2'⟩ := heavy2_false hv
          have hts := twGo_small ls n1 (by rw [HT.out]; exact hT)
          have HP8 : Hid ((putB ls).length ≤ 80009) := putB_small (by rw [HSL.out]; exact hts)
          have HPB : Hid ((putB ls).length ≤ 1048576) := by have := HP8.out; rw [Hid]; omega
          have HN8 : Hid ((numsB xs).length ≤ 4509) := numsB_small (by rw [HXL.out]; exact hn2') (fun x hx => (HZZ.out x hx).2)
          have HNB : Hid ((numsB xs).length ≤ 1048576) := by have := HN8.out; rw [Hid]; omega
          have hn1' : n1 ≤ 8000 := by omega
          obtain ⟨L, HLL⟩ : ∃ L, Hid ((putB ls).length = L) := ⟨_, rfl⟩
          have hL8 : L ≤ 80009 := by rw [← HLL.out]; exact HP8.out
          obtain ⟨M, HLM⟩ : ∃ M, Hid ((numsB xs).length = M) := ⟨_, rfl⟩
          have hM8 : M ≤ 4509 := by rw [← HLM.out]; exact HN8.out
          clear hts
          go_wp2_with fail
          refine (law2_heavy _ (HS1.out.below hb) hn1 HZ.out HT.out (by omega) (by omega)).mono ?_
          rintro e w1 ⟨rfl, hb1'⟩
          rw [hv]
          have hb_0 := below_then hb hb1'
          clear e0 e1 e2 e3 hb1' hb HT hv hT
          have cHC2_0 := cell_later hb_0 HC2.out
          go_wp2_with fail
          refine (ref0_CopyNumbers _ _ _ _ _ (HS2.out.below hb_0) (by omega) (by omega)).mono ?_
          rintro e w_1 ⟨v2, rfl, o2, hb_1'⟩
          have hb_1 := below_then hb_0 hb_1'
          have zin__1 := hb_1'.size
          have yin_ := hb_0.size
          have cHC2_1 := cell_later hb_1 HC2.out
          obtain ⟨A4, c4, rfl⟩ := own_slice o2
          clear hb_1' cHC2_0 hb_0
          by_cases hneg : ∃ x ∈ xs, x < 0
          · have HNG := hide hneg
            have HX1 : Hid (∀ x ∈ xs, x ≤ 9223372036854775807) := fun x hx => (HZZ.out x hx).2
            clear hneg
            go_wp2_with fail
            refine (wire_Nums_no _ (Sl.of_own o2) (by omega) HNG.out HX1.out).mono ?_
            rintro e w_2 ⟨rfl, hb_2'⟩
            have hb_2 := below_then hb_1 hb_2'
            have in__2 := own_later o2 hb_2'
            have zin__2 := Nat.le_trans zin__1 hb_2'.size
            have cHC2_2 := cell_later hb_2 HC2.out
            clear hb_2' o2 zin__1 cHC2_1 hb_1
            go_wp2_with fail
            refine (ref2_Nums_no _ (HS2.out.below hb_2) (by omega) HNG.out HX1.out).mono ?_
            rintro e w_3 ⟨rfl, hb_3'⟩
            have hb_3 := below_then hb_2 hb_3'
            have in__3 := own_later in__2 hb_3'
            have zin__3 := Nat.le_trans zin__2 hb_3'.size
            have cHC2_3 := cell_later hb_3 HC2.out
            clear hb_3' in__2 zin__2 cHC2_2 hb_2
            go_wp2_with fail
            refine (law2_num _ _).mono ?_
            rintro e w' ⟨rfl, rfl⟩
            go_wp2_with fail
            refine (law2_num _ _).mono ?_
            rintro e w' ⟨rfl, rfl⟩
            go_wp2_with fail
            refine (eqNumbers_b _ (Sl.of_own in__3) (by omega) (HS2.out.below hb_3) (by omega) (eq_self _)).mono ?_
            rintro e w_4 ⟨rfl, hb_4'⟩
            have hb_4 := below_then hb_3 hb_4'
            have in__4 := own_later in__3 hb_4'
            have zin__4 := Nat.le_trans zin__3 hb_4'.size
            have cHC2_4 := cell_later hb_4 HC2.out
            clear hb_4' in__3 zin__3 cHC2_3 hb_3
            clear cHC2_4
            clear in__4 zin__4
            have cHC3_4 := cell_later hb_4 HC3.out
            cases hg : getI bs with
            | none =>
              have HG := hide hg
              clear hg
              go_wp2_with fail
              refine (wire_GetNums_no _ (HS3.out.below hb_4) hcc3 hcm3 HG.out).mono ?_
              rintro e w_5 ⟨rfl, hb_5'⟩
              have hb_5 := below_then hb_4 hb_5'
              have cHC3_5 := cell_later hb_5 HC3.out
              clear hb_5' cHC3_4 hb_4
              go_wp2_with fail
              refine (ref2_GetNums _ (HS3.out.below hb_5) hcc3 hcm3).mono ?_
              rintro e w_6 hE
              rw [HG.out] at hE
              obtain ⟨v10, rfl, hb_6'⟩ := hE.none_
              have hb_6 := below_then hb_5 hb_6'
              clear hb_6' hE
              go_wp2_with fail
              refine (law2_num _ _).mono ?_
              rintro e w' ⟨rfl, rfl⟩
              go_wp2_with fail
              refine (law2_num _ _).mono ?_
              rintro e w' ⟨rfl, rfl⟩
              go_wp2_with fail
              refine (law0_Numbers (xs := []) _ (World.ownsRow_nil _ _ _ _) hb_6.size (by omega)).mono ?_
              rintro e w12 ⟨rfl, hb12'⟩
              have hb12 := hb_6.trans hb12'
              clear hb12' hb_6
              go_wp2_with fail
              go_roundw
              case rel => exact ⟨k + 1, by omega, by go_num, hb12⟩
              case measure => simp [intOf]; omega
            | some ls2 =>
              have HG := hide hg
              have hlen2 : ls2.length ≤ 8000 := by
                have h1 := (getL_back codecI hg).1
                have h2 := put_count (e := encI) codecI.pos ls2
                rw [← h1, HBL.out] at h2
                omega
              obtain ⟨L2, HL2⟩ : ∃ L2, Hid (ls2.length = L2) := ⟨_, rfl⟩
              rw [HL2.out] at hlen2
              clear hg
              go_wp2_with fail
              refine (wire_GetNums_yes _ (HS3.out.below hb_4) hcc3 hcm3 HG.out).mono ?_
              rintro e w_5 ⟨v9, rfl, o9, hb_5'⟩
              have hb_5 := below_then hb_4 hb_5'
              have zx_5 := hb_5'.size
              have yx := hb_4.size
              have cHC3_5 := cell_later hb_5 HC3.out
              rw [HL2.out] at o9
              obtain ⟨A9, c9, rfl⟩ := own_slice o9
              clear hb_5' cHC3_4 hb_4
              go_wp2_with fail
              refine (ref2_GetNums _ (HS3.out.below hb_5) hcc3 hcm3).mono ?_
              rintro e w_6 hE
              rw [HG.out] at hE
              obtain ⟨v10, rfl, o10, hb_6'⟩ := hE.some_
              rw [HL2.out] at o10
              obtain ⟨A10, c10, rfl⟩ := own_slice o10
              have hb_6 := below_then hb_5 hb_6'
              have x_6 := own_later o9 hb_6'
              have zx_6 := Nat.le_trans zx_5 hb_6'.size
              have u10 := Sl.of_own o10
              clear hb_6' hE o10 o9 zx_5 hb_5
              go_wp2_with fail
              refine (law2_num _ _).mono ?_
              rintro e w' ⟨rfl, rfl⟩
              go_wp2_with fail
              refine (eqNumbers_b _ (Sl.of_own x_6) (by omega) u10 (by omega) (eq_self ls2)).mono ?_
              rintro e w_7 ⟨rfl, hb_7'⟩
              have hb_7 := below_then hb_6 hb_7'
              have x_7 := own_later x_6 hb_7'
              have zx_7 := Nat.le_trans zx_6 hb_7'.size
              have cHC3_7 := cell_later hb_7 HC3.out
              clear hb_7' x_6 zx_6 cHC3_5 hb_6
              go_wp2_with fail
              refine (law0_Numbers _ x_7 zx_7 (by omega)).mono ?_
              rintro e w_8 ⟨rfl, hb_8'⟩
              have hb_8 := hb_7.trans (hb_8'.mono yx)
              have cHC3_8 := cell_later hb_8 HC3.out
              clear hb_8' hb_7 x_7 zx_7 cHC3_7
              go_wp2_with fail
              go_roundw
              case rel => exact ⟨k + 1, by omega, by go_num, hb_8⟩
              case measure => simp [intOf]; omega
          · have HXY : Hid (∀ x ∈ xs, 0 ≤ x ∧ x ≤ 9223372036854775807) := fun x hx => ⟨Int.not_lt.1 fun h => hneg ⟨x, hx, h⟩, (HZZ.out x hx).2⟩
            clear hneg
            go_wp2_with fail
            refine (wire_Nums_yes _ (Sl.of_own o2) (by omega) HXY.out HNB.out).mono ?_
            rintro e w_2 ⟨v3, rfl, o3, hb_2'⟩
            have hb_2 := below_then hb_1 hb_2'
            have zb__2 := hb_2'.size
            have yb_ := hb_1.size
            have in__2 := own_later o2 hb_2'
            have zin__2 := Nat.le_trans zin__1 hb_2'.size
            have cHC2_2 := cell_later hb_2 HC2.out
            rw [HLM.out] at o3
            obtain ⟨A5, c5, rfl⟩ := own_slice o3
            clear hb_2' o2 zin__1 cHC2_1 hb_1
            go_wp2_with fail
            refine (ref2_Nums_yes _ (HS2.out.below hb_2) (by omega) HXY.out HNB.out).mono ?_
            rintro e w_3 ⟨v4, rfl, o4, hb_3'⟩
            have hb_3 := below_then hb_2 hb_3'
            have zwant_3 := hb_3'.size
            have ywant := hb_2.size
            have in__3 := own_later in__2 hb_3'
            have zin__3 := Nat.le_trans zin__2 hb_3'.size
            have b__3 := own_later o3 hb_3'
            have zb__3 := Nat.le_trans zb__2 hb_3'.size
            have cHC2_3 := cell_later hb_3 HC2.out
            rw [HLM.out] at o4
            obtain ⟨A6, c6, rfl⟩ := own_slice o4
            clear hb_3' in__2 zin__2 o3 zb__2 cHC2_2 hb_2
            go_wp2_with fail
            refine (law2_num _ _).mono ?_
            rintro e w' ⟨rfl, rfl⟩
            go_wp2_with fail
            refine (eqBytes_b _ (Sl.of_own b__3) (by omega) (Sl.of_own o4) (by omega) (beq_self _)).mono ?_
            rintro e w_4 ⟨rfl, hb_4'⟩
            have hb_4 := below_then hb_3 hb_4'
            have in__4 := own_later in__3 hb_4'
            have zin__4 := Nat.le_trans zin__3 hb_4'.size
            have b__4 := own_later b__3 hb_4'
            have zb__4 := Nat.le_trans zb__3 hb_4'.size
            have want_4 := own_later o4 hb_4'
            have zwant_4 := Nat.le_trans zwant_3 hb_4'.size
            have cHC2_4 := cell_later hb_4 HC2.out
            clear hb_4' in__3 zin__3 b__3 zb__3 o4 zwant_3 cHC2_3 hb_3
            go_wp2_with fail
            refine (eqNumbers_b _ (Sl.of_own in__4) (by omega) (HS2.out.below hb_4) (by omega) (eq_self _)).mono ?_
            rintro e w_5 ⟨rfl, hb_5'⟩
            have hb_5 := below_then hb_4 hb_5'
            have in__5 := own_later in__4 hb_5'
            have zin__5 := Nat.le_trans zin__4 hb_5'.size
            have b__5 := own_later b__4 hb_5'
            have zb__5 := Nat.le_trans zb__4 hb_5'.size
            have want_5 := own_later want_4 hb_5'
            have zwant_5 := Nat.le_trans zwant_4 hb_5'.size
            have cHC2_5 := cell_later hb_5 HC2.out
            clear hb_5' in__4 zin__4 b__4 zb__4 want_4 zwant_4 cHC2_4 hb_4
            clear cHC2_5
            clear in__5 zin__5 b__5 zb__5 want_5 zwant_5
            have cHC3_5 := cell_later hb_5 HC3.out
            cases hg : getI bs with
            | none =>
              have HG := hide hg
              clear hg
              go_wp2_with fail
              refine (wire_GetNums_no _ (HS3.out.below hb_5) hcc3 hcm3 HG.out).mono ?_
              rintro e w_6 ⟨rfl, hb_6'⟩
              have hb_6 := below_then hb_5 hb_6'
              have cHC3_6 := cell_later hb_6 HC3.out
              clear hb_6' cHC3_5 hb_5
              go_wp2_with fail
              refine (ref2_GetNums _ (HS3.out.below hb_6) hcc3 hcm3).mono ?_
              rintro e w_7 hE
              rw [HG.out] at hE
              obtain ⟨v10, rfl, hb_7'⟩ := hE.none_
              have hb_7 := below_then hb_6 hb_7'
              clear hb_7' hE
              go_wp2_with fail
              refine (law2_num _ _).mono ?_
              rintro e w' ⟨rfl, rfl⟩
              go_wp2_with fail
              refine (law2_num _ _).mono ?_
              rintro e w' ⟨rfl, rfl⟩
              go_wp2_with fail
              refine (law0_Numbers (xs := []) _ (World.ownsRow_nil _ _ _ _) hb_7.size (by omega)).mono ?_
              rintro e w12 ⟨rfl, hb12'⟩
              have hb12 := hb_7.trans hb12'
              clear hb12' hb_7
              go_wp2_with fail
              go_roundw
              case rel => exact ⟨k + 1, by omega, by go_num, hb12⟩
              case measure => simp [intOf]; omega
            | some ls2 =>
              have HG := hide hg
              have hlen2 : ls2.length ≤ 8000 := by
                have h1 := (getL_back codecI hg).1
                have h2 := put_count (e := encI) codecI.pos ls2
                rw [← h1, HBL.out] at h2
                omega
              obtain ⟨L2, HL2⟩ : ∃ L2, Hid (ls2.length = L2) := ⟨_, rfl⟩
              rw [HL2.out] at hlen2
              clear hg
              go_wp2_with fail
              refine (wire_GetNums_yes _ (HS3.out.below hb_5) hcc3 hcm3 HG.out).mono ?_
              rintro e w_6 ⟨v9, rfl, o9, hb_6'⟩
              have hb_6 := below_then hb_5 hb_6'
              have zx_6 := hb_6'.size
              have yx := hb_5.size
              have cHC3_6 := cell_later hb_6 HC3.out
              rw [HL2.out] at o9
              obtain ⟨A9, c9, rfl⟩ := own_slice o9
              clear hb_6' cHC3_5 hb_5
              go_wp2_with fail
              refine (ref2_GetNums _ (HS3.out.below hb_6) hcc3 hcm3).mono ?_
              rintro e w_7 hE
              rw [HG.out] at hE
              obtain ⟨v10, rfl, o10, hb_7'⟩ := hE.some_
              rw [HL2.out] at o10
              obtain ⟨A10, c10, rfl⟩ := own_slice o10
              have hb_7 := below_then hb_6 hb_7'
              have x_7 := own_later o9 hb_7'
              have zx_7 := Nat.le_trans zx_6 hb_7'.size
              have u10 := Sl.of_own o10
              clear hb_7' hE o10 o9 zx_6 hb_6
              go_wp2_with fail
              refine (law2_num _ _).mono ?_
              rintro e w' ⟨rfl, rfl⟩
              go_wp2_with fail
              refine (eqNumbers_b _ (Sl.of_own x_7) (by omega) u10 (by omega) (eq_self ls2)).mono ?_
              rintro e w_8 ⟨rfl, hb_8'⟩
              have hb_8 := below_then hb_7 hb_8'
              have x_8 := own_later x_7 hb_8'
              have zx_8 := Nat.le_trans zx_7 hb_8'.size
              have cHC3_8 := cell_later hb_8 HC3.out
              clear hb_8' x_7 zx_7 cHC3_6 hb_7
              go_wp2_with fail
              refine (law0_Numbers _ x_8 zx_8 (by omega)).mono ?_
              rintro e w_9 ⟨rfl, hb_9'⟩
              have hb_9 := hb_8.trans (hb_9'.mono yx)
              have cHC3_9 := cell_later hb_9 HC3.out
              clear hb_9' hb_8 x_8 zx_8 cHC3_8
              go_wp2_with fail
              go_roundw
              case rel => exact ⟨k + 1, by omega, by go_num, hb_9⟩
              case measure => simp [intOf]; omega
      · go_wp2_with fail
        refine (law2_wakes _).mono ?_
        rintro e w1 ⟨rfl, hb1⟩
        go_wp2_with fail
        go_ret
        exact ⟨rfl, below_then hb hb1⟩
    · go_wp2_with fail
      refine (law2_wakes _).mono ?_
      rintro e w1 ⟨rfl, hb1⟩
      go_wp2_with fail
      go_ret
      exact ⟨rfl, below_then hb hb1⟩
end Go.Proofs.Ytflamhndmggiaaa
