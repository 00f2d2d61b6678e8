/-
  The walk of WirePuts: whatever the list of records, the call answers true and changes nothing that was there.
-/
import Derived.Test.YtflamhndmggiaaaW2
namespace Go.Proofs.Ytflamhndmggiaaa
open Go.RowKit

set_option maxRecDepth 100000 in
set_option maxHeartbeats 4000000 in
theorem walk_WirePuts {v : Value} {w : World} (ho : ∃ A n c, v = .slice A n c ∧ Asks2 w A n) :
    Calls Try.prog 11 #[v] w fun r w' => r = .returned (.bool true) ∧ Below w.heap.size w w' := by
  obtain ⟨A, n, c, rfl, hn, h⟩ := ho
  go_enter Try.func11, Try.ntmps11
  go_wp2_with fail
  go_loopw [3] (fun i wr => ∃ k : Nat, k ≤ n ∧ i = .int .i64 k ∧ Below w.heap.size w wr) (fun i _ => n - (intOf i).toNat)
  case atStart => exact ⟨0, Nat.zero_le _, rfl, Below.refl _ _⟩
  case round =>
    obtain ⟨k, hk, rfl, hb⟩ := hrel
    obtain ⟨wo, rfl⟩ : ∃ wo : World, wo = wr := ⟨_, rfl⟩
    by_cases hlt : k < n
    · obtain ⟨b, off, rfl, hc⟩ := h (by omega)
      obtain ⟨N, A1, n1, c1, ls, A2, n2, c2, xs, A3, n3, c3, bs, C0, C1, C2, C3, ⟨hN1, hN2⟩, ⟨S1, hn1, hz⟩, ⟨S2, hn2, hzz⟩, ⟨S3, hn3, hcc3, hcm3⟩⟩ := hc k hlt
      have e0 := cell_later hb C0
      have e1 := cell_later hb C1
      have e2 := cell_later hb C2
      have e3 := cell_later hb C3
      have HC1 := hide C1
      have HC3 := hide C3
      have HS1 := hide S1
      have HS3 := hide S3
      have HZ := hide hz
      obtain ⟨T, ht⟩ : ∃ T, twGo ls n1 = T := ⟨_, rfl⟩
      have HT := hide ht
      have HSL := hide S1.slen
      clear C0 C1 C2 C3 S1 S2 S3 hz hzz ht h hc
      by_cases hm : k < 12
      · cases hv : heavy2 T n3 n2
        case true =>
          go_wp2_with fail
          refine (law2_heavy _ (HS1.out.below hb) hn1 HZ.out HT.out (by omega) (by omega)).mono ?_
          rintro e w1 ⟨rfl, hb1'⟩
          rw [hv]
          go_wp2_with fail
          go_ret
          exact ⟨rfl, below_then hb hb1'⟩
        case false =>
          obtain ⟨hT, hn3', hn2'⟩ := heavy2_false hv
          have hts := twGo_small ls n1 (by rw [HT.out]; exact hT)
          have HP8 : Hid ((putB ls).length ≤ 80009) := putB_small (by rw [HSL.out]; exact hts)
          have HPB : Hid ((putB ls).length ≤ 1048576) := by have := HP8.out; rw [Hid]; omega
          have hn1' : n1 ≤ 8000 := by omega
          obtain ⟨L, HLL⟩ : ∃ L, Hid ((putB ls).length = L) := ⟨_, rfl⟩
          have hL8 : L ≤ 80009 := by rw [← HLL.out]; exact HP8.out
          clear hts
          go_wp2_with fail
          refine (law2_heavy _ (HS1.out.below hb) hn1 HZ.out HT.out (by omega) (by omega)).mono ?_
          rintro e w1 ⟨rfl, hb1'⟩
          rw [hv]
          have hb1 := below_then hb hb1'
          have d1 := cell_later hb1 HC1.out
          clear e0 e1 e2 e3 hb1' hb HT hv hT
          go_wp2_with fail
          refine (ref0_CopyStrings _ _ _ _ _ (HS1.out.below hb1) (by omega) (by omega)).mono ?_
          rintro e w2 ⟨v2, rfl, hown2, hb2'⟩
          obtain ⟨A4, c4, rfl⟩ := own_slice hown2
          have hb2 := below_then hb1 hb2'
          have s2 := Sl.of_own hown2
          clear hown2 hb2' d1
          go_wp2_with fail
          refine (wire_Put _ s2 (by omega) HPB.out).mono ?_
          rintro e w3 ⟨v3, rfl, hown3, hb3'⟩
          rw [HLL.out] at hown3
          obtain ⟨A5, c5, rfl⟩ := own_slice hown3
          have hb3 := below_then hb2 hb3'
          have s3 := s2.below hb3'
          have h23 := hb3'.size
          have d1 := cell_later hb3 HC1.out
          clear hb3' s2
          go_wp2_with fail
          refine (ref2_Put _ (HS1.out.below hb3) (by omega) HPB.out).mono ?_
          rintro e w4 ⟨v4, rfl, hown4, hb4'⟩
          rw [HLL.out] at hown4
          obtain ⟨A6, c6, rfl⟩ := own_slice hown4
          have hb4 := below_then hb3 hb4'
          have s4 := s3.below hb4'
          have hown3' := own_later hown3 hb4'
          have t4 := Sl.of_own hown3'
          have u4 := Sl.of_own hown4
          have d1' := cell_later hb4 HC1.out
          have h24 : w2.heap.size ≤ w4.heap.size := Nat.le_trans h23 hb4'.size
          clear hb4' s3 hown3 hown4 d1
          go_wp2_with fail
          refine (law2_num _ _).mono ?_
          rintro e w' ⟨rfl, rfl⟩
          go_wp2_with fail
          refine (eqBytes_b _ t4 (by omega) u4 (by omega) (beq_self _)).mono ?_
          rintro e w5 ⟨rfl, hb5'⟩
          have hb5 := below_then hb4 hb5'
          have hown5 := own_later hown3' hb5'
          have s5 := s4.below hb5'
          have d1 := cell_later hb5 HC1.out
          have h25 : w2.heap.size ≤ w5.heap.size := Nat.le_trans h24 hb5'.size
          clear hown3' t4 u4 s4 hb5' d1'
          go_wp2_with fail
          refine (eqStrings_b _ s5 (by omega) (HS1.out.below hb5) (by omega) (eq_self _)).mono ?_
          rintro e w6 ⟨rfl, hb6'⟩
          have hown6 := own_later hown5 hb6'
          have hb6 := below_then hb5 hb6'
          have h26 : w2.heap.size ≤ w6.heap.size := Nat.le_trans h25 hb6'.size
          clear hb5 d1 s5 hown5 hb6'
          go_wp2_with fail
          refine (law0_Bytes _ hown6 h26 (by omega)).mono ?_
          rintro e w7 ⟨rfl, hb7'⟩
          have hb7 := hb6.trans (hb7'.mono hb2.size)
          have d3 := cell_later hb7 HC3.out
          clear hb6 hb7' hown6 hb3 hb4
          go_wp2_with fail
          refine (ref0_CopyBytes _ _ _ _ _ (HS3.out.below hb7) (by omega) (by omega)).mono ?_
          rintro e w8 ⟨v8, rfl, hown8, hb8'⟩
          obtain ⟨A8, c8, rfl, hc8, hc8m⟩ := own_slice_cap hown8
          unfold maxLen at hc8m
          have hb8 := below_then hb7 hb8'
          have s8 := Sl.of_own hown8
          have d3' := cell_later hb8 HC3.out
          clear hb8' hown8 d3 hb7
          cases hg : getT bs with
          | none =>
            have HG := hide hg
            clear hg
            go_wp2_with fail
            refine (wire_Get_no _ s8 hc8 hc8m HG.out).mono ?_
            rintro e w9 ⟨rfl, hb9'⟩
            have hb9 := below_then hb8 hb9'
            have s9 := s8.below hb9'
            have d3 := cell_later hb9 HC3.out
            clear hb9' s8 d3'
            go_wp2_with fail
            refine (ref2_Get _ (HS3.out.below hb9) hcc3 hcm3).mono ?_
            rintro e w10 hE
            rw [HG.out] at hE
            obtain ⟨v10, rfl, hb10'⟩ := hE.none_
            have hb10 := below_then hb9 hb10'
            have s10 := s9.below hb10'
            have d3' := cell_later hb10 HC3.out
            clear hb10' s9 d3 hE
            go_wp2_with fail
            refine (law2_num _ _).mono ?_
            rintro e w' ⟨rfl, rfl⟩
            go_wp2_with fail
            refine (law2_num _ _).mono ?_
            rintro e w' ⟨rfl, rfl⟩
            go_wp2_with fail
            refine (eqBytes_b _ s10 (by omega) (HS3.out.below hb10) (by omega) (beq_self _)).mono ?_
            rintro e w11 ⟨rfl, hb11'⟩
            have hb11 := below_then hb10 hb11'
            clear hb11' s10 d3' hb9 hb8
            go_wp2_with fail
            refine (law0_Strings (xs := []) _ (World.ownsRow_nil _ _ _ _) hb11.size (by omega)).mono ?_
            rintro e w12 ⟨rfl, hb12'⟩
            have hb12 := hb11.trans hb12'
            clear hb12' hb11 hb10 hb2 hb1
            go_wp2_with fail
            go_roundw
            case rel => exact ⟨k + 1, by omega, by go_num, hb12⟩
            case measure => simp [intOf]; omega
          | some ls2 =>
            have HG := hide hg
            have hlen2 : ls2.length ≤ 8000 := by
              have h1 := (getL_back codecT hg).1
              have h2 := put_count (e := encT) codecT.pos ls2
              rw [← h1, HS3.out.blen] at h2
              omega
            clear hg
            go_wp2_with fail
            refine (wire_Get_yes _ s8 hc8 hc8m HG.out).mono ?_
            rintro e w9 ⟨v9, rfl, hown9, hb9'⟩
            obtain ⟨L2, HL2⟩ : ∃ L2, Hid (ls2.length = L2) := ⟨_, rfl⟩
            rw [HL2.out] at hlen2 hown9
            obtain ⟨A9, c9, rfl⟩ := own_slice hown9
            have hb9 := below_then hb8 hb9'
            have s9 := s8.below hb9'
            have h89 := hb9'.size
            have d3 := cell_later hb9 HC3.out
            clear hb9' s8 d3'
            go_wp2_with fail
            refine (ref2_Get _ (HS3.out.below hb9) hcc3 hcm3).mono ?_
            rintro e w10 hE
            rw [HG.out] at hE
            obtain ⟨v10, rfl, hown10, hb10'⟩ := hE.some_
            rw [HL2.out] at hown10
            obtain ⟨A10, c10, rfl⟩ := own_slice hown10
            have hb10 := below_then hb9 hb10'
            have s10 := s9.below hb10'
            have hown9' := own_later hown9 hb10'
            have h8a : w8.heap.size ≤ w10.heap.size := Nat.le_trans h89 hb10'.size
            have d3' := cell_later hb10 HC3.out
            clear hb10' s9 d3 hE hown9
            go_wp2_with fail
            refine (law2_num _ _).mono ?_
            rintro e w' ⟨rfl, rfl⟩
            go_wp2_with fail
            refine (eqStrings_b _ (Sl.of_own hown9') (by omega) (Sl.of_own hown10) (by omega) (eq_self ls2)).mono ?_
            rintro e w11 ⟨rfl, hb11'⟩
            have hb11 := below_then hb10 hb11'
            have s11 := s10.below hb11'
            have hown11 := own_later hown9' hb11'
            have h8b : w8.heap.size ≤ w11.heap.size := Nat.le_trans h8a hb11'.size
            have d3 := cell_later hb11 HC3.out
            clear hb11' s10 d3' hb9 hown9' hown10
            go_wp2_with fail
            refine (eqBytes_b _ s11 (by omega) (HS3.out.below hb11) (by omega) (beq_self _)).mono ?_
            rintro e w12 ⟨rfl, hb12'⟩
            have hown12 := own_later hown11 hb12'
            have hb12 := below_then hb11 hb12'
            have h8c : w8.heap.size ≤ w12.heap.size := Nat.le_trans h8b hb12'.size
            clear hb12' s11 d3 hb11 hb10 hown11
            go_wp2_with fail
            refine (law0_Strings _ hown12 h8c (by omega)).mono ?_
            rintro e w13 ⟨rfl, hb13'⟩
            have hb13 := hb12.trans (hb13'.mono hb8.size)
            clear hb13' hown12 hb12
            go_wp2_with fail
            go_roundw
            case rel => exact ⟨k + 1, by omega, by go_num, hb13⟩
            case measure => simp [intOf]; omega
      · go_wp2_with fail
        refine (law2_wakes _).mono ?_
        rintro e w1 ⟨rfl, hb1⟩
        go_wp2_with fail
        go_ret
        exact ⟨rfl, below_then hb hb1⟩
    · go_wp2_with fail
      refine (law2_wakes _).mono ?_
      rintro e w1 ⟨rfl, hb1⟩
      go_wp2_with fail
      go_ret
      exact ⟨rfl, below_then hb hb1⟩
end Go.Proofs.Ytflamhndmggiaaa
