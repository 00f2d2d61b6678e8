/-
  The walk of BatchBytes: whatever the list of records, the call answers true and changes nothing that was there.
-/
import Derived.Test.YtihpmaifcebpiaaBatL
import Derived.Test.YtihpmaifcebpiaaBatC
namespace Go.Proofs.Ytihpmaifcebpiaa
open Go.RowKit

set_option maxRecDepth 100000 in
set_option maxHeartbeats 4000000 in
theorem walk_BatchBytes {v : Value} {w : World} (ho : ∃ A n c, v = .slice A n c ∧ Asks4 w A n) :
    Calls Try.prog 3 #[v] w fun r w' => r = .returned (.bool true) ∧ Below w.heap.size w w' := by
  obtain ⟨A, n, c, rfl, hn, h⟩ := ho
  obtain ⟨i0, hi, hz0, hz1, hz2⟩ := info_parts Try.infoByte
  go_enter Try.func3, Try.ntmps3
  go_wp2_with fail
  go_loopw [3] (fun i wr => ∃ k : Nat, k ≤ n ∧ i = .int .i64 k ∧ Below w.heap.size w wr) (fun i _ => n - (intOf i).toNat)
  case atStart => exact ⟨0, Nat.zero_le _, rfl, Below.refl _ _⟩
  case round =>
    obtain ⟨k, hk, rfl, hb⟩ := hrel
    obtain ⟨wo, rfl⟩ : ∃ wo : World, wo = wr := ⟨_, rfl⟩
    by_cases hlt : k < n
    · obtain ⟨b, off, rfl, hc⟩ := h (by omega)
      obtain ⟨x, y, A1, n1, c1, l, A2, n2, c2, bs, C0, C1, C2, C3, ⟨S1, hn1, hz⟩, ⟨S3, hn3, hcc3, hcm3⟩⟩ := hc k hlt
      have e0 := cell_later hb C0
      have e1 := cell_later hb C1
      have e2 := cell_later hb C2
      have e3 := cell_later hb C3
      have HC0 := hide C0
      have HC1 := hide C1
      have HC2 := hide C2
      have HC3 := hide C3
      have HS1 := hide S1
      have HS3 := hide S3
      have HZ := hide hz
      have HTZ : Hid (TxZ l) := fun t ht => by have := hz t ht; omega
      obtain ⟨T, ht⟩ : ∃ T, twT l n1 = T := ⟨_, rfl⟩
      have HT := hide ht
      have HL := hide S1.txlen
      have HBL := hide S3.blen
      clear C0 C1 C2 C3 S1 S3 hz ht h hc
      by_cases hm : k < 8
      · cases hv : heavy4 T n2
        case true =>
          go_wp2_with fail
          refine (law4_heavy _ (HS1.out.below hb) hn1 HZ.out HT.out (by omega)).mono ?_
          rintro e w1 ⟨rfl, hb1'⟩
          rw [hv]
          go_wp2_with fail
          go_ret
          exact ⟨rfl, below_then hb hb1'⟩
        case false =>
          obtain ⟨hT, hn2'⟩ := heavy4_false hv
          have hts := twT_small l n1 (by rw [HT.out]; exact hT)
          have hn1' : n1 ≤ 5000 := by omega
          obtain ⟨L, HLL⟩ : ∃ L, Hid ((batchB x y l).length = L) := ⟨_, rfl⟩
          clear hts
          go_wp2_with fail
          refine (law4_heavy _ (HS1.out.below hb) hn1 HZ.out HT.out (by omega)).mono ?_
          rintro e w1 ⟨rfl, hb1'⟩
          rw [hv]
          have hb_0 := below_then hb hb1'
          clear e0 e1 e2 e3 hb1' hb HT hv hT
          have cHC0_0 := cell_later hb_0 HC0.out
          have cHC1_0 := cell_later hb_0 HC1.out
          have cHC2_0 := cell_later hb_0 HC2.out
          cases hr : mayB x y l with
          | false =>
            have HR := hide hr
            clear hr
            go_wp2_with fail
            refine (batch_Bytes_no x y _ (HS1.out.below hb_0) (by omega) HTZ.out HR.out).mono ?_
            rintro e w_1 ⟨rfl, hb_1'⟩
            have hb_1 := below_then hb_0 hb_1'
            have cHC0_1 := cell_later hb_1 HC0.out
            have cHC1_1 := cell_later hb_1 HC1.out
            have cHC2_1 := cell_later hb_1 HC2.out
            clear hb_1' cHC0_0 cHC1_0 cHC2_0 hb_0
            go_wp2_with fail
            refine (ref4_Batch x y _ (HS1.out.below hb_1) (by omega) HTZ.out HR).mono ?_
            rintro e w_2 ⟨rfl, hb_2'⟩
            have hb_2 := below_then hb_1 hb_2'
            have cHC0_2 := cell_later hb_2 HC0.out
            have cHC1_2 := cell_later hb_2 HC1.out
            have cHC2_2 := cell_later hb_2 HC2.out
            clear hb_2' cHC0_1 cHC1_1 cHC2_1 hb_1
            go_wp2_with fail
            refine (law4_num _ _).mono ?_
            rintro e w' ⟨rfl, rfl⟩
            go_wp2_with fail
            go_roundw
            case rel => exact ⟨k + 1, by omega, by go_num, hb_2⟩
            case measure => simp [intOf]; omega
          | true =>
            have HR := hide hr
            have hL2 : L ≤ 2000 := by rw [← HLL.out]; exact (batch_size hr).2
            clear hr
            go_wp2_with fail
            refine (batch_Bytes_yes x y _ (HS1.out.below hb_0) HTZ.out HR.out).mono ?_
            rintro e w_1 ⟨v1, rfl, o1, hb_1'⟩
            have hb_1 := below_then hb_0 hb_1'
            have zbx_1 := hb_1'.size
            have ybx := hb_0.size
            have cHC0_1 := cell_later hb_1 HC0.out
            have cHC1_1 := cell_later hb_1 HC1.out
            have cHC2_1 := cell_later hb_1 HC2.out
            rw [HLL.out] at o1
            obtain ⟨A5, c5, rfl⟩ := own_slice o1
            clear hb_1' cHC0_0 cHC1_0 cHC2_0 hb_0
            go_wp2_with fail
            refine (ref4_Batch x y _ (HS1.out.below hb_1) (by omega) HTZ.out HR).mono ?_
            rintro e w_2 ⟨rfl, hb_2'⟩
            have hb_2 := below_then hb_1 hb_2'
            have bx_2 := own_later o1 hb_2'
            have zbx_2 := Nat.le_trans zbx_1 hb_2'.size
            have cHC0_2 := cell_later hb_2 HC0.out
            have cHC1_2 := cell_later hb_2 HC1.out
            have cHC2_2 := cell_later hb_2 HC2.out
            clear hb_2' o1 zbx_1 cHC0_1 cHC1_1 cHC2_1 hb_1
            go_wp2_with fail
            refine (law4_num _ _).mono ?_
            rintro e w' ⟨rfl, rfl⟩
            go_wp2_with fail
            refine (ref4_BatchBytes x y _ (HS1.out.below hb_2) HR.out).mono ?_
            rintro e w_3 ⟨v2, rfl, o2, hb_3'⟩
            have hb_3 := below_then hb_2 hb_3'
            have zby_3 := hb_3'.size
            have yby := hb_2.size
            have bx_3 := own_later bx_2 hb_3'
            have zbx_3 := Nat.le_trans zbx_2 hb_3'.size
            have cHC0_3 := cell_later hb_3 HC0.out
            have cHC1_3 := cell_later hb_3 HC1.out
            have cHC2_3 := cell_later hb_3 HC2.out
            rw [HLL.out] at o2
            obtain ⟨A6, c6, rfl⟩ := own_slice o2
            clear hb_3' bx_2 zbx_2 cHC0_2 cHC1_2 cHC2_2 hb_2
            go_wp2_with fail
            refine (eqBytes_b _ (Sl.of_own bx_3) (by omega) (Sl.of_own o2) (by omega) (beq_self _)).mono ?_
            rintro e w_4 ⟨rfl, hb_4'⟩
            have hb_4 := below_then hb_3 hb_4'
            have bx_4 := own_later bx_3 hb_4'
            have zbx_4 := Nat.le_trans zbx_3 hb_4'.size
            have by_4 := own_later o2 hb_4'
            have zby_4 := Nat.le_trans zby_3 hb_4'.size
            have cHC0_4 := cell_later hb_4 HC0.out
            have cHC1_4 := cell_later hb_4 HC1.out
            have cHC2_4 := cell_later hb_4 HC2.out
            clear hb_4' bx_3 zbx_3 o2 zby_3 cHC0_3 cHC1_3 cHC2_3 hb_3
            go_wp2_with fail
            go_roundw
            case rel => exact ⟨k + 1, by omega, by go_num, hb_4⟩
            case measure => simp [intOf]; omega
      · go_wp2_with fail
        refine (law4_wakes _).mono ?_
        rintro e w1 ⟨rfl, hb1⟩
        go_wp2_with fail
        go_ret
        exact ⟨rfl, below_then hb hb1⟩
    · go_wp2_with fail
      refine (law4_wakes _).mono ?_
      rintro e w1 ⟨rfl, hb1⟩
      go_wp2_with fail
      go_ret
      exact ⟨rfl, below_then hb hb1⟩
end Go.Proofs.Ytihpmaifcebpiaa
