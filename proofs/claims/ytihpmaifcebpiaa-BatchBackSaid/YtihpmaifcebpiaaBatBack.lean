/-
  The walk of BatchBack: whatever the list of records, the call answers true and changes nothing that was there.
-/
import Derived.Test.YtihpmaifcebpiaaBatL
import Derived.Test.YtihpmaifcebpiaaBatE
import Derived.Test.YtihpmaifcebpiaaBatR
import Derived.Test.YtihpmaifcebpiaaBatC
import Derived.Deep.RegionHeld3
namespace Go.Proofs.Ytihpmaifcebpiaa
open Go.RowKit

set_option maxRecDepth 100000 in
set_option maxHeartbeats 4000000 in
theorem walk_BatchBack {v : Value} {w : World} (ho : ∃ A n c, v = .slice A n c ∧ Asks4 w A n) :
    Calls Try.prog 5 #[v] w fun r w' => r = .returned (.bool true) ∧ Below w.heap.size w w' := by
  obtain ⟨A, n, c, rfl, hn, h⟩ := ho
  obtain ⟨i0, hi, hz0, hz1, hz2⟩ := info_parts Try.infoByte
  go_enter Try.func5, Try.ntmps5
  go_wp2_with fail
  go_loopw [3] (fun i wr => ∃ k : Nat, k ≤ n ∧ i = .int .i64 k ∧ Below w.heap.size w wr) (fun i _ => n - (intOf i).toNat)
  case atStart => exact ⟨0, Nat.zero_le _, rfl, Below.refl _ _⟩
  case round =>
    obtain ⟨k, hk, rfl, hb⟩ := hrel
    obtain ⟨wo, rfl⟩ : ∃ wo : World, wo = wr := ⟨_, rfl⟩
    by_cases hlt : k < n
    · obtain ⟨b, off, rfl, hc⟩ := h (by omega)
      obtain ⟨x, y, A1, n1, c1, l, A2, n2, c2, bs, C0, C1, C2, C3, ⟨S1, hn1, hz⟩, ⟨S3, hn3, hcc3, hcm3⟩⟩ := hc k hlt
      have e0 := cell_later hb C0
      have e1 := cell_later hb C1
      have e2 := cell_later hb C2
      have e3 := cell_later hb C3
      have HC0 := hide C0
      have HC1 := hide C1
      have HC2 := hide C2
      have HC3 := hide C3
      have HS1 := hide S1
      have HS3 := hide S3
      have HZ := hide hz
      have HTZ : Hid (TxZ l) := fun t ht => by have := hz t ht; omega
      obtain ⟨T, ht⟩ : ∃ T, twT l n1 = T := ⟨_, rfl⟩
      have HT := hide ht
      have HL := hide S1.txlen
      have HBL := hide S3.blen
      have HH := hide hc
      clear C0 C1 C2 C3 S1 S3 hz ht h hc
      by_cases hm : k < 8
      · cases hv : heavy4 T n2
        case true =>
          go_wp2_with fail
          refine (law4_heavy _ (HS1.out.below hb) hn1 HZ.out HT.out (by omega)).mono ?_
          rintro e w1 ⟨rfl, hb1'⟩
          rw [hv]
          go_wp2_with fail
          go_ret
          exact ⟨rfl, below_then hb hb1'⟩
        case false =>
          obtain ⟨hT, hn2'⟩ := heavy4_false hv
          have hts := twT_small l n1 (by rw [HT.out]; exact hT)
          have hn1' : n1 ≤ 5000 := by omega
          obtain ⟨L, HLL⟩ : ∃ L, Hid ((batchB x y l).length = L) := ⟨_, rfl⟩
          clear hts
          go_wp2_with fail
          refine (law4_heavy _ (HS1.out.below hb) hn1 HZ.out HT.out (by omega)).mono ?_
          rintro e w1 ⟨rfl, hb1'⟩
          rw [hv]
          have hb_0 := below_then hb hb1'
          clear e0 e1 e2 e3 hb1' hb HT hv hT
          have cHC0_0 := cell_later hb_0 HC0.out
          have cHC1_0 := cell_later hb_0 HC1.out
          have cHC2_0 := cell_later hb_0 HC2.out
          cases hr : mayB x y l with
          | false =>
            have HR := hide hr
            clear hr
            go_wp2_with fail
            refine (batch_Bytes_no x y _ (HS1.out.below hb_0) (by omega) HTZ.out HR.out).mono ?_
            rintro e w_1 ⟨rfl, hb_1'⟩
            have hb_1 := below_then hb_0 hb_1'
            have cHC0_1 := cell_later hb_1 HC0.out
            have cHC1_1 := cell_later hb_1 HC1.out
            have cHC2_1 := cell_later hb_1 HC2.out
            clear hb_1' cHC0_0 cHC1_0 cHC2_0 hb_0
            go_wp2_with fail
            refine (law4_num _ _).mono ?_
            rintro e w' ⟨rfl, rfl⟩
            go_wp2_with fail
            go_roundw
            case rel => exact ⟨k + 1, by omega, by go_num, hb_1⟩
            case measure => simp [intOf]; omega
          | true =>
            have HR := hide hr
            have hL2 : L ≤ 2000 := by rw [← HLL.out]; exact (batch_size hr).2
            have HP := hide (parseB_there hr)
            have HP0 := hide (parseB_behind hr)
            have HPk : Hid (∀ j, j < L → parseB ((batchB x y l).take j) = none) := fun j hj => parseB_begin hr (by rw [HLL.out]; exact hj)
            have HEQ : Hid (∀ w A c, Sl w 4 A n1 (txsC l) → Sl w 4 A1 n1 (txsC l) → Calls Try.prog 25 #[.agg #[.int .i64 x, .int .i64 y, .slice A n1 c], .agg #[.int .i64 x, .int .i64 y, .slice A1 n1 c1]] w fun e w' => e = .returned (.bool true) ∧ Below w.heap.size w w') := fun w A c s s' => ref0_EqBatch x y x y w s (by omega) s' (by omega) (by simp [Hid])
            clear hr
            go_wp2_with fail
            refine (batch_Bytes_yes x y _ (HS1.out.below hb_0) HTZ.out HR.out).mono ?_
            rintro e w_1 ⟨v1, rfl, o1, hb_1'⟩
            have hb_1 := below_then hb_0 hb_1'
            have zbx_1 := hb_1'.size
            have ybx := hb_0.size
            have cHC0_1 := cell_later hb_1 HC0.out
            have cHC1_1 := cell_later hb_1 HC1.out
            have cHC2_1 := cell_later hb_1 HC2.out
            rw [HLL.out] at o1
            obtain ⟨A5, c5, rfl, hc5, hc5m⟩ := own_slice_cap o1
            unfold maxLen at hc5m
            clear hb_1' cHC0_0 cHC1_0 cHC2_0 hb_0
            go_wp2_with fail
            refine (law4_num _ _).mono ?_
            rintro e w' ⟨rfl, rfl⟩
            go_wp2_with fail
            refine (batch_Parse_yes _ (Sl.of_own o1) hc5 hc5m HP.out).mono ?_
            rintro e w_2 ⟨v2, rfl, o2, hb_2'⟩
            have hb_2 := below_then hb_1 hb_2'
            have ztx_2 := hb_2'.size
            have ytx := hb_1.size
            have bx_2 := own_later o1 hb_2'
            have zbx_2 := Nat.le_trans zbx_1 hb_2'.size
            have cHC0_2 := cell_later hb_2 HC0.out
            have cHC1_2 := cell_later hb_2 HC1.out
            have cHC2_2 := cell_later hb_2 HC2.out
            rw [HL.out] at o2
            obtain ⟨A6, c6, rfl⟩ := own_slice o2
            clear hb_2' o1 zbx_1 cHC0_1 cHC1_1 cHC2_1 hb_1
            have hb_3 : Below w.heap.size w (w_2.alloc (.cells #[.int .i64 x, .int .i64 y, .slice A6 n1 c6] 26)) := hb_2.alloc hb_2.size _
            have bx_3 := bx_2.alloc (.cells #[.int .i64 x, .int .i64 y, .slice A6 n1 c6] 26)
            have zbx_3 : _ ≤ (w_2.alloc (.cells #[.int .i64 x, .int .i64 y, .slice A6 n1 c6] 26)).heap.size := Nat.le_trans zbx_2 (by simp)
            have tx_3 := o2.alloc (.cells #[.int .i64 x, .int .i64 y, .slice A6 n1 c6] 26)
            have ztx_3 : _ ≤ (w_2.alloc (.cells #[.int .i64 x, .int .i64 y, .slice A6 n1 c6] 26)).heap.size := Nat.le_trans ztx_2 (by simp)
            have cHC0_3 := cell_later hb_3 HC0.out
            have cHC1_3 := cell_later hb_3 HC1.out
            have cHC2_3 := cell_later hb_3 HC2.out
            have kb_3 := hide (Blk.new w_2 26 #[.int .i64 x, .int .i64 y, .slice A6 n1 c6])
            clear hb_2 bx_2 zbx_2 o2 ztx_2 cHC0_2 cHC1_2 cHC2_2
            go_wp2_with fail
            refine (ref0_CopyBytes _ _ _ _ _ (Sl.of_own bx_3) (by omega) (by omega)).mono ?_
            rintro e w_4 ⟨v4, rfl, cp_4, hb_4'⟩
            have zz_4 := hb_4'.size
            obtain ⟨Ac4, cc4, rfl⟩ := own_slice cp_4
            go_wp2_with (at_builtin; refine wpList_append_own _ rfl _ _ 27 rfl _ 5 i0 (.int .u8 0) 1 1 Try.underlying27 hi hz0 hz1 hz2 rfl (by decide) _ _ _ rfl (cp_4.alloc _) ⟨w_4.heap.size, 0, none⟩ 1 1 [.int .u8 0] rfl rfl (news_one _ _ _) (one_int _ _) (by unfold maxLen; omega) (by omega) (by (try simp at zz_4); simp; omega) ?_)
            intro v5 w_5 o5 hg5 _
            have hb_5' := (hb_4'.alloc hb_4'.size _).grown hg5 (by (try simp at zz_4); simp; omega) (fun g hg' => (cp_4.lt g hg').1)
            clear hg5 cp_4 hb_4' zz_4
            have hb_5 := below_then hb_3 hb_5'
            have zbz_5 := hb_5'.size
            have ybz := hb_3.size
            have bx_5 := own_later bx_3 hb_5'
            have zbx_5 := Nat.le_trans zbx_3 hb_5'.size
            have tx_5 := own_later tx_3 hb_5'
            have ztx_5 := Nat.le_trans ztx_3 hb_5'.size
            have kb_5 := hide (kb_3.out.later hb_5')
            have cHC0_5 := cell_later hb_5 HC0.out
            have cHC1_5 := cell_later hb_5 HC1.out
            have cHC2_5 := cell_later hb_5 HC2.out
            clear hb_5' bx_3 zbx_3 tx_3 ztx_3 kb_3 cHC0_3 cHC1_3 cHC2_3 hb_3
            have ob := o5
            rw [show bytes8 (batchB x y l) ++ [Value.int .u8 0] = bytes8 (batchB x y l ++ [0]) by simp [bytes8]] at ob
            obtain ⟨A7, c7, rfl, hc7, hc7m⟩ := own_slice_cap ob
            unfold maxLen at hc7m
            clear o5
            go_wp2_with fail
            refine (batch_Parse_no _ (Sl.of_own ob) hc7 hc7m HP0.out).mono ?_
            rintro e w_6 ⟨rfl, hb_6'⟩
            have hb_6 := below_then hb_5 hb_6'
            have bx_6 := own_later bx_5 hb_6'
            have zbx_6 := Nat.le_trans zbx_5 hb_6'.size
            have tx_6 := own_later tx_5 hb_6'
            have ztx_6 := Nat.le_trans ztx_5 hb_6'.size
            have bz_6 := own_later ob hb_6'
            have zbz_6 := Nat.le_trans zbz_5 hb_6'.size
            have kb_6 := hide (kb_5.out.later hb_6')
            have cHC0_6 := cell_later hb_6 HC0.out
            have cHC1_6 := cell_later hb_6 HC1.out
            have cHC2_6 := cell_later hb_6 HC2.out
            clear hb_6' bx_5 zbx_5 tx_5 ztx_5 ob zbz_5 kb_5 cHC0_5 cHC1_5 cHC2_5 hb_5
            have hb_7 : Below w.heap.size w (w_6.alloc (.cells #[.int .i64 0, .int .i64 0, .slice none 0 0] 26)) := hb_6.alloc hb_6.size _
            have bx_7 := bx_6.alloc (.cells #[.int .i64 0, .int .i64 0, .slice none 0 0] 26)
            have zbx_7 : _ ≤ (w_6.alloc (.cells #[.int .i64 0, .int .i64 0, .slice none 0 0] 26)).heap.size := Nat.le_trans zbx_6 (by simp)
            have tx_7 := tx_6.alloc (.cells #[.int .i64 0, .int .i64 0, .slice none 0 0] 26)
            have ztx_7 : _ ≤ (w_6.alloc (.cells #[.int .i64 0, .int .i64 0, .slice none 0 0] 26)).heap.size := Nat.le_trans ztx_6 (by simp)
            have bz_7 := bz_6.alloc (.cells #[.int .i64 0, .int .i64 0, .slice none 0 0] 26)
            have zbz_7 : _ ≤ (w_6.alloc (.cells #[.int .i64 0, .int .i64 0, .slice none 0 0] 26)).heap.size := Nat.le_trans zbz_6 (by simp)
            have kb_7 := hide (kb_6.out.alloc (.cells #[.int .i64 0, .int .i64 0, .slice none 0 0] 26))
            have cHC0_7 := cell_later hb_7 HC0.out
            have cHC1_7 := cell_later hb_7 HC1.out
            have cHC2_7 := cell_later hb_7 HC2.out
            clear hb_6 bx_6 zbx_6 tx_6 ztx_6 bz_6 zbz_6 kb_6 cHC0_6 cHC1_6 cHC2_6
            clear bz_7 zbz_7
            go_wp2_with fail
            generalize (w_6.alloc (.cells #[.int .i64 0, .int .i64 0, .slice none 0 0] 26)) = w_7 at hb_7 bx_7 zbx_7 tx_7 ztx_7 kb_7 cHC0_7 cHC1_7 cHC2_7 ⊢
            have hbc := hb_7
            have hbd := Below.refl w_7.heap.size w_7
            have hS0 : w_7.cell? ⟨b, off + k * 4, none⟩ = some (.int .i64 x) := cell_later hbc HC0.out
            have hS1 : w_7.cell? ⟨b, off + k * 4 + 1, none⟩ = some (.int .i64 y) := cell_later hbc HC1.out
            have hS2 : w_7.cell? ⟨b, off + k * 4 + 2, none⟩ = some (.slice A1 n1 c1) := cell_later hbc HC2.out
            have hS3 : w_7.cell? ⟨w_2.heap.size, 0, none⟩ = some (.int .i64 x) := (kb_7.out.later hbd).at_ rfl
            have hS4 : w_7.cell? ⟨w_2.heap.size, 1, none⟩ = some (.int .i64 y) := (kb_7.out.later hbd).at_ rfl
            have hS5 : w_7.cell? ⟨w_2.heap.size, 2, none⟩ = some (.slice A6 n1 c6) := (kb_7.out.later hbd).at_ rfl
            go_region_held3 (fun w' => w'.cell? ⟨b, off + k * 4, none⟩ = some (.int .i64 x) ∧ w'.cell? ⟨b, off + k * 4 + 1, none⟩ = some (.int .i64 y) ∧ w'.cell? ⟨b, off + k * 4 + 2, none⟩ = some (.slice A1 n1 c1) ∧ w'.cell? ⟨w_2.heap.size, 0, none⟩ = some (.int .i64 x) ∧ w'.cell? ⟨w_2.heap.size, 1, none⟩ = some (.int .i64 y) ∧ w'.cell? ⟨w_2.heap.size, 2, none⟩ = some (.slice A6 n1 c6))
              (first | exact ⟨cell_later hbc HC0.out, cell_later hbc HC1.out, cell_later hbc HC2.out, (kb_7.out.later hbd).at_ rfl, (kb_7.out.later hbd).at_ rfl, (kb_7.out.later hbd).at_ rfl⟩ | go_keep)
              ((first
                | (go_at_call 18; refine (law4_num _ _).mono ?_; rintro e w6 ⟨rfl, rfl⟩)
                | (go_at_call 25; refine (HEQ.out _ _ _ ((Sl.of_own tx_7).below (by first | exact hbd | exact hbd.drew | exact hbd.drew.drew)) (HS1.out.below (by first | exact hbc | exact hbc.drew | exact hbc.drew.drew))).mono ?_; rintro e w_8 ⟨rfl, hb6⟩; have hbc := below_then (by first | exact hbc | exact hbc.drew | exact hbc.drew.drew) hb6; have hbd := below_then (by first | exact hbd | exact hbd.drew | exact hbd.drew.drew) hb6)
                | fail))
            have hb_8' := hbd
            have hb_8 := below_then hb_7 hb_8'
            have bx_8 := own_later bx_7 hb_8'
            have zbx_8 := Nat.le_trans zbx_7 hb_8'.size
            have tx_8 := own_later tx_7 hb_8'
            have ztx_8 := Nat.le_trans ztx_7 hb_8'.size
            have kb_8 := hide (kb_7.out.later hb_8')
            have cHC0_8 := cell_later hb_8 HC0.out
            have cHC1_8 := cell_later hb_8 HC1.out
            have cHC2_8 := cell_later hb_8 HC2.out
            clear hb_8' bx_7 zbx_7 tx_7 ztx_7 kb_7 cHC0_7 cHC1_7 cHC2_7 hb_7
            clear hbc hbd hS0 hS1 hS2 hS3 hS4 hS5
            clear kb_8 tx_8 ztx_8
            have s5 := Sl.of_own bx_8
            clear bx_8 zbx_8
            go_wp2_with fail
            go_loopw [10] (fun i wr => ∃ j : Nat, i = .int .i64 j ∧ j ≤ 200000 ∧ Below w.heap.size w wr ∧ Sl wr 1 A5 L (bytes8 (batchB x y l))) (fun i _ => 200000 - (intOf i).toNat)
            case atStart => exact ⟨0, rfl, by omega, hb_8, s5⟩
            case round =>
              obtain ⟨j, rfl, hj, hb_9, sj⟩ := hrel
              clear hb_8 s5 cHC0_8 cHC1_8 cHC2_8
              obtain ⟨w_9, rfl⟩ : ∃ wo : World, wo = wr := ⟨_, rfl⟩
              by_cases hjL : j < L
              · have hg := hide (HPk.out j hjL)
                have st := sj.take (k := j) (by omega)
                rw [take_bytes] at st
                go_wp2_with fail
                refine (batch_Parse_no _ st (by omega) hc5m hg.out).mono ?_
                rintro e wz ⟨rfl, hbz'⟩
                have hbz := (below_then hb_9 hbz').alloc (below_then hb_9 hbz').size (.cells #[.int .i64 0, .int .i64 0, .slice none 0 0] 26)
                have sz := (sj.below hbz').alloc (.cells #[.int .i64 0, .int .i64 0, .slice none 0 0] 26)
                clear hbz' sj st hb_9
                go_wp2_with fail
                refine (law4_num _ _).mono ?_
                rintro e w' ⟨rfl, rfl⟩
                go_wp2_with fail
                go_roundw
                case rel => exact ⟨j + 1 + L / 20, by go_num, by omega, hbz, sz⟩
                case measure => simp [intOf]; omega
              · go_wp2_with fail
                go_loopw [13] (fun i wr => ∃ q : Nat, i = .int .i64 q ∧ q ≤ k ∧ Below w.heap.size w wr ∧ Sl wr 1 A5 L (bytes8 (batchB x y l))) (fun i _ => k - (intOf i).toNat)
                case atStart => exact ⟨0, rfl, by omega, hb_9, sj⟩
                case round =>
                  obtain ⟨q, rfl, hq, hb_10, sq⟩ := hrel
                  clear hb_9 sj
                  obtain ⟨w_10, rfl⟩ : ∃ wo : World, wo = wr := ⟨_, rfl⟩
                  by_cases hqk : q < k
                  · obtain ⟨x', y', A3, m1, c3, l', A4, m2, c4, bs', D0, D1, D2, D3, ⟨T1, hm1, hz'⟩, _⟩ := HH.out q (by omega)
                    have HD0 := hide D0
                    have HD1 := hide D1
                    have HD2 := hide D2
                    have HT1 := hide T1
                    have HTZ' : Hid (TxZ l') := fun t ht => by have := hz' t ht; omega
                    have hi1 : (0 : Int) ≤ (q : Int) := by omega
                    have hi2 : (q : Int) < (n : Int) := by omega
                    clear D0 D1 D2 D3 T1 hz'
                    have cHC0_10 := cell_later hb_10 HC0.out
                    have cHC1_10 := cell_later hb_10 HC1.out
                    have cHC2_10 := cell_later hb_10 HC2.out
                    have cHD0_10 := cell_later hb_10 HD0.out
                    have cHD1_10 := cell_later hb_10 HD1.out
                    have cHD2_10 := cell_later hb_10 HD2.out
                    cases hr2 : mayB x' y' l' with
                    | false =>
                      have HR2 := hide hr2
                      clear hr2
                      go_wp2_with fail
                      refine (batch_Bytes_no x' y' _ (HT1.out.below hb_10) (by omega) HTZ'.out HR2.out).mono ?_
                      rintro e w_11 ⟨rfl, hb_11'⟩
                      have hb_11 := below_then hb_10 hb_11'
                      have sq_11 := sq.below hb_11'
                      have cHC0_11 := cell_later hb_11 HC0.out
                      have cHC1_11 := cell_later hb_11 HC1.out
                      have cHC2_11 := cell_later hb_11 HC2.out
                      have cHD0_11 := cell_later hb_11 HD0.out
                      have cHD1_11 := cell_later hb_11 HD1.out
                      have cHD2_11 := cell_later hb_11 HD2.out
                      clear hb_11' sq cHC0_10 cHC1_10 cHC2_10 cHD0_10 cHD1_10 cHD2_10 hb_10
                      go_wp2_with fail
                      go_quiet ((go_at_call 18; exact quiet_left (law4_num _ _)))
                      go_wp2_with fail
                      go_roundw
                      case rel => exact ⟨q + 1, by go_num, by omega, below_drewN hb_11 nq, sq_11⟩
                      case measure => simp [intOf]; omega
                    | true =>
                      have HR2 := hide hr2
                      have hL3 : (batchB x' y' l').length ≤ 2000 := (batch_size hr2).2
                      clear hr2
                      go_wp2_with fail
                      refine (batch_Bytes_yes x' y' _ (HT1.out.below hb_10) HTZ'.out HR2.out).mono ?_
                      rintro e w_11 ⟨v3, rfl, o3, hb_11'⟩
                      have hb_11 := below_then hb_10 hb_11'
                      have zbz_11 := hb_11'.size
                      have ybz := hb_10.size
                      have sq_11 := sq.below hb_11'
                      have cHC0_11 := cell_later hb_11 HC0.out
                      have cHC1_11 := cell_later hb_11 HC1.out
                      have cHC2_11 := cell_later hb_11 HC2.out
                      have cHD0_11 := cell_later hb_11 HD0.out
                      have cHD1_11 := cell_later hb_11 HD1.out
                      have cHD2_11 := cell_later hb_11 HD2.out
                      obtain ⟨A8, c8, rfl⟩ := own_slice o3
                      clear hb_11' sq cHC0_10 cHC1_10 cHC2_10 cHD0_10 cHD1_10 cHD2_10 hb_10
                      cases he : decide (x = x' ∧ y = y' ∧ l = l')
                      case false =>
                        have HE1 : Hid ((batchB x y l == batchB x' y' l') = false) := by rw [Hid, batchB_inj HR.out HR2.out]; exact he
                        have HE2 := hide he
                        clear he
                        go_wp2_with fail
                        have hbc := hb_11
                        have hbd := Below.refl w_11.heap.size w_11
                        have hS0 : w_11.cell? ⟨b, off + k * 4, none⟩ = some (.int .i64 x) := cell_later hbc HC0.out
                        have hS1 : w_11.cell? ⟨b, off + k * 4 + 1, none⟩ = some (.int .i64 y) := cell_later hbc HC1.out
                        have hS2 : w_11.cell? ⟨b, off + k * 4 + 2, none⟩ = some (.slice A1 n1 c1) := cell_later hbc HC2.out
                        have hS3 : w_11.cell? ⟨b, off + q * 4, none⟩ = some (.int .i64 x') := cell_later hbc HD0.out
                        have hS4 : w_11.cell? ⟨b, off + q * 4 + 1, none⟩ = some (.int .i64 y') := cell_later hbc HD1.out
                        have hS5 : w_11.cell? ⟨b, off + q * 4 + 2, none⟩ = some (.slice A3 m1 c3) := cell_later hbc HD2.out
                        go_region_held3 (fun w' => w'.cell? ⟨b, off + k * 4, none⟩ = some (.int .i64 x) ∧ w'.cell? ⟨b, off + k * 4 + 1, none⟩ = some (.int .i64 y) ∧ w'.cell? ⟨b, off + k * 4 + 2, none⟩ = some (.slice A1 n1 c1) ∧ w'.cell? ⟨b, off + q * 4, none⟩ = some (.int .i64 x') ∧ w'.cell? ⟨b, off + q * 4 + 1, none⟩ = some (.int .i64 y') ∧ w'.cell? ⟨b, off + q * 4 + 2, none⟩ = some (.slice A3 m1 c3))
                          (first | exact ⟨cell_later hbc HC0.out, cell_later hbc HC1.out, cell_later hbc HC2.out, cell_later hbc HD0.out, cell_later hbc HD1.out, cell_later hbc HD2.out⟩ | go_keep)
                          ((first
                            | (go_at_call 18; refine (law4_num _ _).mono ?_; rintro e w6 ⟨rfl, rfl⟩)
                            | (go_at_call 19; refine (eqBytes_b _ (sq_11.below (by first | exact hbd | exact hbd.drew | exact hbd.drew.drew)) (by omega) ((Sl.of_own o3).below (by first | exact hbd | exact hbd.drew | exact hbd.drew.drew)) (by omega) HE1).mono ?_; rintro e w_12 ⟨rfl, hb6⟩; have hbc := below_then (by first | exact hbc | exact hbc.drew | exact hbc.drew.drew) hb6; have hbd := below_then (by first | exact hbd | exact hbd.drew | exact hbd.drew.drew) hb6)
                            | (go_at_call 25; refine (ref0_EqBatch x y x' y' _ (HS1.out.below (by first | exact hbc | exact hbc.drew | exact hbc.drew.drew)) (by omega) (HT1.out.below (by first | exact hbc | exact hbc.drew | exact hbc.drew.drew)) (by omega) HE2).mono ?_; rintro e w_12 ⟨rfl, hb6⟩; have hbc := below_then (by first | exact hbc | exact hbc.drew | exact hbc.drew.drew) hb6; have hbd := below_then (by first | exact hbd | exact hbd.drew | exact hbd.drew.drew) hb6)
                            | fail))
                        have hb_12' := hbd
                        have hb_12 := below_then hb_11 hb_12'
                        have sq_12 := sq_11.below hb_12'
                        have bz_12 := own_later o3 hb_12'
                        have zbz_12 := Nat.le_trans zbz_11 hb_12'.size
                        have cHC0_12 := cell_later hb_12 HC0.out
                        have cHC1_12 := cell_later hb_12 HC1.out
                        have cHC2_12 := cell_later hb_12 HC2.out
                        have cHD0_12 := cell_later hb_12 HD0.out
                        have cHD1_12 := cell_later hb_12 HD1.out
                        have cHD2_12 := cell_later hb_12 HD2.out
                        clear hb_12' sq_11 o3 zbz_11 cHC0_11 cHC1_11 cHC2_11 cHD0_11 cHD1_11 cHD2_11 hb_11
                        clear hbc hbd hS0 hS1 hS2 hS3 hS4 hS5
                        clear bz_12 zbz_12
                        go_wp2_with fail
                        go_roundw
                        case rel => exact ⟨q + 1, by go_num, by omega, hb_12, sq_12⟩
                        case measure => simp [intOf]; omega
                      case true =>
                        have HE1 : Hid ((batchB x y l == batchB x' y' l') = true) := by rw [Hid, batchB_inj HR.out HR2.out]; exact he
                        have HE2 := hide he
                        clear he
                        go_wp2_with fail
                        have hbc := hb_11
                        have hbd := Below.refl w_11.heap.size w_11
                        have hS0 : w_11.cell? ⟨b, off + k * 4, none⟩ = some (.int .i64 x) := cell_later hbc HC0.out
                        have hS1 : w_11.cell? ⟨b, off + k * 4 + 1, none⟩ = some (.int .i64 y) := cell_later hbc HC1.out
                        have hS2 : w_11.cell? ⟨b, off + k * 4 + 2, none⟩ = some (.slice A1 n1 c1) := cell_later hbc HC2.out
                        have hS3 : w_11.cell? ⟨b, off + q * 4, none⟩ = some (.int .i64 x') := cell_later hbc HD0.out
                        have hS4 : w_11.cell? ⟨b, off + q * 4 + 1, none⟩ = some (.int .i64 y') := cell_later hbc HD1.out
                        have hS5 : w_11.cell? ⟨b, off + q * 4 + 2, none⟩ = some (.slice A3 m1 c3) := cell_later hbc HD2.out
                        go_region_held3 (fun w' => w'.cell? ⟨b, off + k * 4, none⟩ = some (.int .i64 x) ∧ w'.cell? ⟨b, off + k * 4 + 1, none⟩ = some (.int .i64 y) ∧ w'.cell? ⟨b, off + k * 4 + 2, none⟩ = some (.slice A1 n1 c1) ∧ w'.cell? ⟨b, off + q * 4, none⟩ = some (.int .i64 x') ∧ w'.cell? ⟨b, off + q * 4 + 1, none⟩ = some (.int .i64 y') ∧ w'.cell? ⟨b, off + q * 4 + 2, none⟩ = some (.slice A3 m1 c3))
                          (first | exact ⟨cell_later hbc HC0.out, cell_later hbc HC1.out, cell_later hbc HC2.out, cell_later hbc HD0.out, cell_later hbc HD1.out, cell_later hbc HD2.out⟩ | go_keep)
                          ((first
                            | (go_at_call 18; refine (law4_num _ _).mono ?_; rintro e w6 ⟨rfl, rfl⟩)
                            | (go_at_call 19; refine (eqBytes_b _ (sq_11.below (by first | exact hbd | exact hbd.drew | exact hbd.drew.drew)) (by omega) ((Sl.of_own o3).below (by first | exact hbd | exact hbd.drew | exact hbd.drew.drew)) (by omega) HE1).mono ?_; rintro e w_12 ⟨rfl, hb6⟩; have hbc := below_then (by first | exact hbc | exact hbc.drew | exact hbc.drew.drew) hb6; have hbd := below_then (by first | exact hbd | exact hbd.drew | exact hbd.drew.drew) hb6)
                            | (go_at_call 25; refine (ref0_EqBatch x y x' y' _ (HS1.out.below (by first | exact hbc | exact hbc.drew | exact hbc.drew.drew)) (by omega) (HT1.out.below (by first | exact hbc | exact hbc.drew | exact hbc.drew.drew)) (by omega) HE2).mono ?_; rintro e w_12 ⟨rfl, hb6⟩; have hbc := below_then (by first | exact hbc | exact hbc.drew | exact hbc.drew.drew) hb6; have hbd := below_then (by first | exact hbd | exact hbd.drew | exact hbd.drew.drew) hb6)
                            | fail))
                        have hb_12' := hbd
                        have hb_12 := below_then hb_11 hb_12'
                        have sq_12 := sq_11.below hb_12'
                        have bz_12 := own_later o3 hb_12'
                        have zbz_12 := Nat.le_trans zbz_11 hb_12'.size
                        have cHC0_12 := cell_later hb_12 HC0.out
                        have cHC1_12 := cell_later hb_12 HC1.out
                        have cHC2_12 := cell_later hb_12 HC2.out
                        have cHD0_12 := cell_later hb_12 HD0.out
                        have cHD1_12 := cell_later hb_12 HD1.out
                        have cHD2_12 := cell_later hb_12 HD2.out
                        clear hb_12' sq_11 o3 zbz_11 cHC0_11 cHC1_11 cHC2_11 cHD0_11 cHD1_11 cHD2_11 hb_11
                        clear hbc hbd hS0 hS1 hS2 hS3 hS4 hS5
                        clear bz_12 zbz_12
                        go_wp2_with fail
                        go_roundw
                        case rel => exact ⟨q + 1, by go_num, by omega, hb_12, sq_12⟩
                        case measure => simp [intOf]; omega
                  · go_wp2_with fail
                    go_roundw
                    case rel => exact ⟨k + 1, by omega, by go_num, hb_10⟩
                    case measure => simp [intOf]; omega
      · go_wp2_with fail
        refine (law4_wakes _).mono ?_
        rintro e w1 ⟨rfl, hb1⟩
        go_wp2_with fail
        go_ret
        exact ⟨rfl, below_then hb hb1⟩
    · go_wp2_with fail
      refine (law4_wakes _).mono ?_
      rintro e w1 ⟨rfl, hb1⟩
      go_wp2_with fail
      go_ret
      exact ⟨rfl, below_then hb hb1⟩
end Go.Proofs.Ytihpmaifcebpiaa
