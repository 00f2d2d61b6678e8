/-
  The walk of BatchTurned: whatever the list of records, the call answers true and changes nothing that was there.
-/
import Derived.Test.YtihpmaifcebpiaaBatL
import Derived.Test.YtihpmaifcebpiaaBatE
import Derived.Test.YtihpmaifcebpiaaBatR
import Derived.Test.YtihpmaifcebpiaaBatC
import Derived.Test.YtihpmaifcebpiaaSpo
import Derived.Deep.RegionHeld3
namespace Go.Proofs.Ytihpmaifcebpiaa
open Go.RowKit

set_option maxRecDepth 100000 in
set_option maxHeartbeats 4000000 in
theorem walk_BatchTurned {v : Value} {w : World} (ho : ∃ A n c, v = .slice A n c ∧ Asks4 w A n) :
    Calls Try.prog 6 #[v] w fun r w' => r = .returned (.bool true) ∧ Below w.heap.size w w' := by
  obtain ⟨A, n, c, rfl, hn, h⟩ := ho
  obtain ⟨i0, hi, hz0, hz1, hz2⟩ := info_parts Try.infoByte
  go_enter Try.func6, Try.ntmps6
  go_wp2_with fail
  go_loopw [3] (fun i wr => ∃ k : Nat, k ≤ n ∧ i = .int .i64 k ∧ Below w.heap.size w wr) (fun i _ => n - (intOf i).toNat)
  case atStart => exact ⟨0, Nat.zero_le _, rfl, Below.refl _ _⟩
  case round =>
    obtain ⟨k, hk, rfl, hb⟩ := hrel
    obtain ⟨wo, rfl⟩ : ∃ wo : World, wo = wr := ⟨_, rfl⟩
    by_cases hlt : k < n
    · obtain ⟨b, off, rfl, hc⟩ := h (by omega)
      obtain ⟨x, y, A1, n1, c1, l, A2, n2, c2, bs, C0, C1, C2, C3, ⟨S1, hn1, hz⟩, ⟨S3, hn3, hcc3, hcm3⟩⟩ := hc k hlt
      have e0 := cell_later hb C0
      have e1 := cell_later hb C1
      have e2 := cell_later hb C2
      have e3 := cell_later hb C3
      have HC0 := hide C0
      have HC1 := hide C1
      have HC2 := hide C2
      have HC3 := hide C3
      have HS1 := hide S1
      have HS3 := hide S3
      have HZ := hide hz
      have HTZ : Hid (TxZ l) := fun t ht => by have := hz t ht; omega
      obtain ⟨T, ht⟩ : ∃ T, twT l n1 = T := ⟨_, rfl⟩
      have HT := hide ht
      have HL := hide S1.txlen
      have HBL := hide S3.blen
      clear C0 C1 C2 C3 S1 S3 hz ht h hc
      by_cases hm : k < 8
      · cases hv : heavy4 T n2
        case true =>
          go_wp2_with fail
          refine (law4_heavy _ (HS1.out.below hb) hn1 HZ.out HT.out (by omega)).mono ?_
          rintro e w1 ⟨rfl, hb1'⟩
          rw [hv]
          go_wp2_with fail
          go_ret
          exact ⟨rfl, below_then hb hb1'⟩
        case false =>
          obtain ⟨hT, hn2'⟩ := heavy4_false hv
          have hts := twT_small l n1 (by rw [HT.out]; exact hT)
          have hn1' : n1 ≤ 5000 := by omega
          obtain ⟨L, HLL⟩ : ∃ L, Hid ((batchB x y l).length = L) := ⟨_, rfl⟩
          clear hts
          go_wp2_with fail
          refine (law4_heavy _ (HS1.out.below hb) hn1 HZ.out HT.out (by omega)).mono ?_
          rintro e w1 ⟨rfl, hb1'⟩
          rw [hv]
          have hb_0 := below_then hb hb1'
          clear e0 e1 e2 e3 hb1' hb HT hv hT
          have cHC0_0 := cell_later hb_0 HC0.out
          have cHC1_0 := cell_later hb_0 HC1.out
          have cHC2_0 := cell_later hb_0 HC2.out
          cases hr : mayB x y l with
          | false =>
            have HR := hide hr
            clear hr
            go_wp2_with fail
            refine (batch_Bytes_no x y _ (HS1.out.below hb_0) (by omega) HTZ.out HR.out).mono ?_
            rintro e w_1 ⟨rfl, hb_1'⟩
            have hb_1 := below_then hb_0 hb_1'
            have cHC0_1 := cell_later hb_1 HC0.out
            have cHC1_1 := cell_later hb_1 HC1.out
            have cHC2_1 := cell_later hb_1 HC2.out
            clear hb_1' cHC0_0 cHC1_0 cHC2_0 hb_0
            go_wp2_with fail
            refine (law4_num _ _).mono ?_
            rintro e w' ⟨rfl, rfl⟩
            go_wp2_with fail
            go_roundw
            case rel => exact ⟨k + 1, by omega, by go_num, hb_1⟩
            case measure => simp [intOf]; omega
          | true =>
            have HR := hide hr
            have hL2 : L ≤ 2000 := by rw [← HLL.out]; exact (batch_size hr).2
            clear hr
            go_wp2_with fail
            refine (batch_Bytes_yes x y _ (HS1.out.below hb_0) HTZ.out HR.out).mono ?_
            rintro e w_1 ⟨v1, rfl, o1, hb_1'⟩
            have hb_1 := below_then hb_0 hb_1'
            have zbx_1 := hb_1'.size
            have ybx := hb_0.size
            have cHC0_1 := cell_later hb_1 HC0.out
            have cHC1_1 := cell_later hb_1 HC1.out
            have cHC2_1 := cell_later hb_1 HC2.out
            rw [HLL.out] at o1
            obtain ⟨A5, c5, rfl, hc5, hc5m⟩ := own_slice_cap o1
            unfold maxLen at hc5m
            clear hb_1' cHC0_0 cHC1_0 cHC2_0 hb_0
            go_wp2_with fail
            refine (law4_num _ _).mono ?_
            rintro e w' ⟨rfl, rfl⟩
            have s5 := Sl.of_own o1
            clear o1 zbx_1 cHC0_1 cHC1_1 cHC2_1
            go_wp2_with fail
            go_loopw [6] (fun i wr => ∃ j : Nat, i = .int .i64 j ∧ j ≤ 200000 ∧ Below w.heap.size w wr ∧ Sl wr 1 A5 L (bytes8 (batchB x y l))) (fun i _ => 200000 - (intOf i).toNat)
            case atStart => exact ⟨0, rfl, by omega, hb_1, s5⟩
            case round =>
              obtain ⟨j, rfl, hj, hb_2, sj⟩ := hrel
              clear hb_1 s5
              obtain ⟨w_2, rfl⟩ : ∃ wo : World, wo = wr := ⟨_, rfl⟩
              by_cases hjL : j < L
              · obtain ⟨u, HU⟩ : ∃ u, Hid ((batchB x y l)[j]? = some u) := by obtain ⟨_, _, u, _, h, _⟩ := sj.byte hjL; exact ⟨u, h⟩
                obtain ⟨d, hd0, hd1, hd⟩ : ∃ d : Nat, 0 < d ∧ d < 256 ∧ Hid (d = 1 + (k + j) % 255) := ⟨1 + (k + j) % 255, by omega, by omega, rfl⟩
                obtain ⟨u', HX⟩ : ∃ u', Hid (u ^^^ UInt8.ofNat d = u') := ⟨_, rfl⟩
                have hxor : bits .xor .u8 (u.toNat : Int) (1 + ((k : Int) + (j : Int)) % 255) = (u'.toNat : Int) := by rw [← HX.out, ← xor_u8d u hd1, hd.out]; congr 1
                have HNE : Hid ((batchB x y l).set j u' ≠ batchB x y l) := set_ne HU.out (by rw [← HX.out]; exact xor_ne u hd0 hd1)
                go_wp2_with fail
                refine (ref0_CopyBytes _ _ _ _ _ sj (by omega) (by omega)).mono ?_
                rintro e w_a ⟨v2, rfl, oa, hba'⟩
                obtain ⟨A6, c6, rfl, hc6, hc6m⟩ := own_slice_cap oa
                unfold maxLen at hc6m
                obtain ⟨g, cap, hv, hgb, hgl⟩ := oa.form (by omega)
                injection hv with hA _ hc
                subst hA
                subst hc
                have c0 : w_a.cell? ⟨g, j, none⟩ = some (.int .u8 u.toNat) := by rw [oa.cellAt j (by omega)]; simp [bytes8, HU.out]
                have f0 := oa.frozenAt j
                have hst := hide (fun u => oa.stored j u)
                have HB : Hid (∀ u, Below w_2.heap.size w_2 (w_a.setCell ⟨g, j, none⟩ u)) := fun u => below_set hba' hgb u
                clear oa hba'
                go_wp2_with fail
                have hb_3' := HB.out (.int .u8 u'.toNat)
                have oy := (hst.out (.int .u8 u'.toNat)).1
                rw [show (bytes8 (batchB x y l)).set j (.int .u8 u'.toNat) = bytes8 ((batchB x y l).set j u') by simp [bytes8, List.map_set]] at oy
                generalize w_a.setCell ⟨g, j, none⟩ (.int .u8 u'.toNat) = w_3 at hb_3' oy ⊢
                have HBL2 : Hid (((batchB x y l).set j u').length = L) := by rw [Hid, List.length_set]; exact HLL.out
                obtain ⟨bs', HBS⟩ : ∃ bs', Hid ((batchB x y l).set j u' = bs') := ⟨_, rfl⟩
                rw [HBS.out] at oy HNE HBL2
                clear HB hst c0 f0 hxor hd HX
                have hb_3 := below_then hb_2 hb_3'
                have zyy_3 := hb_3'.size
                have yyy := hb_2.size
                have sj_3 := sj.below hb_3'
                clear hb_3' sj hb_2
                cases hp : parseB bs' with
                | none =>
                  have HP := hide hp
                  clear hp
                  go_wp2_with fail
                  refine (batch_Parse_no _ (Sl.of_own oy) hc6 hc6m HP.out).mono ?_
                  rintro e w_4 ⟨rfl, hb_4'⟩
                  have hb_4 := below_then hb_3 hb_4'
                  have sj_4 := sj_3.below hb_4'
                  have yy_4 := own_later oy hb_4'
                  have zyy_4 := Nat.le_trans zyy_3 hb_4'.size
                  clear hb_4' sj_3 oy zyy_3 hb_3
                  have hb_5 : Below w.heap.size w (w_4.alloc (.cells #[.int .i64 0, .int .i64 0, .slice none 0 0] 26)) := hb_4.alloc hb_4.size _
                  have sj_5 := sj_4.alloc (.cells #[.int .i64 0, .int .i64 0, .slice none 0 0] 26)
                  have yy_5 := yy_4.alloc (.cells #[.int .i64 0, .int .i64 0, .slice none 0 0] 26)
                  have zyy_5 : _ ≤ (w_4.alloc (.cells #[.int .i64 0, .int .i64 0, .slice none 0 0] 26)).heap.size := Nat.le_trans zyy_4 (by simp)
                  clear hb_4 sj_4 yy_4 zyy_4
                  go_wp2_with fail
                  refine (law4_num _ _).mono ?_
                  rintro e w' ⟨rfl, rfl⟩
                  go_wp2_with fail
                  refine (law4_num _ _).mono ?_
                  rintro e w' ⟨rfl, rfl⟩
                  go_wp2_with fail
                  refine (ref0_EqBatch (xs := []) (ys := []) 0 0 0 0 _ Sl.nil_ (by omega) Sl.nil_ (by omega) (r := true) (by simp [Hid])).mono ?_
                  rintro e w_6 ⟨rfl, hb_6'⟩
                  have hb_6 := below_then hb_5 hb_6'
                  have sj_6 := sj_5.below hb_6'
                  have yy_6 := own_later yy_5 hb_6'
                  have zyy_6 := Nat.le_trans zyy_5 hb_6'.size
                  clear hb_6' sj_5 yy_5 zyy_5 hb_5
                  go_wp2_with fail
                  go_roundw
                  case rel => exact ⟨j + 1 + L / 40, by go_num, by omega, hb_6, sj_6⟩
                  case measure => simp [intOf]; omega
                | some r =>
                  obtain ⟨a2, n2', l2⟩ := r
                  have hm2 := (parseB_back hp).2
                  have HE : Hid (decide (a2 = x ∧ n2' = y ∧ l2 = l) = false) := turned_other hp HNE.out
                  have HBB : Hid (bs' = batchB a2 n2' l2) := (parseB_back hp).1
                  have HP := hide hp
                  have HM2 := hide hm2
                  obtain ⟨q2, HQ2⟩ : ∃ q2, Hid (l2.length = q2) := ⟨_, rfl⟩
                  have hq2 : q2 ≤ 8 := by rw [← HQ2.out]; exact (may_z hm2).1
                  have HTZ2 := hide (may_z hm2).2
                  clear hp hm2
                  go_wp2_with fail
                  refine (batch_Parse_yes _ (Sl.of_own oy) hc6 hc6m HP.out).mono ?_
                  rintro e w_4 ⟨v3, rfl, o3, hb_4'⟩
                  have hb_4 := below_then hb_3 hb_4'
                  have ztx_4 := hb_4'.size
                  have ytx := hb_3.size
                  have sj_4 := sj_3.below hb_4'
                  have yy_4 := own_later oy hb_4'
                  have zyy_4 := Nat.le_trans zyy_3 hb_4'.size
                  rw [HQ2.out] at o3
                  obtain ⟨A8, c8, rfl⟩ := own_slice o3
                  clear hb_4' sj_3 oy zyy_3 hb_3
                  have hb_5 : Below w.heap.size w (w_4.alloc (.cells #[.int .i64 a2, .int .i64 n2', .slice A8 q2 c8] 26)) := hb_4.alloc hb_4.size _
                  have sj_5 := sj_4.alloc (.cells #[.int .i64 a2, .int .i64 n2', .slice A8 q2 c8] 26)
                  have yy_5 := yy_4.alloc (.cells #[.int .i64 a2, .int .i64 n2', .slice A8 q2 c8] 26)
                  have zyy_5 : _ ≤ (w_4.alloc (.cells #[.int .i64 a2, .int .i64 n2', .slice A8 q2 c8] 26)).heap.size := Nat.le_trans zyy_4 (by simp)
                  have tx_5 := o3.alloc (.cells #[.int .i64 a2, .int .i64 n2', .slice A8 q2 c8] 26)
                  have ztx_5 : _ ≤ (w_4.alloc (.cells #[.int .i64 a2, .int .i64 n2', .slice A8 q2 c8] 26)).heap.size := Nat.le_trans ztx_4 (by simp)
                  have kb_5 := hide (Blk.new w_4 26 #[.int .i64 a2, .int .i64 n2', .slice A8 q2 c8])
                  clear hb_4 sj_4 yy_4 zyy_4 o3 ztx_4
                  go_wp2_with fail
                  refine (law4_num _ _).mono ?_
                  rintro e w' ⟨rfl, rfl⟩
                  go_wp2_with fail
                  refine (batch_Bytes_yes a2 n2' _ (Sl.of_own tx_5) HTZ2.out HM2.out).mono ?_
                  rintro e w_6 ⟨v4, rfl, o4, hb_6'⟩
                  have hb_6 := below_then hb_5 hb_6'
                  have zbw_6 := hb_6'.size
                  have ybw := hb_5.size
                  have sj_6 := sj_5.below hb_6'
                  have yy_6 := own_later yy_5 hb_6'
                  have zyy_6 := Nat.le_trans zyy_5 hb_6'.size
                  have tx_6 := own_later tx_5 hb_6'
                  have ztx_6 := Nat.le_trans ztx_5 hb_6'.size
                  have kb_6 := hide (kb_5.out.later hb_6')
                  rw [← HBB.out, HBL2.out] at o4
                  obtain ⟨A9, c9, rfl⟩ := own_slice o4
                  clear hb_6' sj_5 yy_5 zyy_5 tx_5 ztx_5 kb_5 hb_5
                  have HEY : Hid ((bs' == bs') = true) := by simp [Hid]
                  go_wp2_with fail
                  have hbc := hb_6
                  have hbd := Below.refl w_6.heap.size w_6
                  have hS0 : w_6.cell? ⟨b, off + k * 4, none⟩ = some (.int .i64 x) := cell_later hbc HC0.out
                  have hS1 : w_6.cell? ⟨b, off + k * 4 + 1, none⟩ = some (.int .i64 y) := cell_later hbc HC1.out
                  have hS2 : w_6.cell? ⟨b, off + k * 4 + 2, none⟩ = some (.slice A1 n1 c1) := cell_later hbc HC2.out
                  have hS3 : w_6.cell? ⟨w_4.heap.size, 0, none⟩ = some (.int .i64 a2) := (kb_6.out.later hbd).at_ rfl
                  have hS4 : w_6.cell? ⟨w_4.heap.size, 1, none⟩ = some (.int .i64 n2') := (kb_6.out.later hbd).at_ rfl
                  have hS5 : w_6.cell? ⟨w_4.heap.size, 2, none⟩ = some (.slice A8 q2 c8) := (kb_6.out.later hbd).at_ rfl
                  go_region_held3 (fun w' => w'.cell? ⟨b, off + k * 4, none⟩ = some (.int .i64 x) ∧ w'.cell? ⟨b, off + k * 4 + 1, none⟩ = some (.int .i64 y) ∧ w'.cell? ⟨b, off + k * 4 + 2, none⟩ = some (.slice A1 n1 c1) ∧ w'.cell? ⟨w_4.heap.size, 0, none⟩ = some (.int .i64 a2) ∧ w'.cell? ⟨w_4.heap.size, 1, none⟩ = some (.int .i64 n2') ∧ w'.cell? ⟨w_4.heap.size, 2, none⟩ = some (.slice A8 q2 c8))
                    (first | exact ⟨cell_later hbc HC0.out, cell_later hbc HC1.out, cell_later hbc HC2.out, (kb_6.out.later hbd).at_ rfl, (kb_6.out.later hbd).at_ rfl, (kb_6.out.later hbd).at_ rfl⟩ | go_keep)
                    ((first
                      | (go_at_call 18; refine (law4_num _ _).mono ?_; rintro e w6 ⟨rfl, rfl⟩)
                      | (go_at_call 19; refine (eqBytes_b _ ((Sl.of_own o4).below (by first | exact hbd | exact hbd.drew | exact hbd.drew.drew)) (by omega) ((Sl.of_own yy_6).below (by first | exact hbd | exact hbd.drew | exact hbd.drew.drew)) (by omega) HEY).mono ?_; rintro e w_7 ⟨rfl, hb6⟩; have hbc := below_then (by first | exact hbc | exact hbc.drew | exact hbc.drew.drew) hb6; have hbd := below_then (by first | exact hbd | exact hbd.drew | exact hbd.drew.drew) hb6)
                      | (go_at_call 25; refine (ref0_EqBatch a2 n2' x y _ ((Sl.of_own tx_6).below (by first | exact hbd | exact hbd.drew | exact hbd.drew.drew)) (by omega) (HS1.out.below (by first | exact hbc | exact hbc.drew | exact hbc.drew.drew)) (by omega) HE).mono ?_; rintro e w_7 ⟨rfl, hb6⟩; have hbc := below_then (by first | exact hbc | exact hbc.drew | exact hbc.drew.drew) hb6; have hbd := below_then (by first | exact hbd | exact hbd.drew | exact hbd.drew.drew) hb6)
                      | fail))
                  have hb_7' := hbd
                  have hb_7 := below_then hb_6 hb_7'
                  have sj_7 := sj_6.below hb_7'
                  have yy_7 := own_later yy_6 hb_7'
                  have zyy_7 := Nat.le_trans zyy_6 hb_7'.size
                  have tx_7 := own_later tx_6 hb_7'
                  have ztx_7 := Nat.le_trans ztx_6 hb_7'.size
                  have bw_7 := own_later o4 hb_7'
                  have zbw_7 := Nat.le_trans zbw_6 hb_7'.size
                  have kb_7 := hide (kb_6.out.later hb_7')
                  clear hb_7' sj_6 yy_6 zyy_6 tx_6 ztx_6 o4 zbw_6 kb_6 hb_6
                  clear hbc hbd hS0 hS1 hS2 hS3 hS4 hS5
                  clear bw_7 zbw_7 yy_7 zyy_7 kb_7 tx_7 ztx_7
                  go_wp2_with fail
                  go_roundw
                  case rel => exact ⟨j + 1 + L / 40, by go_num, by omega, hb_7, sj_7⟩
                  case measure => simp [intOf]; omega
              · go_wp2_with fail
                go_roundw
                case rel => exact ⟨k + 1, by omega, by go_num, hb_2⟩
                case measure => simp [intOf]; omega
      · go_wp2_with fail
        refine (law4_wakes _).mono ?_
        rintro e w1 ⟨rfl, hb1⟩
        go_wp2_with fail
        go_ret
        exact ⟨rfl, below_then hb hb1⟩
    · go_wp2_with fail
      refine (law4_wakes _).mono ?_
      rintro e w1 ⟨rfl, hb1⟩
      go_wp2_with fail
      go_ret
      exact ⟨rfl, below_then hb hb1⟩
end Go.Proofs.Ytihpmaifcebpiaa
