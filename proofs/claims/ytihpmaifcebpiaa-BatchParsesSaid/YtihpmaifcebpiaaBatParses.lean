/-
  The walk of BatchParses: whatever the list of records, the call answers true and changes nothing that was there.
-/
import Derived.Test.YtihpmaifcebpiaaBatL
import Derived.Test.YtihpmaifcebpiaaBatE
import Derived.Test.YtihpmaifcebpiaaBatR
import Derived.Test.YtihpmaifcebpiaaBatT
namespace Go.Proofs.Ytihpmaifcebpiaa
open Go.RowKit

set_option maxRecDepth 100000 in
set_option maxHeartbeats 4000000 in
theorem walk_BatchParses {v : Value} {w : World} (ho : ∃ A n c, v = .slice A n c ∧ Asks4 w A n) :
    Calls Try.prog 4 #[v] w fun r w' => r = .returned (.bool true) ∧ Below w.heap.size w w' := by
  obtain ⟨A, n, c, rfl, hn, h⟩ := ho
  obtain ⟨i0, hi, hz0, hz1, hz2⟩ := info_parts Try.infoByte
  go_enter Try.func4, Try.ntmps4
  go_wp2_with fail
  go_loopw [3] (fun i wr => ∃ k : Nat, k ≤ n ∧ i = .int .i64 k ∧ Below w.heap.size w wr) (fun i _ => n - (intOf i).toNat)
  case atStart => exact ⟨0, Nat.zero_le _, rfl, Below.refl _ _⟩
  case round =>
    obtain ⟨k, hk, rfl, hb⟩ := hrel
    obtain ⟨wo, rfl⟩ : ∃ wo : World, wo = wr := ⟨_, rfl⟩
    by_cases hlt : k < n
    · obtain ⟨b, off, rfl, hc⟩ := h (by omega)
      obtain ⟨x, y, A1, n1, c1, l, A2, n2, c2, bs, C0, C1, C2, C3, ⟨S1, hn1, hz⟩, ⟨S3, hn3, hcc3, hcm3⟩⟩ := hc k hlt
      have e0 := cell_later hb C0
      have e1 := cell_later hb C1
      have e2 := cell_later hb C2
      have e3 := cell_later hb C3
      have HC0 := hide C0
      have HC1 := hide C1
      have HC2 := hide C2
      have HC3 := hide C3
      have HS1 := hide S1
      have HS3 := hide S3
      have HZ := hide hz
      have HTZ : Hid (TxZ l) := fun t ht => by have := hz t ht; omega
      obtain ⟨T, ht⟩ : ∃ T, twT l n1 = T := ⟨_, rfl⟩
      have HT := hide ht
      have HL := hide S1.txlen
      have HBL := hide S3.blen
      clear C0 C1 C2 C3 S1 S3 hz ht h hc
      by_cases hm : k < 8
      · cases hv : heavy4 T n2
        case true =>
          go_wp2_with fail
          refine (law4_heavy _ (HS1.out.below hb) hn1 HZ.out HT.out (by omega)).mono ?_
          rintro e w1 ⟨rfl, hb1'⟩
          rw [hv]
          go_wp2_with fail
          go_ret
          exact ⟨rfl, below_then hb hb1'⟩
        case false =>
          obtain ⟨hT, hn2'⟩ := heavy4_false hv
          have hts := twT_small l n1 (by rw [HT.out]; exact hT)
          have hn1' : n1 ≤ 5000 := by omega
          obtain ⟨L, HLL⟩ : ∃ L, Hid ((batchB x y l).length = L) := ⟨_, rfl⟩
          clear hts
          go_wp2_with fail
          refine (law4_heavy _ (HS1.out.below hb) hn1 HZ.out HT.out (by omega)).mono ?_
          rintro e w1 ⟨rfl, hb1'⟩
          rw [hv]
          have hb_0 := below_then hb hb1'
          clear e0 e1 e2 e3 hb1' hb HT hv hT
          have cHC3_0 := cell_later hb_0 HC3.out
          go_wp2_with fail
          refine (ref0_CopyBytes _ _ _ _ _ (HS3.out.below hb_0) (by omega) (by omega)).mono ?_
          rintro e w_1 ⟨v1, rfl, o1, hb_1'⟩
          have hb_1 := below_then hb_0 hb_1'
          have zbx_1 := hb_1'.size
          have ybx := hb_0.size
          have cHC3_1 := cell_later hb_1 HC3.out
          obtain ⟨A5, c5, rfl, hc5, hc5m⟩ := own_slice_cap o1
          unfold maxLen at hc5m
          clear hb_1' cHC3_0 hb_0
          obtain ⟨o, HO⟩ : ∃ o, Hid (parseB bs = o) := ⟨_, rfl⟩
          cases o with
          | none =>
            go_wp2_with fail
            refine (batch_Parse_no _ (Sl.of_own o1) hc5 hc5m HO.out).mono ?_
            rintro e w_2 ⟨rfl, hb_2'⟩
            have hb_2 := below_then hb_1 hb_2'
            have bx_2 := own_later o1 hb_2'
            have zbx_2 := Nat.le_trans zbx_1 hb_2'.size
            have cHC3_2 := cell_later hb_2 HC3.out
            clear hb_2' o1 zbx_1 cHC3_1 hb_1
            have hb_3 : Below w.heap.size w (w_2.alloc (.cells #[.int .i64 0, .int .i64 0, .slice none 0 0] 26)) := hb_2.alloc hb_2.size _
            have bx_3 := bx_2.alloc (.cells #[.int .i64 0, .int .i64 0, .slice none 0 0] 26)
            have zbx_3 : _ ≤ (w_2.alloc (.cells #[.int .i64 0, .int .i64 0, .slice none 0 0] 26)).heap.size := Nat.le_trans zbx_2 (by simp)
            have cHC3_3 := cell_later hb_3 HC3.out
            have kh_3 := hide (Blk.new w_2 26 #[.int .i64 0, .int .i64 0, .slice none 0 0])
            clear hb_2 bx_2 zbx_2 cHC3_2
            go_wp2_with fail
            refine (ref4_ParseBatch _ (HS3.out.below hb_3) hcc3 hcm3 HO).mono ?_
            rintro e w_4 ⟨rfl, hb_4'⟩
            have hb_4 := below_then hb_3 hb_4'
            have bx_4 := own_later bx_3 hb_4'
            have zbx_4 := Nat.le_trans zbx_3 hb_4'.size
            have kh_4 := hide (kh_3.out.later hb_4')
            have cHC3_4 := cell_later hb_4 HC3.out
            clear hb_4' bx_3 zbx_3 kh_3 cHC3_3 hb_3
            have hb_5 : Below w.heap.size w (w_4.alloc (.cells #[.int .i64 0, .int .i64 0, .slice none 0 0] 26)) := hb_4.alloc hb_4.size _
            have bx_5 := bx_4.alloc (.cells #[.int .i64 0, .int .i64 0, .slice none 0 0] 26)
            have zbx_5 : _ ≤ (w_4.alloc (.cells #[.int .i64 0, .int .i64 0, .slice none 0 0] 26)).heap.size := Nat.le_trans zbx_4 (by simp)
            have kh_5 := hide (kh_4.out.alloc (.cells #[.int .i64 0, .int .i64 0, .slice none 0 0] 26))
            have cHC3_5 := cell_later hb_5 HC3.out
            have kw_5 := hide (Blk.new w_4 26 #[.int .i64 0, .int .i64 0, .slice none 0 0])
            clear hb_4 bx_4 zbx_4 kh_4 cHC3_4
            go_wp2_with fail
            refine (law4_num _ _).mono ?_
            rintro e w' ⟨rfl, rfl⟩
            go_wp2_with fail
            refine (law4_num _ _).mono ?_
            rintro e w' ⟨rfl, rfl⟩
            have f0 : (w_4.alloc (.cells #[.int .i64 0, .int .i64 0, .slice none 0 0] 26)).cell? ⟨w_2.heap.size, 0, none⟩ = some (.int .i64 0) := kh_5.out.at_ rfl
            have f1 : (w_4.alloc (.cells #[.int .i64 0, .int .i64 0, .slice none 0 0] 26)).cell? ⟨w_2.heap.size, 1, none⟩ = some (.int .i64 0) := kh_5.out.at_ rfl
            have f2 : (w_4.alloc (.cells #[.int .i64 0, .int .i64 0, .slice none 0 0] 26)).cell? ⟨w_2.heap.size, 2, none⟩ = some (.slice none 0 0) := kh_5.out.at_ rfl
            have g0 : (w_4.alloc (.cells #[.int .i64 0, .int .i64 0, .slice none 0 0] 26)).cell? ⟨w_4.heap.size, 0, none⟩ = some (.int .i64 0) := kw_5.out.at_ rfl
            have g1 : (w_4.alloc (.cells #[.int .i64 0, .int .i64 0, .slice none 0 0] 26)).cell? ⟨w_4.heap.size, 1, none⟩ = some (.int .i64 0) := kw_5.out.at_ rfl
            have g2 : (w_4.alloc (.cells #[.int .i64 0, .int .i64 0, .slice none 0 0] 26)).cell? ⟨w_4.heap.size, 2, none⟩ = some (.slice none 0 0) := kw_5.out.at_ rfl
            go_wp2_with fail
            refine (ref0_EqBatch (xs := []) (ys := []) 0 0 0 0 _ Sl.nil_ (by omega) Sl.nil_ (by omega) (r := true) (by simp [Hid])).mono ?_
            rintro e w_6 ⟨rfl, hb_6'⟩
            have hb_6 := below_then hb_5 hb_6'
            have bx_6 := own_later bx_5 hb_6'
            have zbx_6 := Nat.le_trans zbx_5 hb_6'.size
            have kh_6 := hide (kh_5.out.later hb_6')
            have kw_6 := hide (kw_5.out.later hb_6')
            have cHC3_6 := cell_later hb_6 HC3.out
            clear hb_6' bx_5 zbx_5 kh_5 kw_5 cHC3_5 hb_5
            go_wp2_with fail
            refine (eqBytes_b _ (Sl.of_own bx_6) (by omega) (HS3.out.below hb_6) (by omega) (beq_self _)).mono ?_
            rintro e w_7 ⟨rfl, hb_7'⟩
            have hb_7 := below_then hb_6 hb_7'
            have bx_7 := own_later bx_6 hb_7'
            have zbx_7 := Nat.le_trans zbx_6 hb_7'.size
            have kh_7 := hide (kh_6.out.later hb_7')
            have kw_7 := hide (kw_6.out.later hb_7')
            have cHC3_7 := cell_later hb_7 HC3.out
            clear hb_7' bx_6 zbx_6 kh_6 kw_6 cHC3_6 hb_6
            have f0 : w_7.cell? ⟨w_2.heap.size, 0, none⟩ = some (.int .i64 0) := kh_7.out.at_ rfl
            have f1 : w_7.cell? ⟨w_2.heap.size, 1, none⟩ = some (.int .i64 0) := kh_7.out.at_ rfl
            have f2 : w_7.cell? ⟨w_2.heap.size, 2, none⟩ = some (.slice none 0 0) := kh_7.out.at_ rfl
            have onil : w_7.ownsRow w_7.heap.size 67 4 (.slice none 0 0) 0 [] := World.ownsRow_nil _ _ _ _
            go_wp2_with fail
            refine (law0_Txs _ onil (Nat.le_refl _) (by omega)).mono ?_
            rintro e w_8 ⟨rfl, hb_8'⟩
            have hb_8 := below_then hb_7 hb_8'
            have bx_8 := own_later bx_7 hb_8'
            have zbx_8 := Nat.le_trans zbx_7 hb_8'.size
            have kh_8 := hide (kh_7.out.later hb_8')
            have kw_8 := hide (kw_7.out.later hb_8')
            have cHC3_8 := cell_later hb_8 HC3.out
            clear hb_8' bx_7 zbx_7 kh_7 kw_7 cHC3_7 hb_7
            go_wp2_with fail
            go_roundw
            case rel => exact ⟨k + 1, by omega, by go_num, hb_8⟩
            case measure => simp [intOf]; omega
          | some y =>
            obtain ⟨ya, yn, yl⟩ := y
            obtain ⟨n5, HN5⟩ : ∃ n, Hid (yl.length = n) := ⟨_, rfl⟩
            have hn5 : n5 ≤ 8 := by rw [← HN5.out]; exact (may_z (parseB_back HO.out).2).1
            go_wp2_with fail
            refine (batch_Parse_yes _ (Sl.of_own o1) hc5 hc5m HO.out).mono ?_
            rintro e w_2 ⟨v2, rfl, o2, hb_2'⟩
            have hb_2 := below_then hb_1 hb_2'
            have zhx_2 := hb_2'.size
            have yhx := hb_1.size
            have bx_2 := own_later o1 hb_2'
            have zbx_2 := Nat.le_trans zbx_1 hb_2'.size
            have cHC3_2 := cell_later hb_2 HC3.out
            rw [HN5.out] at o2
            obtain ⟨A6, c6, rfl⟩ := own_slice o2
            clear hb_2' o1 zbx_1 cHC3_1 hb_1
            have hb_3 : Below w.heap.size w (w_2.alloc (.cells #[.int .i64 ya, .int .i64 yn, .slice A6 n5 c6] 26)) := hb_2.alloc hb_2.size _
            have bx_3 := bx_2.alloc (.cells #[.int .i64 ya, .int .i64 yn, .slice A6 n5 c6] 26)
            have zbx_3 : _ ≤ (w_2.alloc (.cells #[.int .i64 ya, .int .i64 yn, .slice A6 n5 c6] 26)).heap.size := Nat.le_trans zbx_2 (by simp)
            have hx_3 := o2.alloc (.cells #[.int .i64 ya, .int .i64 yn, .slice A6 n5 c6] 26)
            have zhx_3 : _ ≤ (w_2.alloc (.cells #[.int .i64 ya, .int .i64 yn, .slice A6 n5 c6] 26)).heap.size := Nat.le_trans zhx_2 (by simp)
            have cHC3_3 := cell_later hb_3 HC3.out
            have kh_3 := hide (Blk.new w_2 26 #[.int .i64 ya, .int .i64 yn, .slice A6 n5 c6])
            clear hb_2 bx_2 zbx_2 o2 zhx_2 cHC3_2
            go_wp2_with fail
            refine (ref4_ParseBatch _ (HS3.out.below hb_3) hcc3 hcm3 HO).mono ?_
            rintro e w_4 ⟨v4, rfl, o4, hb_4'⟩
            have hb_4 := below_then hb_3 hb_4'
            have zwx_4 := hb_4'.size
            have ywx := hb_3.size
            have bx_4 := own_later bx_3 hb_4'
            have zbx_4 := Nat.le_trans zbx_3 hb_4'.size
            have hx_4 := own_later hx_3 hb_4'
            have zhx_4 := Nat.le_trans zhx_3 hb_4'.size
            have kh_4 := hide (kh_3.out.later hb_4')
            have cHC3_4 := cell_later hb_4 HC3.out
            rw [HN5.out] at o4
            obtain ⟨A8, c8, rfl⟩ := own_slice o4
            clear hb_4' bx_3 zbx_3 hx_3 zhx_3 kh_3 cHC3_3 hb_3
            have hb_5 : Below w.heap.size w (w_4.alloc (.cells #[.int .i64 ya, .int .i64 yn, .slice A8 n5 c8] 26)) := hb_4.alloc hb_4.size _
            have bx_5 := bx_4.alloc (.cells #[.int .i64 ya, .int .i64 yn, .slice A8 n5 c8] 26)
            have zbx_5 : _ ≤ (w_4.alloc (.cells #[.int .i64 ya, .int .i64 yn, .slice A8 n5 c8] 26)).heap.size := Nat.le_trans zbx_4 (by simp)
            have hx_5 := hx_4.alloc (.cells #[.int .i64 ya, .int .i64 yn, .slice A8 n5 c8] 26)
            have zhx_5 : _ ≤ (w_4.alloc (.cells #[.int .i64 ya, .int .i64 yn, .slice A8 n5 c8] 26)).heap.size := Nat.le_trans zhx_4 (by simp)
            have wx_5 := o4.alloc (.cells #[.int .i64 ya, .int .i64 yn, .slice A8 n5 c8] 26)
            have zwx_5 : _ ≤ (w_4.alloc (.cells #[.int .i64 ya, .int .i64 yn, .slice A8 n5 c8] 26)).heap.size := Nat.le_trans zwx_4 (by simp)
            have kh_5 := hide (kh_4.out.alloc (.cells #[.int .i64 ya, .int .i64 yn, .slice A8 n5 c8] 26))
            have cHC3_5 := cell_later hb_5 HC3.out
            have kw_5 := hide (Blk.new w_4 26 #[.int .i64 ya, .int .i64 yn, .slice A8 n5 c8])
            clear hb_4 bx_4 zbx_4 hx_4 zhx_4 o4 zwx_4 kh_4 cHC3_4
            go_wp2_with fail
            refine (law4_num _ _).mono ?_
            rintro e w' ⟨rfl, rfl⟩
            have f0 : (w_4.alloc (.cells #[.int .i64 ya, .int .i64 yn, .slice A8 n5 c8] 26)).cell? ⟨w_2.heap.size, 0, none⟩ = some (.int .i64 ya) := kh_5.out.at_ rfl
            have f1 : (w_4.alloc (.cells #[.int .i64 ya, .int .i64 yn, .slice A8 n5 c8] 26)).cell? ⟨w_2.heap.size, 1, none⟩ = some (.int .i64 yn) := kh_5.out.at_ rfl
            have f2 : (w_4.alloc (.cells #[.int .i64 ya, .int .i64 yn, .slice A8 n5 c8] 26)).cell? ⟨w_2.heap.size, 2, none⟩ = some (.slice A6 n5 c6) := kh_5.out.at_ rfl
            have g0 : (w_4.alloc (.cells #[.int .i64 ya, .int .i64 yn, .slice A8 n5 c8] 26)).cell? ⟨w_4.heap.size, 0, none⟩ = some (.int .i64 ya) := kw_5.out.at_ rfl
            have g1 : (w_4.alloc (.cells #[.int .i64 ya, .int .i64 yn, .slice A8 n5 c8] 26)).cell? ⟨w_4.heap.size, 1, none⟩ = some (.int .i64 yn) := kw_5.out.at_ rfl
            have g2 : (w_4.alloc (.cells #[.int .i64 ya, .int .i64 yn, .slice A8 n5 c8] 26)).cell? ⟨w_4.heap.size, 2, none⟩ = some (.slice A8 n5 c8) := kw_5.out.at_ rfl
            go_wp2_with fail
            refine (ref0_EqBatch ya yn ya yn _ (Sl.of_own hx_5) (by omega) (Sl.of_own wx_5) (by omega) (r := true) (by simp [Hid])).mono ?_
            rintro e w_6 ⟨rfl, hb_6'⟩
            have hb_6 := below_then hb_5 hb_6'
            have bx_6 := own_later bx_5 hb_6'
            have zbx_6 := Nat.le_trans zbx_5 hb_6'.size
            have hx_6 := own_later hx_5 hb_6'
            have zhx_6 := Nat.le_trans zhx_5 hb_6'.size
            have wx_6 := own_later wx_5 hb_6'
            have zwx_6 := Nat.le_trans zwx_5 hb_6'.size
            have kh_6 := hide (kh_5.out.later hb_6')
            have kw_6 := hide (kw_5.out.later hb_6')
            have cHC3_6 := cell_later hb_6 HC3.out
            clear hb_6' bx_5 zbx_5 hx_5 zhx_5 wx_5 zwx_5 kh_5 kw_5 cHC3_5 hb_5
            go_wp2_with fail
            refine (eqBytes_b _ (Sl.of_own bx_6) (by omega) (HS3.out.below hb_6) (by omega) (beq_self _)).mono ?_
            rintro e w_7 ⟨rfl, hb_7'⟩
            have hb_7 := below_then hb_6 hb_7'
            have bx_7 := own_later bx_6 hb_7'
            have zbx_7 := Nat.le_trans zbx_6 hb_7'.size
            have hx_7 := own_later hx_6 hb_7'
            have zhx_7 := Nat.le_trans zhx_6 hb_7'.size
            have wx_7 := own_later wx_6 hb_7'
            have zwx_7 := Nat.le_trans zwx_6 hb_7'.size
            have kh_7 := hide (kh_6.out.later hb_7')
            have kw_7 := hide (kw_6.out.later hb_7')
            have cHC3_7 := cell_later hb_7 HC3.out
            clear hb_7' bx_6 zbx_6 hx_6 zhx_6 wx_6 zwx_6 kh_6 kw_6 cHC3_6 hb_6
            have f0 : w_7.cell? ⟨w_2.heap.size, 0, none⟩ = some (.int .i64 ya) := kh_7.out.at_ rfl
            have f1 : w_7.cell? ⟨w_2.heap.size, 1, none⟩ = some (.int .i64 yn) := kh_7.out.at_ rfl
            have f2 : w_7.cell? ⟨w_2.heap.size, 2, none⟩ = some (.slice A6 n5 c6) := kh_7.out.at_ rfl
            have hbase := hb_7.size
            go_wp2_with fail
            refine (law0_Txs (base := w.heap.size) _ (own_mono hx_7 yhx) hbase (by omega)).mono ?_
            rintro e w_8 ⟨rfl, hb_8'⟩
            have hb_8 := hb_7.trans hb_8'
            go_wp2_with fail
            go_roundw
            case rel => exact ⟨k + 1, by omega, by go_num, hb_8⟩
            case measure => simp [intOf]; omega
      · go_wp2_with fail
        refine (law4_wakes _).mono ?_
        rintro e w1 ⟨rfl, hb1⟩
        go_wp2_with fail
        go_ret
        exact ⟨rfl, below_then hb hb1⟩
    · go_wp2_with fail
      refine (law4_wakes _).mono ?_
      rintro e w1 ⟨rfl, hb1⟩
      go_wp2_with fail
      go_ret
      exact ⟨rfl, below_then hb hb1⟩
end Go.Proofs.Ytihpmaifcebpiaa
