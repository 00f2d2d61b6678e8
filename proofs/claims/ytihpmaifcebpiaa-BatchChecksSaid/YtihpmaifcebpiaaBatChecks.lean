/-
  The walk of BatchChecks: whatever the list of records, the call answers true and changes nothing that was there.
-/
import Derived.Test.YtihpmaifcebpiaaBatL
import Derived.Test.YtihpmaifcebpiaaBatE
import Derived.Deep.RegionHeld3
import Derived.StillTailTactics
namespace Go.Proofs.Ytihpmaifcebpiaa
open Go.RowKit

set_option maxRecDepth 100000 in
set_option maxHeartbeats 4000000 in
theorem walk_BatchChecks {v : Value} {w : World} (ho : ∃ A n c, v = .slice A n c ∧ Asks4 w A n) :
    Calls Try.prog 11 #[v] w fun r w' => r = .returned (.bool true) ∧ Below w.heap.size w w' := by
  obtain ⟨A, n, c, rfl, hn, h⟩ := ho
  obtain ⟨i0, hi, hz0, hz1, hz2⟩ := info_parts Try.infoByte
  go_enter Try.func11, Try.ntmps11
  go_wp2_with fail
  go_loopw [3] (fun i wr => ∃ k : Nat, k ≤ n ∧ i = .int .i64 k ∧ Below w.heap.size w wr) (fun i _ => n - (intOf i).toNat)
  case atStart => exact ⟨0, Nat.zero_le _, rfl, Below.refl _ _⟩
  case round =>
    obtain ⟨k, hk, rfl, hb⟩ := hrel
    obtain ⟨wo, rfl⟩ : ∃ wo : World, wo = wr := ⟨_, rfl⟩
    by_cases hlt : k < n
    · obtain ⟨b, off, rfl, hc⟩ := h (by omega)
      obtain ⟨x, y, A1, n1, c1, l, A2, n2, c2, bs, C0, C1, C2, C3, ⟨S1, hn1, hz⟩, ⟨S3, hn3, hcc3, hcm3⟩⟩ := hc k hlt
      have e0 := cell_later hb C0
      have e1 := cell_later hb C1
      have e2 := cell_later hb C2
      have e3 := cell_later hb C3
      have HC0 := hide C0
      have HC1 := hide C1
      have HC2 := hide C2
      have HC3 := hide C3
      have HS1 := hide S1
      have HS3 := hide S3
      have HZ := hide hz
      have HTZ : Hid (TxZ l) := fun t ht => by have := hz t ht; omega
      obtain ⟨T, ht⟩ : ∃ T, twT l n1 = T := ⟨_, rfl⟩
      have HT := hide ht
      have HL := hide S1.txlen
      have HBL := hide S3.blen
      clear C0 C1 C2 C3 S1 S3 hz ht h hc
      by_cases hm : k < 8
      · cases hv : heavy4 T n2
        case true =>
          go_wp2_with fail
          refine (law4_heavy _ (HS1.out.below hb) hn1 HZ.out HT.out (by omega)).mono ?_
          rintro e w1 ⟨rfl, hb1'⟩
          rw [hv]
          go_wp2_with fail
          go_ret
          exact ⟨rfl, below_then hb hb1'⟩
        case false =>
          obtain ⟨hT, hn2'⟩ := heavy4_false hv
          have hts := twT_small l n1 (by rw [HT.out]; exact hT)
          have hn1' : n1 ≤ 5000 := by omega
          obtain ⟨L, HLL⟩ : ∃ L, Hid ((batchB x y l).length = L) := ⟨_, rfl⟩
          clear hts
          go_wp2_with fail
          refine (law4_heavy _ (HS1.out.below hb) hn1 HZ.out HT.out (by omega)).mono ?_
          rintro e w1 ⟨rfl, hb1'⟩
          rw [hv]
          have hb_0 := below_then hb hb1'
          clear e0 e1 e2 e3 hb1' hb HT hv hT
          have cHC2_0 := cell_later hb_0 HC2.out
          go_wp2_with fail
          go_loopw [4] (fun j wr => ∃ q : Nat, q ≤ n1 ∧ j = .int .i64 q ∧ Below w.heap.size w wr) (fun j _ => n1 - (intOf j).toNat)
          case atStart => exact ⟨0, Nat.zero_le _, rfl, hb_0⟩
          case round =>
            obtain ⟨q, hq, rfl, hb_1⟩ := hrel
            clear cHC2_0 hb_0
            obtain ⟨w_1, rfl⟩ : ∃ wo : World, wo = wr := ⟨_, rfl⟩
            have cHC2_1 := cell_later hb_1 HC2.out
            by_cases hql : q < n1
            · obtain ⟨g, go, t, rfl, HU, q0, q1, q2, q3, _⟩ := HS1.out.tx hql
              obtain ⟨z1, z2⟩ := HTZ.out t (List.mem_of_getElem? HU.out)
              have HQ0 := hide q0
              have HQ1 := hide q1
              have HQ2 := hide q2
              have HQ3 := hide q3
              have d0 := cell_later hb_1 q0
              have d1 := cell_later hb_1 q1
              have d2 := cell_later hb_1 q2
              have d3 := cell_later hb_1 q3
              have hi1 : (0 : Int) ≤ (q : Int) := by omega
              have hi2 : (q : Int) < (n1 : Int) := by omega
              clear q0 q1 q2 q3
              cases hx : mayTx t
              case false =>
                have HT1 : Hid (∀ w, Calls Try.prog 37 #[.agg #[.int .i64 t.s, .int .i64 t.q, .string t.k, .string t.v]] w fun e w' => e = .returned (.int .i64 1) ∧ Below w.heap.size w w') := fun w => batch_Tx t w z1 z2 hx
                have HT2 : Hid (∀ w, Calls Try.prog 38 #[.agg #[.int .i64 t.s, .int .i64 t.q, .string t.k, .string t.v]] w fun e w' => e = .returned (.bool false) ∧ Below w.heap.size w w') := fun w => ref4_Tx t w z1 z2 hx
                clear hx z1 z2
                have hbc := hb_1
                go_wp2_with fail
                go_region_held3 (fun w' => w'.cell? ⟨b, off + k * 4 + 2, none⟩ = some (.slice (some ⟨g, go, none⟩) n1 c1) ∧ w'.cell? ⟨g, go + q * 4, none⟩ = some (.int .i64 t.s) ∧ w'.cell? ⟨g, go + q * 4 + 1, none⟩ = some (.int .i64 t.q) ∧ w'.cell? ⟨g, go + q * 4 + 2, none⟩ = some (.string t.k) ∧ w'.cell? ⟨g, go + q * 4 + 3, none⟩ = some (.string t.v))
                  (first | exact ⟨cell_later hbc HC2.out, cell_later hbc HQ0.out, cell_later hbc HQ1.out, cell_later hbc HQ2.out, cell_later hbc HQ3.out⟩ | go_keep)
                  ((first
                    | (go_at_call 18; refine (law4_num _ _).mono ?_; rintro e w6 ⟨rfl, rfl⟩)
                    | (go_at_call 37; refine (HT1.out _).mono ?_; rintro e w6 ⟨rfl, hb6⟩; have hbc := below_then (by first | exact hbc | exact hbc.drew | exact hbc.drew.drew) hb6)
                    | (go_at_call 38; refine (HT2.out _).mono ?_; rintro e w6 ⟨rfl, hb6⟩; have hbc := below_then (by first | exact hbc | exact hbc.drew | exact hbc.drew.drew) hb6)
                    | fail))
                all_goals
                  have HBC := hide hbc
                  go_wp2_with fail
                  go_roundw
                  case rel => exact ⟨q + 1, by omega, by go_num, HBC.out⟩
                  case measure => simp [intOf]; omega
              case true =>
                have HT1 : Hid (∀ w, Calls Try.prog 37 #[.agg #[.int .i64 t.s, .int .i64 t.q, .string t.k, .string t.v]] w fun e w' => e = .returned (.int .i64 0) ∧ Below w.heap.size w w') := fun w => batch_Tx t w z1 z2 hx
                have HT2 : Hid (∀ w, Calls Try.prog 38 #[.agg #[.int .i64 t.s, .int .i64 t.q, .string t.k, .string t.v]] w fun e w' => e = .returned (.bool true) ∧ Below w.heap.size w w') := fun w => ref4_Tx t w z1 z2 hx
                clear hx z1 z2
                have hbc := hb_1
                go_wp2_with fail
                go_region_held3 (fun w' => w'.cell? ⟨b, off + k * 4 + 2, none⟩ = some (.slice (some ⟨g, go, none⟩) n1 c1) ∧ w'.cell? ⟨g, go + q * 4, none⟩ = some (.int .i64 t.s) ∧ w'.cell? ⟨g, go + q * 4 + 1, none⟩ = some (.int .i64 t.q) ∧ w'.cell? ⟨g, go + q * 4 + 2, none⟩ = some (.string t.k) ∧ w'.cell? ⟨g, go + q * 4 + 3, none⟩ = some (.string t.v))
                  (first | exact ⟨cell_later hbc HC2.out, cell_later hbc HQ0.out, cell_later hbc HQ1.out, cell_later hbc HQ2.out, cell_later hbc HQ3.out⟩ | go_keep)
                  ((first
                    | (go_at_call 18; refine (law4_num _ _).mono ?_; rintro e w6 ⟨rfl, rfl⟩)
                    | (go_at_call 37; refine (HT1.out _).mono ?_; rintro e w6 ⟨rfl, hb6⟩; have hbc := below_then (by first | exact hbc | exact hbc.drew | exact hbc.drew.drew) hb6)
                    | (go_at_call 38; refine (HT2.out _).mono ?_; rintro e w6 ⟨rfl, hb6⟩; have hbc := below_then (by first | exact hbc | exact hbc.drew | exact hbc.drew.drew) hb6)
                    | fail))
                all_goals
                  have HBC := hide hbc
                  go_wp2_with fail
                  go_roundw
                  case rel => exact ⟨q + 1, by omega, by go_num, HBC.out⟩
                  case measure => simp [intOf]; omega
            · skip
              have cHC0_1 := cell_later hb_1 HC0.out
              have cHC1_1 := cell_later hb_1 HC1.out
              go_wp2_with fail
              refine (ref0_CopyBatch x y _ (HS1.out.below hb_1) (by omega)).mono ?_
              rintro e w_2 ⟨v1, rfl, o1, hb_2'⟩
              have hb_2 := below_then hb_1 hb_2'
              have zbx_2 := hb_2'.size
              have ybx := hb_1.size
              have cHC2_2 := cell_later hb_2 HC2.out
              have cHC0_2 := cell_later hb_2 HC0.out
              have cHC1_2 := cell_later hb_2 HC1.out
              obtain ⟨A5, c5, rfl⟩ := own_slice o1
              clear hb_2' cHC2_1 cHC0_1 cHC1_1 hb_1
              have kb := Blk.new w_2 26 #[.int .i64 x, .int .i64 y, .slice A5 n1 c5]
              have hb_3 : Below w.heap.size w (w_2.alloc (.cells #[.int .i64 x, .int .i64 y, .slice A5 n1 c5] 26)) := hb_2.alloc hb_2.size _
              have so := (Sl.of_own o1).alloc (.cells #[.int .i64 x, .int .i64 y, .slice A5 n1 c5] 26)
              have HKB := hide kb
              have HSO := hide so
              clear o1 zbx_2 kb so ybx
              cases hr : mayB x y l
              case false =>
                have HK1 : Hid (∀ w, Sl w 4 A5 n1 (txsC l) → Calls Try.prog 40 #[.agg #[.int .i64 x, .int .i64 y, .slice A5 n1 c5]] w fun e w' => e = .returned (.int .i64 1) ∧ Below w.heap.size w w') := fun w s => batch_Check x y w s (by omega) HTZ.out hr
                have HK2 : Hid (∀ w, Sl w 4 A1 n1 (txsC l) → Calls Try.prog 17 #[.agg #[.int .i64 x, .int .i64 y, .slice A1 n1 c1]] w fun e w' => e = .returned (.bool false) ∧ Below w.heap.size w w') := fun w s => ref4_Batch x y w s (by omega) HTZ.out hr
                have HK3 : Hid (∀ w, Sl w 4 A5 n1 (txsC l) → Sl w 4 A1 n1 (txsC l) → Calls Try.prog 25 #[.agg #[.int .i64 x, .int .i64 y, .slice A5 n1 c5], .agg #[.int .i64 x, .int .i64 y, .slice A1 n1 c1]] w fun e w' => e = .returned (.bool true) ∧ Below w.heap.size w w') := fun w s s' => ref0_EqBatch x y x y w s (by omega) s' (by omega) (by simp [Hid])
                clear hr
                go_wp2_with fail
                refine (HK1.out _ HSO.out).mono ?_
                rintro e w_4 ⟨rfl, hb_4'⟩
                have hb_4 := below_then hb_3 hb_4'
                have HKB4 := hide (HKB.out.later hb_4')
                have HSO4 := hide (HSO.out.below hb_4')
                clear hb_4' hb_3 cHC2_2 cHC0_2 cHC1_2
                go_wp2_with fail
                refine (law4_num _ _).mono ?_
                rintro e w' ⟨rfl, rfl⟩
                have f0 := cell_later hb_4 HC0.out
                have f1 := cell_later hb_4 HC1.out
                have f2 := cell_later hb_4 HC2.out
                have g0 : w_4.cell? ⟨w_2.heap.size, 0, none⟩ = some (.int .i64 x) := HKB4.out.at_ rfl
                have g1 : w_4.cell? ⟨w_2.heap.size, 1, none⟩ = some (.int .i64 y) := HKB4.out.at_ rfl
                have g2 : w_4.cell? ⟨w_2.heap.size, 2, none⟩ = some (.slice A5 n1 c5) := HKB4.out.at_ rfl
                have hbc := hb_4
                have hbd := Below.refl w_4.heap.size w_4
                go_wp2_with fail
                go_region_held3 (fun w' => w'.cell? ⟨b, off + k * 4, none⟩ = some (.int .i64 x) ∧ w'.cell? ⟨b, off + k * 4 + 1, none⟩ = some (.int .i64 y) ∧ w'.cell? ⟨b, off + k * 4 + 2, none⟩ = some (.slice A1 n1 c1) ∧ w'.cell? ⟨w_2.heap.size, 0, none⟩ = some (.int .i64 x) ∧ w'.cell? ⟨w_2.heap.size, 1, none⟩ = some (.int .i64 y) ∧ w'.cell? ⟨w_2.heap.size, 2, none⟩ = some (.slice A5 n1 c5))
                    (first | exact ⟨cell_later hbc HC0.out, cell_later hbc HC1.out, cell_later hbc HC2.out, (HKB4.out.later hbd).at_ rfl, (HKB4.out.later hbd).at_ rfl, (HKB4.out.later hbd).at_ rfl⟩ | go_keep)
                    ((first
                      | (go_at_call 17; refine (HK2.out _ (HS1.out.below (by first | exact hbc | exact hbc.drew | exact hbc.drew.drew))).mono ?_; rintro e w6 ⟨rfl, hb6⟩; have hbc := below_then (by first | exact hbc | exact hbc.drew | exact hbc.drew.drew) hb6; have hbd := below_then (by first | exact hbd | exact hbd.drew | exact hbd.drew.drew) hb6)
                      | (go_at_call 25; refine (HK3.out _ (HSO4.out.below (by first | exact hbd | exact hbd.drew | exact hbd.drew.drew)) (HS1.out.below (by first | exact hbc | exact hbc.drew | exact hbc.drew.drew))).mono ?_; rintro e w6 ⟨rfl, hb6⟩; have hbc := below_then (by first | exact hbc | exact hbc.drew | exact hbc.drew.drew) hb6; have hbd := below_then (by first | exact hbd | exact hbd.drew | exact hbd.drew.drew) hb6)
                      | fail))
                all_goals
                  have HBC := hide hbc
                  go_wp2_with fail
                  go_roundw
                  case rel => exact ⟨k + 1, by omega, by go_num, HBC.out⟩
                  case measure => simp [intOf]; omega
              case true =>
                have HK1 : Hid (∀ w, Sl w 4 A5 n1 (txsC l) → Calls Try.prog 40 #[.agg #[.int .i64 x, .int .i64 y, .slice A5 n1 c5]] w fun e w' => e = .returned (.int .i64 0) ∧ Below w.heap.size w w') := fun w s => batch_Check x y w s (by omega) HTZ.out hr
                have HK2 : Hid (∀ w, Sl w 4 A1 n1 (txsC l) → Calls Try.prog 17 #[.agg #[.int .i64 x, .int .i64 y, .slice A1 n1 c1]] w fun e w' => e = .returned (.bool true) ∧ Below w.heap.size w w') := fun w s => ref4_Batch x y w s (by omega) HTZ.out hr
                have HK3 : Hid (∀ w, Sl w 4 A5 n1 (txsC l) → Sl w 4 A1 n1 (txsC l) → Calls Try.prog 25 #[.agg #[.int .i64 x, .int .i64 y, .slice A5 n1 c5], .agg #[.int .i64 x, .int .i64 y, .slice A1 n1 c1]] w fun e w' => e = .returned (.bool true) ∧ Below w.heap.size w w') := fun w s s' => ref0_EqBatch x y x y w s (by omega) s' (by omega) (by simp [Hid])
                clear hr
                go_wp2_with fail
                refine (HK1.out _ HSO.out).mono ?_
                rintro e w_4 ⟨rfl, hb_4'⟩
                have hb_4 := below_then hb_3 hb_4'
                have HKB4 := hide (HKB.out.later hb_4')
                have HSO4 := hide (HSO.out.below hb_4')
                clear hb_4' hb_3 cHC2_2 cHC0_2 cHC1_2
                go_wp2_with fail
                refine (law4_num _ _).mono ?_
                rintro e w' ⟨rfl, rfl⟩
                have f0 := cell_later hb_4 HC0.out
                have f1 := cell_later hb_4 HC1.out
                have f2 := cell_later hb_4 HC2.out
                have g0 : w_4.cell? ⟨w_2.heap.size, 0, none⟩ = some (.int .i64 x) := HKB4.out.at_ rfl
                have g1 : w_4.cell? ⟨w_2.heap.size, 1, none⟩ = some (.int .i64 y) := HKB4.out.at_ rfl
                have g2 : w_4.cell? ⟨w_2.heap.size, 2, none⟩ = some (.slice A5 n1 c5) := HKB4.out.at_ rfl
                have hbc := hb_4
                have hbd := Below.refl w_4.heap.size w_4
                go_wp2_with fail
                (first | go_region_with (first
                    | (go_at_call 17; refine (HK2.out _ (HS1.out.below (by first | exact hbc | exact hbc.drew | exact hbc.drew.drew))).mono ?_; rintro e w6 ⟨rfl, hb6⟩; have hbc := below_then (by first | exact hbc | exact hbc.drew | exact hbc.drew.drew) hb6; have hbd := below_then (by first | exact hbd | exact hbd.drew | exact hbd.drew.drew) hb6; have f0 := cell_later hbc HC0.out; have f1 := cell_later hbc HC1.out; have f2 := cell_later hbc HC2.out; have g0 : w6.cell? ⟨w_2.heap.size, 0, none⟩ = some (.int .i64 x) := (HKB4.out.later hbd).at_ rfl; have g1 : w6.cell? ⟨w_2.heap.size, 1, none⟩ = some (.int .i64 y) := (HKB4.out.later hbd).at_ rfl; have g2 : w6.cell? ⟨w_2.heap.size, 2, none⟩ = some (.slice A5 n1 c5) := (HKB4.out.later hbd).at_ rfl)
                    | (go_at_call 25; refine (HK3.out _ (HSO4.out.below (by first | exact hbd | exact hbd.drew | exact hbd.drew.drew)) (HS1.out.below (by first | exact hbc | exact hbc.drew | exact hbc.drew.drew))).mono ?_; rintro e w6 ⟨rfl, hb6⟩; have hbc := below_then (by first | exact hbc | exact hbc.drew | exact hbc.drew.drew) hb6)
                    | fail) | fail)
                all_goals
                  have HBC := hide hbc
                  go_wp2_with fail
                  go_roundw
                  case rel => exact ⟨k + 1, by omega, by go_num, HBC.out⟩
                  case measure => simp [intOf]; omega
      · go_wp2_with fail
        refine (law4_wakes _).mono ?_
        rintro e w1 ⟨rfl, hb1⟩
        go_wp2_with fail
        go_ret
        exact ⟨rfl, below_then hb hb1⟩
    · go_wp2_with fail
      refine (law4_wakes _).mono ?_
      rintro e w1 ⟨rfl, hb1⟩
      go_wp2_with fail
      go_ret
      exact ⟨rfl, below_then hb hb1⟩
end Go.Proofs.Ytihpmaifcebpiaa
