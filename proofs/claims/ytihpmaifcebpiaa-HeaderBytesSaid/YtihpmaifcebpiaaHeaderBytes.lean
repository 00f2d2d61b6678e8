/-
  The walk of HeaderBytes: whatever the list of records, the call answers true and changes nothing that was there.
-/
import Derived.Test.YtihpmaifcebpiaaHdrL
import Derived.Test.YtihpmaifcebpiaaHdrC
import Derived.Test.YtihpmaifcebpiaaHdrR
import Derived.Test.YtihpmaifcebpiaaSpo
namespace Go.Proofs.Ytihpmaifcebpiaa
open Go.RowKit

set_option maxRecDepth 100000 in
set_option maxHeartbeats 4000000 in
theorem walk_HeaderBytes {v : Value} {w : World} (ho : ∃ A n c, v = .slice A n c ∧ Asks6 w A n) :
    Calls Try.prog 7 #[v] w fun r w' => r = .returned (.bool true) ∧ Below w.heap.size w w' := by
  obtain ⟨A, n, c, rfl, hn, h⟩ := ho
  obtain ⟨i0, hi, hz0, hz1, hz2⟩ := info_parts Try.infoByte
  go_enter Try.func7, Try.ntmps7
  go_wp2_with fail
  go_loopw [3] (fun i wr => ∃ k : Nat, k ≤ n ∧ i = .int .i64 k ∧ Below w.heap.size w wr) (fun i _ => n - (intOf i).toNat)
  case atStart => exact ⟨0, Nat.zero_le _, rfl, Below.refl _ _⟩
  case round =>
    obtain ⟨k, hk, rfl, hb_0⟩ := hrel
    obtain ⟨w_0, rfl⟩ : ∃ wo : World, wo = wr := ⟨_, rfl⟩
    by_cases hlt : k < n
    · obtain ⟨b, off, rfl, hc⟩ := h (by omega)
      obtain ⟨⟨⟨a, r, bs, ps⟩, d, ss⟩, A1, n1, c1, A2, n2, c2, A3, n3, c3, N, A4, n4, c4, xs, C0, C1, C2, C3, C4, C5, C6, C7, ⟨S1, hn1⟩, ⟨S2, hn2⟩, ⟨S3, hn3⟩, ⟨S4, hn4, hcc4, hcm4⟩⟩ := hc k hlt
      simp only at C0 C1 C4 S1 S2 S3
      have HC0 := hide C0
      have HC1 := hide C1
      have HC2 := hide C2
      have HC3 := hide C3
      have HC4 := hide C4
      have HC5 := hide C5
      have HC6 := hide C6
      have HC7 := hide C7
      have HS1 := hide S1
      have HS2 := hide S2
      have HS3 := hide S3
      have HS4 := hide S4
      have HL1 := hide S1.ilen
      have HL2 := hide S2.ilen
      have HL3 := hide S3.ilen
      have HBL := hide S4.blen
      clear C0 C1 C2 C3 C4 C5 C6 C7 S1 S2 S3 S4 h hc
      by_cases hm : k < 8
      · skip
        have cHC0_0 := cell_later hb_0 HC0.out
        have cHC1_0 := cell_later hb_0 HC1.out
        have cHC2_0 := cell_later hb_0 HC2.out
        have cHC3_0 := cell_later hb_0 HC3.out
        have cHC4_0 := cell_later hb_0 HC4.out
        have cHC5_0 := cell_later hb_0 HC5.out
        have cHC6_0 := cell_later hb_0 HC6.out
        have cHC7_0 := cell_later hb_0 HC7.out
        cases hv : heavy6 n1 n2 n3 n4 with
        | true =>
          have g0 := cell_later hb_0 HC0.out
          have g1 := cell_later hb_0 HC1.out
          have g2 := cell_later hb_0 HC2.out
          have g3 := cell_later hb_0 HC3.out
          have hb_1 : Below w.heap.size w (w_0.alloc (.cells #[.int .i64 a, .int .i64 r, .slice A1 n1 c1, .slice A2 n2 c2] 49)) := hb_0.alloc hb_0.size _
          have cHC0_1 := cell_later hb_1 HC0.out
          have cHC1_1 := cell_later hb_1 HC1.out
          have cHC2_1 := cell_later hb_1 HC2.out
          have cHC3_1 := cell_later hb_1 HC3.out
          have cHC4_1 := cell_later hb_1 HC4.out
          have cHC5_1 := cell_later hb_1 HC5.out
          have cHC6_1 := cell_later hb_1 HC6.out
          have cHC7_1 := cell_later hb_1 HC7.out
          have kh_1 := hide (Blk.new w_0 49 #[.int .i64 a, .int .i64 r, .slice A1 n1 c1, .slice A2 n2 c2])
          clear hb_0 cHC0_0 cHC1_0 cHC2_0 cHC3_0 cHC4_0 cHC5_0 cHC6_0 cHC7_0
          have HV := hide hv
          clear hv
          go_wp2_with fail
          refine (law6_heavy (A1 := A1) (A2 := A2) (A3 := A3) (A4 := A4) (c1 := c1) (c2 := c2) (c3 := c3) (n4 := n4) (c4 := c4) a r d N _ hn1 hn2 hn3 (by omega)).mono ?_
          rintro e w_2 ⟨rfl, hb_2'⟩
          have hb_2 := below_then hb_1 hb_2'
          have kh_2 := hide (kh_1.out.later hb_2')
          have cHC0_2 := cell_later hb_2 HC0.out
          have cHC1_2 := cell_later hb_2 HC1.out
          have cHC2_2 := cell_later hb_2 HC2.out
          have cHC3_2 := cell_later hb_2 HC3.out
          have cHC4_2 := cell_later hb_2 HC4.out
          have cHC5_2 := cell_later hb_2 HC5.out
          have cHC6_2 := cell_later hb_2 HC6.out
          have cHC7_2 := cell_later hb_2 HC7.out
          clear hb_2' kh_1 cHC0_1 cHC1_1 cHC2_1 cHC3_1 cHC4_1 cHC5_1 cHC6_1 cHC7_1 hb_1
          rw [HV.out]
          go_wp2_with fail
          go_ret
          exact ⟨rfl, hb_2⟩
        | false =>
          obtain ⟨hw500, hn4'⟩ := heavy6_false hv
          have HV := hide hv
          clear hv
          have g0 := cell_later hb_0 HC0.out
          have g1 := cell_later hb_0 HC1.out
          have g2 := cell_later hb_0 HC2.out
          have g3 := cell_later hb_0 HC3.out
          have hb_1 : Below w.heap.size w (w_0.alloc (.cells #[.int .i64 a, .int .i64 r, .slice A1 n1 c1, .slice A2 n2 c2] 49)) := hb_0.alloc hb_0.size _
          have cHC0_1 := cell_later hb_1 HC0.out
          have cHC1_1 := cell_later hb_1 HC1.out
          have cHC2_1 := cell_later hb_1 HC2.out
          have cHC3_1 := cell_later hb_1 HC3.out
          have cHC4_1 := cell_later hb_1 HC4.out
          have cHC5_1 := cell_later hb_1 HC5.out
          have cHC6_1 := cell_later hb_1 HC6.out
          have cHC7_1 := cell_later hb_1 HC7.out
          have kh_1 := hide (Blk.new w_0 49 #[.int .i64 a, .int .i64 r, .slice A1 n1 c1, .slice A2 n2 c2])
          clear hb_0 cHC0_0 cHC1_0 cHC2_0 cHC3_0 cHC4_0 cHC5_0 cHC6_0 cHC7_0
          go_wp2_with fail
          refine (law6_heavy (A1 := A1) (A2 := A2) (A3 := A3) (A4 := A4) (c1 := c1) (c2 := c2) (c3 := c3) (n4 := n4) (c4 := c4) a r d N _ hn1 hn2 hn3 (by omega)).mono ?_
          rintro e w_2 ⟨rfl, hb_2'⟩
          have hb_2 := below_then hb_1 hb_2'
          have kh_2 := hide (kh_1.out.later hb_2')
          have cHC0_2 := cell_later hb_2 HC0.out
          have cHC1_2 := cell_later hb_2 HC1.out
          have cHC2_2 := cell_later hb_2 HC2.out
          have cHC3_2 := cell_later hb_2 HC3.out
          have cHC4_2 := cell_later hb_2 HC4.out
          have cHC5_2 := cell_later hb_2 HC5.out
          have cHC6_2 := cell_later hb_2 HC6.out
          have cHC7_2 := cell_later hb_2 HC7.out
          clear hb_2' kh_1 cHC0_1 cHC1_1 cHC2_1 cHC3_1 cHC4_1 cHC5_1 cHC6_1 cHC7_1 hb_1
          rw [HV.out]
          clear g0 g1 g2 g3
          cases hr : formH 16 ⟨a, r, bs, ps⟩ with
          | false =>
            have HR := hide hr
            clear hr
            have f0 : w_2.cell? ⟨w_0.heap.size, 0, none⟩ = some (.int .i64 a) := kh_2.out.at_ rfl
            have f1 : w_2.cell? ⟨w_0.heap.size, 1, none⟩ = some (.int .i64 r) := kh_2.out.at_ rfl
            have f2 : w_2.cell? ⟨w_0.heap.size, 2, none⟩ = some (.slice A1 n1 c1) := kh_2.out.at_ rfl
            have f3 : w_2.cell? ⟨w_0.heap.size, 3, none⟩ = some (.slice A2 n2 c2) := kh_2.out.at_ rfl
            go_wp2_with fail
            refine (header_Bytes_no (c1 := c1) (c2 := c2) ⟨a, r, bs, ps⟩ _ (HS1.out.below hb_2) (HS2.out.below hb_2) (by omega) (by omega) HR).mono ?_
            rintro e w_3 ⟨rfl, hb_3'⟩
            have hb_3 := below_then hb_2 hb_3'
            have kh_3 := hide (kh_2.out.later hb_3')
            have cHC0_3 := cell_later hb_3 HC0.out
            have cHC1_3 := cell_later hb_3 HC1.out
            have cHC2_3 := cell_later hb_3 HC2.out
            have cHC3_3 := cell_later hb_3 HC3.out
            have cHC4_3 := cell_later hb_3 HC4.out
            have cHC5_3 := cell_later hb_3 HC5.out
            have cHC6_3 := cell_later hb_3 HC6.out
            have cHC7_3 := cell_later hb_3 HC7.out
            clear hb_3' kh_2 cHC0_2 cHC1_2 cHC2_2 cHC3_2 cHC4_2 cHC5_2 cHC6_2 cHC7_2 hb_2
            have f0 : w_3.cell? ⟨w_0.heap.size, 0, none⟩ = some (.int .i64 a) := kh_3.out.at_ rfl
            have f1 : w_3.cell? ⟨w_0.heap.size, 1, none⟩ = some (.int .i64 r) := kh_3.out.at_ rfl
            have f2 : w_3.cell? ⟨w_0.heap.size, 2, none⟩ = some (.slice A1 n1 c1) := kh_3.out.at_ rfl
            have f3 : w_3.cell? ⟨w_0.heap.size, 3, none⟩ = some (.slice A2 n2 c2) := kh_3.out.at_ rfl
            go_wp2_with fail
            refine (ref4_Wide (c1 := c1) (c2 := c2) ⟨a, r, bs, ps⟩ _ (HS1.out.below hb_3) (HS2.out.below hb_3) (by omega) (by omega) HR).mono ?_
            rintro e w_4 ⟨rfl, hb_4'⟩
            have hb_4 := below_then hb_3 hb_4'
            have kh_4 := hide (kh_3.out.later hb_4')
            have cHC0_4 := cell_later hb_4 HC0.out
            have cHC1_4 := cell_later hb_4 HC1.out
            have cHC2_4 := cell_later hb_4 HC2.out
            have cHC3_4 := cell_later hb_4 HC3.out
            have cHC4_4 := cell_later hb_4 HC4.out
            have cHC5_4 := cell_later hb_4 HC5.out
            have cHC6_4 := cell_later hb_4 HC6.out
            have cHC7_4 := cell_later hb_4 HC7.out
            clear hb_4' kh_3 cHC0_3 cHC1_3 cHC2_3 cHC3_3 cHC4_3 cHC5_3 cHC6_3 cHC7_3 hb_3
            go_wp2_with fail
            refine (law6_num _ _).mono ?_
            rintro e w' ⟨rfl, rfl⟩
            go_wp2_with fail
            go_roundw
            case rel => exact ⟨k + 1, by omega, by go_num, hb_4⟩
            case measure => simp [intOf]; omega
          | true =>
            have HR := hide hr
            obtain ⟨L, HLL⟩ : ∃ L, Hid ((headerB ⟨a, r, bs, ps⟩).length = L) := ⟨_, rfl⟩
            have hL2 : L ≤ 300 := by rw [← HLL.out]; exact (header_size hr).2.1
            clear hr
            have f0 : w_2.cell? ⟨w_0.heap.size, 0, none⟩ = some (.int .i64 a) := kh_2.out.at_ rfl
            have f1 : w_2.cell? ⟨w_0.heap.size, 1, none⟩ = some (.int .i64 r) := kh_2.out.at_ rfl
            have f2 : w_2.cell? ⟨w_0.heap.size, 2, none⟩ = some (.slice A1 n1 c1) := kh_2.out.at_ rfl
            have f3 : w_2.cell? ⟨w_0.heap.size, 3, none⟩ = some (.slice A2 n2 c2) := kh_2.out.at_ rfl
            go_wp2_with fail
            refine (header_Bytes_yes (c1 := c1) (c2 := c2) ⟨a, r, bs, ps⟩ _ (HS1.out.below hb_2) (HS2.out.below hb_2) HR).mono ?_
            rintro e w_3 ⟨v1, rfl, o1, hb_3'⟩
            have hb_3 := below_then hb_2 hb_3'
            have zbx_3 := hb_3'.size
            have ybx := hb_2.size
            have kh_3 := hide (kh_2.out.later hb_3')
            have cHC0_3 := cell_later hb_3 HC0.out
            have cHC1_3 := cell_later hb_3 HC1.out
            have cHC2_3 := cell_later hb_3 HC2.out
            have cHC3_3 := cell_later hb_3 HC3.out
            have cHC4_3 := cell_later hb_3 HC4.out
            have cHC5_3 := cell_later hb_3 HC5.out
            have cHC6_3 := cell_later hb_3 HC6.out
            have cHC7_3 := cell_later hb_3 HC7.out
            rw [HLL.out] at o1
            obtain ⟨A5, c5, rfl, hc5, hc5m⟩ := own_slice_cap o1
            unfold maxLen at hc5m
            clear hb_3' kh_2 cHC0_2 cHC1_2 cHC2_2 cHC3_2 cHC4_2 cHC5_2 cHC6_2 cHC7_2 hb_2
            have f0 : w_3.cell? ⟨w_0.heap.size, 0, none⟩ = some (.int .i64 a) := kh_3.out.at_ rfl
            have f1 : w_3.cell? ⟨w_0.heap.size, 1, none⟩ = some (.int .i64 r) := kh_3.out.at_ rfl
            have f2 : w_3.cell? ⟨w_0.heap.size, 2, none⟩ = some (.slice A1 n1 c1) := kh_3.out.at_ rfl
            have f3 : w_3.cell? ⟨w_0.heap.size, 3, none⟩ = some (.slice A2 n2 c2) := kh_3.out.at_ rfl
            go_wp2_with fail
            refine (ref4_Wide (c1 := c1) (c2 := c2) ⟨a, r, bs, ps⟩ _ (HS1.out.below hb_3) (HS2.out.below hb_3) (by omega) (by omega) HR).mono ?_
            rintro e w_4 ⟨rfl, hb_4'⟩
            have hb_4 := below_then hb_3 hb_4'
            have bx_4 := own_later o1 hb_4'
            have zbx_4 := Nat.le_trans zbx_3 hb_4'.size
            have kh_4 := hide (kh_3.out.later hb_4')
            have cHC0_4 := cell_later hb_4 HC0.out
            have cHC1_4 := cell_later hb_4 HC1.out
            have cHC2_4 := cell_later hb_4 HC2.out
            have cHC3_4 := cell_later hb_4 HC3.out
            have cHC4_4 := cell_later hb_4 HC4.out
            have cHC5_4 := cell_later hb_4 HC5.out
            have cHC6_4 := cell_later hb_4 HC6.out
            have cHC7_4 := cell_later hb_4 HC7.out
            clear hb_4' o1 zbx_3 kh_3 cHC0_3 cHC1_3 cHC2_3 cHC3_3 cHC4_3 cHC5_3 cHC6_3 cHC7_3 hb_3
            go_wp2_with fail
            refine (law6_num _ _).mono ?_
            rintro e w' ⟨rfl, rfl⟩
            have f0 : w_4.cell? ⟨w_0.heap.size, 0, none⟩ = some (.int .i64 a) := kh_4.out.at_ rfl
            have f1 : w_4.cell? ⟨w_0.heap.size, 1, none⟩ = some (.int .i64 r) := kh_4.out.at_ rfl
            have f2 : w_4.cell? ⟨w_0.heap.size, 2, none⟩ = some (.slice A1 n1 c1) := kh_4.out.at_ rfl
            have f3 : w_4.cell? ⟨w_0.heap.size, 3, none⟩ = some (.slice A2 n2 c2) := kh_4.out.at_ rfl
            go_wp2_with fail
            refine (ref4_HeaderBytes (c1 := c1) (c2 := c2) ⟨a, r, bs, ps⟩ _ (HS1.out.below hb_4) (HS2.out.below hb_4) HR).mono ?_
            rintro e w_5 ⟨v2, rfl, o2, hb_5'⟩
            have hb_5 := below_then hb_4 hb_5'
            have zby_5 := hb_5'.size
            have yby := hb_4.size
            have bx_5 := own_later bx_4 hb_5'
            have zbx_5 := Nat.le_trans zbx_4 hb_5'.size
            have kh_5 := hide (kh_4.out.later hb_5')
            have cHC0_5 := cell_later hb_5 HC0.out
            have cHC1_5 := cell_later hb_5 HC1.out
            have cHC2_5 := cell_later hb_5 HC2.out
            have cHC3_5 := cell_later hb_5 HC3.out
            have cHC4_5 := cell_later hb_5 HC4.out
            have cHC5_5 := cell_later hb_5 HC5.out
            have cHC6_5 := cell_later hb_5 HC6.out
            have cHC7_5 := cell_later hb_5 HC7.out
            rw [HLL.out] at o2
            obtain ⟨A6, c6, rfl⟩ := own_slice o2
            clear hb_5' bx_4 zbx_4 kh_4 cHC0_4 cHC1_4 cHC2_4 cHC3_4 cHC4_4 cHC5_4 cHC6_4 cHC7_4 hb_4
            have HEY : Hid ((headerB ⟨a, r, bs, ps⟩ == headerB ⟨a, r, bs, ps⟩) = true) := by simp [Hid]
            go_wp2_with fail
            refine (eqBytes_b _ (Sl.of_own bx_5) (by omega) (Sl.of_own o2) (by omega) HEY).mono ?_
            rintro e w_6 ⟨rfl, hb_6'⟩
            have hb_6 := below_then hb_5 hb_6'
            have bx_6 := own_later bx_5 hb_6'
            have zbx_6 := Nat.le_trans zbx_5 hb_6'.size
            have by_6 := own_later o2 hb_6'
            have zby_6 := Nat.le_trans zby_5 hb_6'.size
            have kh_6 := hide (kh_5.out.later hb_6')
            have cHC0_6 := cell_later hb_6 HC0.out
            have cHC1_6 := cell_later hb_6 HC1.out
            have cHC2_6 := cell_later hb_6 HC2.out
            have cHC3_6 := cell_later hb_6 HC3.out
            have cHC4_6 := cell_later hb_6 HC4.out
            have cHC5_6 := cell_later hb_6 HC5.out
            have cHC6_6 := cell_later hb_6 HC6.out
            have cHC7_6 := cell_later hb_6 HC7.out
            clear hb_6' bx_5 zbx_5 o2 zby_5 kh_5 cHC0_5 cHC1_5 cHC2_5 cHC3_5 cHC4_5 cHC5_5 cHC6_5 cHC7_5 hb_5
            go_wp2_with fail
            go_roundw
            case rel => exact ⟨k + 1, by omega, by go_num, hb_6⟩
            case measure => simp [intOf]; omega
      · go_wp2_with fail
        refine (law6_wakes _).mono ?_
        rintro e w1 ⟨rfl, hb1⟩
        go_wp2_with fail
        go_ret
        exact ⟨rfl, below_then hb_0 hb1⟩
    · go_wp2_with fail
      refine (law6_wakes _).mono ?_
      rintro e w1 ⟨rfl, hb1⟩
      go_wp2_with fail
      go_ret
      exact ⟨rfl, below_then hb_0 hb1⟩
end Go.Proofs.Ytihpmaifcebpiaa
