/-
  The walk of HeaderChecks: whatever the list of records, the call answers true and changes nothing that was there.
-/
import Derived.Test.YtihpmaifcebpiaaHdrL
import Derived.Test.YtihpmaifcebpiaaHdrS
import Derived.Test.YtihpmaifcebpiaaSpo
import Derived.Test.YtihpmaifcebpiaaQui
namespace Go.Proofs.Ytihpmaifcebpiaa
open Go.RowKit

set_option maxRecDepth 100000 in
set_option maxHeartbeats 4000000 in
theorem walk_HeaderChecks {v : Value} {w : World} (ho : ∃ A n c, v = .slice A n c ∧ Asks6 w A n) :
    Calls Try.prog 13 #[v] w fun r w' => r = .returned (.bool true) ∧ Below w.heap.size w w' := by
  obtain ⟨A, n, c, rfl, hn, h⟩ := ho
  obtain ⟨i0, hi, hz0, hz1, hz2⟩ := info_parts Try.infoByte
  go_enter Try.func13, Try.ntmps13
  go_wp2_with fail
  go_loopw [3] (fun i wr => ∃ k : Nat, k ≤ n ∧ i = .int .i64 k ∧ Below w.heap.size w wr) (fun i _ => n - (intOf i).toNat)
  case atStart => exact ⟨0, Nat.zero_le _, rfl, Below.refl _ _⟩
  case round =>
    obtain ⟨k, hk, rfl, hb_0⟩ := hrel
    obtain ⟨w_0, rfl⟩ : ∃ wo : World, wo = wr := ⟨_, rfl⟩
    by_cases hlt : k < n
    · obtain ⟨b, off, rfl, hc⟩ := h (by omega)
      obtain ⟨⟨⟨a, r, bs, ps⟩, d, ss⟩, A1, n1, c1, A2, n2, c2, A3, n3, c3, N, A4, n4, c4, xs, C0, C1, C2, C3, C4, C5, C6, C7, ⟨S1, hn1⟩, ⟨S2, hn2⟩, ⟨S3, hn3⟩, ⟨S4, hn4, hcc4, hcm4⟩⟩ := hc k hlt
      simp only at C0 C1 C4 S1 S2 S3
      have HC0 := hide C0
      have HC1 := hide C1
      have HC2 := hide C2
      have HC3 := hide C3
      have HC4 := hide C4
      have HC5 := hide C5
      have HC6 := hide C6
      have HC7 := hide C7
      have HS1 := hide S1
      have HS2 := hide S2
      have HS3 := hide S3
      have HS4 := hide S4
      have HL1 := hide S1.ilen
      have HL2 := hide S2.ilen
      have HL3 := hide S3.ilen
      have HBL := hide S4.blen
      clear C0 C1 C2 C3 C4 C5 C6 C7 S1 S2 S3 S4 h hc
      by_cases hm : k < 8
      · skip
        have cHC0_0 := cell_later hb_0 HC0.out
        have cHC1_0 := cell_later hb_0 HC1.out
        have cHC2_0 := cell_later hb_0 HC2.out
        have cHC3_0 := cell_later hb_0 HC3.out
        have cHC4_0 := cell_later hb_0 HC4.out
        have cHC5_0 := cell_later hb_0 HC5.out
        have cHC6_0 := cell_later hb_0 HC6.out
        have cHC7_0 := cell_later hb_0 HC7.out
        cases hv : heavy6 n1 n2 n3 n4 with
        | true =>
          have g0 := cell_later hb_0 HC0.out
          have g1 := cell_later hb_0 HC1.out
          have g2 := cell_later hb_0 HC2.out
          have g3 := cell_later hb_0 HC3.out
          have g4 := cell_later hb_0 HC4.out
          have g5 := cell_later hb_0 HC5.out
          have g6 := cell_later hb_0 HC6.out
          have g7 := cell_later hb_0 HC7.out
          have hb_1 : Below w.heap.size w (w_0.alloc (.cells #[.int .i64 a, .int .i64 r, .slice A1 n1 c1, .slice A2 n2 c2, .int .i64 d, .slice A3 n3 c3, .int .i64 N, .slice A4 n4 c4] 53)) := hb_0.alloc hb_0.size _
          have cHC0_1 := cell_later hb_1 HC0.out
          have cHC1_1 := cell_later hb_1 HC1.out
          have cHC2_1 := cell_later hb_1 HC2.out
          have cHC3_1 := cell_later hb_1 HC3.out
          have cHC4_1 := cell_later hb_1 HC4.out
          have cHC5_1 := cell_later hb_1 HC5.out
          have cHC6_1 := cell_later hb_1 HC6.out
          have cHC7_1 := cell_later hb_1 HC7.out
          have kp_1 := hide (Blk.new w_0 53 #[.int .i64 a, .int .i64 r, .slice A1 n1 c1, .slice A2 n2 c2, .int .i64 d, .slice A3 n3 c3, .int .i64 N, .slice A4 n4 c4])
          clear hb_0 cHC0_0 cHC1_0 cHC2_0 cHC3_0 cHC4_0 cHC5_0 cHC6_0 cHC7_0
          have p0 : (w_0.alloc (.cells #[.int .i64 a, .int .i64 r, .slice A1 n1 c1, .slice A2 n2 c2, .int .i64 d, .slice A3 n3 c3, .int .i64 N, .slice A4 n4 c4] 53)).cell? ⟨w_0.heap.size, 0, none⟩ = some (.int .i64 a) := kp_1.out.at_ rfl
          have p1 : (w_0.alloc (.cells #[.int .i64 a, .int .i64 r, .slice A1 n1 c1, .slice A2 n2 c2, .int .i64 d, .slice A3 n3 c3, .int .i64 N, .slice A4 n4 c4] 53)).cell? ⟨w_0.heap.size, 1, none⟩ = some (.int .i64 r) := kp_1.out.at_ rfl
          have p2 : (w_0.alloc (.cells #[.int .i64 a, .int .i64 r, .slice A1 n1 c1, .slice A2 n2 c2, .int .i64 d, .slice A3 n3 c3, .int .i64 N, .slice A4 n4 c4] 53)).cell? ⟨w_0.heap.size, 2, none⟩ = some (.slice A1 n1 c1) := kp_1.out.at_ rfl
          have p3 : (w_0.alloc (.cells #[.int .i64 a, .int .i64 r, .slice A1 n1 c1, .slice A2 n2 c2, .int .i64 d, .slice A3 n3 c3, .int .i64 N, .slice A4 n4 c4] 53)).cell? ⟨w_0.heap.size, 3, none⟩ = some (.slice A2 n2 c2) := kp_1.out.at_ rfl
          have p4 : (w_0.alloc (.cells #[.int .i64 a, .int .i64 r, .slice A1 n1 c1, .slice A2 n2 c2, .int .i64 d, .slice A3 n3 c3, .int .i64 N, .slice A4 n4 c4] 53)).cell? ⟨w_0.heap.size, 4, none⟩ = some (.int .i64 d) := kp_1.out.at_ rfl
          have p5 : (w_0.alloc (.cells #[.int .i64 a, .int .i64 r, .slice A1 n1 c1, .slice A2 n2 c2, .int .i64 d, .slice A3 n3 c3, .int .i64 N, .slice A4 n4 c4] 53)).cell? ⟨w_0.heap.size, 5, none⟩ = some (.slice A3 n3 c3) := kp_1.out.at_ rfl
          have p6 : (w_0.alloc (.cells #[.int .i64 a, .int .i64 r, .slice A1 n1 c1, .slice A2 n2 c2, .int .i64 d, .slice A3 n3 c3, .int .i64 N, .slice A4 n4 c4] 53)).cell? ⟨w_0.heap.size, 6, none⟩ = some (.int .i64 N) := kp_1.out.at_ rfl
          have p7 : (w_0.alloc (.cells #[.int .i64 a, .int .i64 r, .slice A1 n1 c1, .slice A2 n2 c2, .int .i64 d, .slice A3 n3 c3, .int .i64 N, .slice A4 n4 c4] 53)).cell? ⟨w_0.heap.size, 7, none⟩ = some (.slice A4 n4 c4) := kp_1.out.at_ rfl
          have HV := hide hv
          clear hv
          go_wp2_with fail
          refine (law6_heavy (A1 := A1) (A2 := A2) (A3 := A3) (A4 := A4) (c1 := c1) (c2 := c2) (c3 := c3) (n4 := n4) (c4 := c4) a r d N _ hn1 hn2 hn3 (by omega)).mono ?_
          rintro e w_2 ⟨rfl, hb_2'⟩
          have hb_2 := below_then hb_1 hb_2'
          have kp_2 := hide (kp_1.out.later hb_2')
          have cHC0_2 := cell_later hb_2 HC0.out
          have cHC1_2 := cell_later hb_2 HC1.out
          have cHC2_2 := cell_later hb_2 HC2.out
          have cHC3_2 := cell_later hb_2 HC3.out
          have cHC4_2 := cell_later hb_2 HC4.out
          have cHC5_2 := cell_later hb_2 HC5.out
          have cHC6_2 := cell_later hb_2 HC6.out
          have cHC7_2 := cell_later hb_2 HC7.out
          clear hb_2' kp_1 cHC0_1 cHC1_1 cHC2_1 cHC3_1 cHC4_1 cHC5_1 cHC6_1 cHC7_1 hb_1
          rw [HV.out]
          go_wp2_with fail
          go_ret
          exact ⟨rfl, hb_2⟩
        | false =>
          obtain ⟨hw500, hn4'⟩ := heavy6_false hv
          have HV := hide hv
          clear hv
          have g0 := cell_later hb_0 HC0.out
          have g1 := cell_later hb_0 HC1.out
          have g2 := cell_later hb_0 HC2.out
          have g3 := cell_later hb_0 HC3.out
          have g4 := cell_later hb_0 HC4.out
          have g5 := cell_later hb_0 HC5.out
          have g6 := cell_later hb_0 HC6.out
          have g7 := cell_later hb_0 HC7.out
          have hb_1 : Below w.heap.size w (w_0.alloc (.cells #[.int .i64 a, .int .i64 r, .slice A1 n1 c1, .slice A2 n2 c2, .int .i64 d, .slice A3 n3 c3, .int .i64 N, .slice A4 n4 c4] 53)) := hb_0.alloc hb_0.size _
          have cHC0_1 := cell_later hb_1 HC0.out
          have cHC1_1 := cell_later hb_1 HC1.out
          have cHC2_1 := cell_later hb_1 HC2.out
          have cHC3_1 := cell_later hb_1 HC3.out
          have cHC4_1 := cell_later hb_1 HC4.out
          have cHC5_1 := cell_later hb_1 HC5.out
          have cHC6_1 := cell_later hb_1 HC6.out
          have cHC7_1 := cell_later hb_1 HC7.out
          have kp_1 := hide (Blk.new w_0 53 #[.int .i64 a, .int .i64 r, .slice A1 n1 c1, .slice A2 n2 c2, .int .i64 d, .slice A3 n3 c3, .int .i64 N, .slice A4 n4 c4])
          clear hb_0 cHC0_0 cHC1_0 cHC2_0 cHC3_0 cHC4_0 cHC5_0 cHC6_0 cHC7_0
          have p0 : (w_0.alloc (.cells #[.int .i64 a, .int .i64 r, .slice A1 n1 c1, .slice A2 n2 c2, .int .i64 d, .slice A3 n3 c3, .int .i64 N, .slice A4 n4 c4] 53)).cell? ⟨w_0.heap.size, 0, none⟩ = some (.int .i64 a) := kp_1.out.at_ rfl
          have p1 : (w_0.alloc (.cells #[.int .i64 a, .int .i64 r, .slice A1 n1 c1, .slice A2 n2 c2, .int .i64 d, .slice A3 n3 c3, .int .i64 N, .slice A4 n4 c4] 53)).cell? ⟨w_0.heap.size, 1, none⟩ = some (.int .i64 r) := kp_1.out.at_ rfl
          have p2 : (w_0.alloc (.cells #[.int .i64 a, .int .i64 r, .slice A1 n1 c1, .slice A2 n2 c2, .int .i64 d, .slice A3 n3 c3, .int .i64 N, .slice A4 n4 c4] 53)).cell? ⟨w_0.heap.size, 2, none⟩ = some (.slice A1 n1 c1) := kp_1.out.at_ rfl
          have p3 : (w_0.alloc (.cells #[.int .i64 a, .int .i64 r, .slice A1 n1 c1, .slice A2 n2 c2, .int .i64 d, .slice A3 n3 c3, .int .i64 N, .slice A4 n4 c4] 53)).cell? ⟨w_0.heap.size, 3, none⟩ = some (.slice A2 n2 c2) := kp_1.out.at_ rfl
          have p4 : (w_0.alloc (.cells #[.int .i64 a, .int .i64 r, .slice A1 n1 c1, .slice A2 n2 c2, .int .i64 d, .slice A3 n3 c3, .int .i64 N, .slice A4 n4 c4] 53)).cell? ⟨w_0.heap.size, 4, none⟩ = some (.int .i64 d) := kp_1.out.at_ rfl
          have p5 : (w_0.alloc (.cells #[.int .i64 a, .int .i64 r, .slice A1 n1 c1, .slice A2 n2 c2, .int .i64 d, .slice A3 n3 c3, .int .i64 N, .slice A4 n4 c4] 53)).cell? ⟨w_0.heap.size, 5, none⟩ = some (.slice A3 n3 c3) := kp_1.out.at_ rfl
          have p6 : (w_0.alloc (.cells #[.int .i64 a, .int .i64 r, .slice A1 n1 c1, .slice A2 n2 c2, .int .i64 d, .slice A3 n3 c3, .int .i64 N, .slice A4 n4 c4] 53)).cell? ⟨w_0.heap.size, 6, none⟩ = some (.int .i64 N) := kp_1.out.at_ rfl
          have p7 : (w_0.alloc (.cells #[.int .i64 a, .int .i64 r, .slice A1 n1 c1, .slice A2 n2 c2, .int .i64 d, .slice A3 n3 c3, .int .i64 N, .slice A4 n4 c4] 53)).cell? ⟨w_0.heap.size, 7, none⟩ = some (.slice A4 n4 c4) := kp_1.out.at_ rfl
          go_wp2_with fail
          refine (law6_heavy (A1 := A1) (A2 := A2) (A3 := A3) (A4 := A4) (c1 := c1) (c2 := c2) (c3 := c3) (n4 := n4) (c4 := c4) a r d N _ hn1 hn2 hn3 (by omega)).mono ?_
          rintro e w_2 ⟨rfl, hb_2'⟩
          have hb_2 := below_then hb_1 hb_2'
          have kp_2 := hide (kp_1.out.later hb_2')
          have cHC0_2 := cell_later hb_2 HC0.out
          have cHC1_2 := cell_later hb_2 HC1.out
          have cHC2_2 := cell_later hb_2 HC2.out
          have cHC3_2 := cell_later hb_2 HC3.out
          have cHC4_2 := cell_later hb_2 HC4.out
          have cHC5_2 := cell_later hb_2 HC5.out
          have cHC6_2 := cell_later hb_2 HC6.out
          have cHC7_2 := cell_later hb_2 HC7.out
          clear hb_2' kp_1 cHC0_1 cHC1_1 cHC2_1 cHC3_1 cHC4_1 cHC5_1 cHC6_1 cHC7_1 hb_1
          rw [HV.out]
          clear g0 g1 g2 g3 g4 g5 g6 g7
          have p0 : w_2.cell? ⟨w_0.heap.size, 0, none⟩ = some (.int .i64 a) := kp_2.out.at_ rfl
          have p1 : w_2.cell? ⟨w_0.heap.size, 1, none⟩ = some (.int .i64 r) := kp_2.out.at_ rfl
          have p2 : w_2.cell? ⟨w_0.heap.size, 2, none⟩ = some (.slice A1 n1 c1) := kp_2.out.at_ rfl
          have p3 : w_2.cell? ⟨w_0.heap.size, 3, none⟩ = some (.slice A2 n2 c2) := kp_2.out.at_ rfl
          have p4 : w_2.cell? ⟨w_0.heap.size, 4, none⟩ = some (.int .i64 d) := kp_2.out.at_ rfl
          have p5 : w_2.cell? ⟨w_0.heap.size, 5, none⟩ = some (.slice A3 n3 c3) := kp_2.out.at_ rfl
          have p6 : w_2.cell? ⟨w_0.heap.size, 6, none⟩ = some (.int .i64 N) := kp_2.out.at_ rfl
          have p7 : w_2.cell? ⟨w_0.heap.size, 7, none⟩ = some (.slice A4 n4 c4) := kp_2.out.at_ rfl
          go_wp2_with fail
          refine (ref0_CopyCert (c1 := c1) (c2 := c2) (c3 := c3) a r d bs ps ss _ (HS1.out.below hb_2) (HS2.out.below hb_2) (HS3.out.below hb_2) (by omega) (by omega) (by omega)).mono ?_
          rintro e w_3 ⟨v1, v2, v3, rfl, o1, o2, o3, hb_3'⟩
          have hb_3 := below_then hb_2 hb_3'
          have zbx_3 := hb_3'.size
          have ybx := hb_2.size
          have kp_3 := hide (kp_2.out.later hb_3')
          have cHC0_3 := cell_later hb_3 HC0.out
          have cHC1_3 := cell_later hb_3 HC1.out
          have cHC2_3 := cell_later hb_3 HC2.out
          have cHC3_3 := cell_later hb_3 HC3.out
          have cHC4_3 := cell_later hb_3 HC4.out
          have cHC5_3 := cell_later hb_3 HC5.out
          have cHC6_3 := cell_later hb_3 HC6.out
          have cHC7_3 := cell_later hb_3 HC7.out
          obtain ⟨A5, c5, rfl⟩ := own_slice o1
          obtain ⟨A6, c6, rfl⟩ := own_slice o2
          obtain ⟨A7, c7, rfl⟩ := own_slice o3
          clear hb_3' kp_2 cHC0_2 cHC1_2 cHC2_2 cHC3_2 cHC4_2 cHC5_2 cHC6_2 cHC7_2 hb_2
          have zby_3 := zbx_3
          have yby := ybx
          have zbz_3 := zbx_3
          have ybz := ybx
          have hb_4 : Below w.heap.size w (w_3.alloc (.cells #[.int .i64 a, .int .i64 r, .slice A5 n1 c5, .slice A6 n2 c6, .int .i64 d, .slice A7 n3 c7] 51)) := hb_3.alloc hb_3.size _
          have bx_4 := o1.alloc (.cells #[.int .i64 a, .int .i64 r, .slice A5 n1 c5, .slice A6 n2 c6, .int .i64 d, .slice A7 n3 c7] 51)
          have zbx_4 : _ ≤ (w_3.alloc (.cells #[.int .i64 a, .int .i64 r, .slice A5 n1 c5, .slice A6 n2 c6, .int .i64 d, .slice A7 n3 c7] 51)).heap.size := Nat.le_trans zbx_3 (by simp)
          have by_4 := o2.alloc (.cells #[.int .i64 a, .int .i64 r, .slice A5 n1 c5, .slice A6 n2 c6, .int .i64 d, .slice A7 n3 c7] 51)
          have zby_4 : _ ≤ (w_3.alloc (.cells #[.int .i64 a, .int .i64 r, .slice A5 n1 c5, .slice A6 n2 c6, .int .i64 d, .slice A7 n3 c7] 51)).heap.size := Nat.le_trans zby_3 (by simp)
          have bz_4 := o3.alloc (.cells #[.int .i64 a, .int .i64 r, .slice A5 n1 c5, .slice A6 n2 c6, .int .i64 d, .slice A7 n3 c7] 51)
          have zbz_4 : _ ≤ (w_3.alloc (.cells #[.int .i64 a, .int .i64 r, .slice A5 n1 c5, .slice A6 n2 c6, .int .i64 d, .slice A7 n3 c7] 51)).heap.size := Nat.le_trans zbz_3 (by simp)
          have kp_4 := hide (kp_3.out.alloc (.cells #[.int .i64 a, .int .i64 r, .slice A5 n1 c5, .slice A6 n2 c6, .int .i64 d, .slice A7 n3 c7] 51))
          have cHC0_4 := cell_later hb_4 HC0.out
          have cHC1_4 := cell_later hb_4 HC1.out
          have cHC2_4 := cell_later hb_4 HC2.out
          have cHC3_4 := cell_later hb_4 HC3.out
          have cHC4_4 := cell_later hb_4 HC4.out
          have cHC5_4 := cell_later hb_4 HC5.out
          have cHC6_4 := cell_later hb_4 HC6.out
          have cHC7_4 := cell_later hb_4 HC7.out
          have kc_4 := hide (Blk.new w_3 51 #[.int .i64 a, .int .i64 r, .slice A5 n1 c5, .slice A6 n2 c6, .int .i64 d, .slice A7 n3 c7])
          clear hb_3 o1 zbx_3 o2 zby_3 o3 zbz_3 kp_3 cHC0_3 cHC1_3 cHC2_3 cHC3_3 cHC4_3 cHC5_3 cHC6_3 cHC7_3
          clear cHC0_4 cHC1_4 cHC2_4 cHC3_4 cHC4_4 cHC5_4 cHC6_4 cHC7_4
          cases h1 : mayH N ⟨a, r, bs, ps⟩
          case false =>
            have HR1 := hide h1
            clear h1
            cases h2 : mayC N ⟨⟨a, r, bs, ps⟩, d, ss⟩
            case false =>
              have HR2 := hide h2
              clear h2
              go_wp2_with fail
              generalize (w_3.alloc (.cells #[.int .i64 a, .int .i64 r, .slice A5 n1 c5, .slice A6 n2 c6, .int .i64 d, .slice A7 n3 c7] 51)) = w_4 at hb_4 bx_4 zbx_4 by_4 zby_4 bz_4 zbz_4 kp_4 kc_4 ⊢
              have fq0 : ∀ n : Wd w_4, n.w.cell? ⟨w_0.heap.size, 0, none⟩ = some (.int .i64 a) := Wd.cell (kp_4.out.at_ rfl)
              have fq1 : ∀ n : Wd w_4, n.w.cell? ⟨w_0.heap.size, 1, none⟩ = some (.int .i64 r) := Wd.cell (kp_4.out.at_ rfl)
              have fq2 : ∀ n : Wd w_4, n.w.cell? ⟨w_0.heap.size, 2, none⟩ = some (.slice A1 n1 c1) := Wd.cell (kp_4.out.at_ rfl)
              have fq3 : ∀ n : Wd w_4, n.w.cell? ⟨w_0.heap.size, 3, none⟩ = some (.slice A2 n2 c2) := Wd.cell (kp_4.out.at_ rfl)
              have fq4 : ∀ n : Wd w_4, n.w.cell? ⟨w_0.heap.size, 4, none⟩ = some (.int .i64 d) := Wd.cell (kp_4.out.at_ rfl)
              have fq5 : ∀ n : Wd w_4, n.w.cell? ⟨w_0.heap.size, 5, none⟩ = some (.slice A3 n3 c3) := Wd.cell (kp_4.out.at_ rfl)
              have fq6 : ∀ n : Wd w_4, n.w.cell? ⟨w_0.heap.size, 6, none⟩ = some (.int .i64 N) := Wd.cell (kp_4.out.at_ rfl)
              have fq7 : ∀ n : Wd w_4, n.w.cell? ⟨w_0.heap.size, 7, none⟩ = some (.slice A4 n4 c4) := Wd.cell (kp_4.out.at_ rfl)
              have fq8 : ∀ n : Wd w_4, n.w.cell? ⟨w_3.heap.size, 0, none⟩ = some (.int .i64 a) := Wd.cell (kc_4.out.at_ rfl)
              have fq9 : ∀ n : Wd w_4, n.w.cell? ⟨w_3.heap.size, 1, none⟩ = some (.int .i64 r) := Wd.cell (kc_4.out.at_ rfl)
              have fq10 : ∀ n : Wd w_4, n.w.cell? ⟨w_3.heap.size, 2, none⟩ = some (.slice A5 n1 c5) := Wd.cell (kc_4.out.at_ rfl)
              have fq11 : ∀ n : Wd w_4, n.w.cell? ⟨w_3.heap.size, 3, none⟩ = some (.slice A6 n2 c6) := Wd.cell (kc_4.out.at_ rfl)
              have fq12 : ∀ n : Wd w_4, n.w.cell? ⟨w_3.heap.size, 4, none⟩ = some (.int .i64 d) := Wd.cell (kc_4.out.at_ rfl)
              have fq13 : ∀ n : Wd w_4, n.w.cell? ⟨w_3.heap.size, 5, none⟩ = some (.slice A7 n3 c7) := Wd.cell (kc_4.out.at_ rfl)
              refine wp_region_wd (by kernel_rfl) (by kernel_rfl) ?_
              repeat (go_big_quiet_step (first
                | (go_at_call 30; exact wd_same (law6_num _ _))
                | (go_at_call 42; exact wd_call (header_Check (c1 := c5) (c2 := c6) N ⟨a, r, bs, ps⟩ _ ((Sl.of_own bx_4).below (Wd.below _)) ((Sl.of_own by_4).below (Wd.below _)) (by omega) (by omega) HR1))
                | (go_at_call 43; exact wd_call (header_Cert (c1 := c5) (c2 := c6) (c3 := c7) N ⟨⟨a, r, bs, ps⟩, d, ss⟩ _ ((Sl.of_own bx_4).below (Wd.below _)) ((Sl.of_own by_4).below (Wd.below _)) ((Sl.of_own bz_4).below (Wd.below _)) (by omega) (by omega) (by omega) HR2))
                | fail))
              refine wpQuiet_nil (wd_end fun w_5 hb_5' => ?_)
              clear fq0 fq1 fq2 fq3 fq4 fq5 fq6 fq7 fq8 fq9 fq10 fq11 fq12 fq13
              have hb_5 := below_then hb_4 hb_5'
              have bx_5 := own_later bx_4 hb_5'
              have zbx_5 := Nat.le_trans zbx_4 hb_5'.size
              have by_5 := own_later by_4 hb_5'
              have zby_5 := Nat.le_trans zby_4 hb_5'.size
              have bz_5 := own_later bz_4 hb_5'
              have zbz_5 := Nat.le_trans zbz_4 hb_5'.size
              have kp_5 := hide (kp_4.out.later hb_5')
              have kc_5 := hide (kc_4.out.later hb_5')
              clear hb_5' bx_4 zbx_4 by_4 zby_4 bz_4 zbz_4 kp_4 kc_4 hb_4
              have p0 : w_5.cell? ⟨w_0.heap.size, 0, none⟩ = some (.int .i64 a) := kp_5.out.at_ rfl
              have p1 : w_5.cell? ⟨w_0.heap.size, 1, none⟩ = some (.int .i64 r) := kp_5.out.at_ rfl
              have p2 : w_5.cell? ⟨w_0.heap.size, 2, none⟩ = some (.slice A1 n1 c1) := kp_5.out.at_ rfl
              have p3 : w_5.cell? ⟨w_0.heap.size, 3, none⟩ = some (.slice A2 n2 c2) := kp_5.out.at_ rfl
              have p4 : w_5.cell? ⟨w_0.heap.size, 4, none⟩ = some (.int .i64 d) := kp_5.out.at_ rfl
              have p5 : w_5.cell? ⟨w_0.heap.size, 5, none⟩ = some (.slice A3 n3 c3) := kp_5.out.at_ rfl
              have p6 : w_5.cell? ⟨w_0.heap.size, 6, none⟩ = some (.int .i64 N) := kp_5.out.at_ rfl
              have p7 : w_5.cell? ⟨w_0.heap.size, 7, none⟩ = some (.slice A4 n4 c4) := kp_5.out.at_ rfl
              have q0 : w_5.cell? ⟨w_3.heap.size, 0, none⟩ = some (.int .i64 a) := kc_5.out.at_ rfl
              have q1 : w_5.cell? ⟨w_3.heap.size, 1, none⟩ = some (.int .i64 r) := kc_5.out.at_ rfl
              have q2 : w_5.cell? ⟨w_3.heap.size, 2, none⟩ = some (.slice A5 n1 c5) := kc_5.out.at_ rfl
              have q3 : w_5.cell? ⟨w_3.heap.size, 3, none⟩ = some (.slice A6 n2 c6) := kc_5.out.at_ rfl
              have q4 : w_5.cell? ⟨w_3.heap.size, 4, none⟩ = some (.int .i64 d) := kc_5.out.at_ rfl
              have q5 : w_5.cell? ⟨w_3.heap.size, 5, none⟩ = some (.slice A7 n3 c7) := kc_5.out.at_ rfl
              go_wp2_with fail
              refine (ref4_Header (c1 := c1) (c2 := c2) N ⟨a, r, bs, ps⟩ _ (HS1.out.below hb_5) (HS2.out.below hb_5) (by omega) (by omega) HR1).mono ?_
              rintro e w_6 ⟨rfl, hb_6'⟩
              have hb_6 := below_then hb_5 hb_6'
              have bx_6 := own_later bx_5 hb_6'
              have zbx_6 := Nat.le_trans zbx_5 hb_6'.size
              have by_6 := own_later by_5 hb_6'
              have zby_6 := Nat.le_trans zby_5 hb_6'.size
              have bz_6 := own_later bz_5 hb_6'
              have zbz_6 := Nat.le_trans zbz_5 hb_6'.size
              have kp_6 := hide (kp_5.out.later hb_6')
              have kc_6 := hide (kc_5.out.later hb_6')
              clear hb_6' bx_5 zbx_5 by_5 zby_5 bz_5 zbz_5 kp_5 kc_5 hb_5
              have p0 : w_6.cell? ⟨w_0.heap.size, 0, none⟩ = some (.int .i64 a) := kp_6.out.at_ rfl
              have p1 : w_6.cell? ⟨w_0.heap.size, 1, none⟩ = some (.int .i64 r) := kp_6.out.at_ rfl
              have p2 : w_6.cell? ⟨w_0.heap.size, 2, none⟩ = some (.slice A1 n1 c1) := kp_6.out.at_ rfl
              have p3 : w_6.cell? ⟨w_0.heap.size, 3, none⟩ = some (.slice A2 n2 c2) := kp_6.out.at_ rfl
              have p4 : w_6.cell? ⟨w_0.heap.size, 4, none⟩ = some (.int .i64 d) := kp_6.out.at_ rfl
              have p5 : w_6.cell? ⟨w_0.heap.size, 5, none⟩ = some (.slice A3 n3 c3) := kp_6.out.at_ rfl
              have p6 : w_6.cell? ⟨w_0.heap.size, 6, none⟩ = some (.int .i64 N) := kp_6.out.at_ rfl
              have p7 : w_6.cell? ⟨w_0.heap.size, 7, none⟩ = some (.slice A4 n4 c4) := kp_6.out.at_ rfl
              have q0 : w_6.cell? ⟨w_3.heap.size, 0, none⟩ = some (.int .i64 a) := kc_6.out.at_ rfl
              have q1 : w_6.cell? ⟨w_3.heap.size, 1, none⟩ = some (.int .i64 r) := kc_6.out.at_ rfl
              have q2 : w_6.cell? ⟨w_3.heap.size, 2, none⟩ = some (.slice A5 n1 c5) := kc_6.out.at_ rfl
              have q3 : w_6.cell? ⟨w_3.heap.size, 3, none⟩ = some (.slice A6 n2 c6) := kc_6.out.at_ rfl
              have q4 : w_6.cell? ⟨w_3.heap.size, 4, none⟩ = some (.int .i64 d) := kc_6.out.at_ rfl
              have q5 : w_6.cell? ⟨w_3.heap.size, 5, none⟩ = some (.slice A7 n3 c7) := kc_6.out.at_ rfl
              go_wp2_with fail
              refine (ref4_Cert (c1 := c1) (c2 := c2) (c3 := c3) N ⟨⟨a, r, bs, ps⟩, d, ss⟩ _ (HS1.out.below hb_6) (HS2.out.below hb_6) (HS3.out.below hb_6) (by omega) (by omega) (by omega) HR2).mono ?_
              rintro e w_7 ⟨rfl, hb_7'⟩
              have hb_7 := below_then hb_6 hb_7'
              have bx_7 := own_later bx_6 hb_7'
              have zbx_7 := Nat.le_trans zbx_6 hb_7'.size
              have by_7 := own_later by_6 hb_7'
              have zby_7 := Nat.le_trans zby_6 hb_7'.size
              have bz_7 := own_later bz_6 hb_7'
              have zbz_7 := Nat.le_trans zbz_6 hb_7'.size
              have kp_7 := hide (kp_6.out.later hb_7')
              have kc_7 := hide (kc_6.out.later hb_7')
              clear hb_7' bx_6 zbx_6 by_6 zby_6 bz_6 zbz_6 kp_6 kc_6 hb_6
              have p0 : w_7.cell? ⟨w_0.heap.size, 0, none⟩ = some (.int .i64 a) := kp_7.out.at_ rfl
              have p1 : w_7.cell? ⟨w_0.heap.size, 1, none⟩ = some (.int .i64 r) := kp_7.out.at_ rfl
              have p2 : w_7.cell? ⟨w_0.heap.size, 2, none⟩ = some (.slice A1 n1 c1) := kp_7.out.at_ rfl
              have p3 : w_7.cell? ⟨w_0.heap.size, 3, none⟩ = some (.slice A2 n2 c2) := kp_7.out.at_ rfl
              have p4 : w_7.cell? ⟨w_0.heap.size, 4, none⟩ = some (.int .i64 d) := kp_7.out.at_ rfl
              have p5 : w_7.cell? ⟨w_0.heap.size, 5, none⟩ = some (.slice A3 n3 c3) := kp_7.out.at_ rfl
              have p6 : w_7.cell? ⟨w_0.heap.size, 6, none⟩ = some (.int .i64 N) := kp_7.out.at_ rfl
              have p7 : w_7.cell? ⟨w_0.heap.size, 7, none⟩ = some (.slice A4 n4 c4) := kp_7.out.at_ rfl
              have q0 : w_7.cell? ⟨w_3.heap.size, 0, none⟩ = some (.int .i64 a) := kc_7.out.at_ rfl
              have q1 : w_7.cell? ⟨w_3.heap.size, 1, none⟩ = some (.int .i64 r) := kc_7.out.at_ rfl
              have q2 : w_7.cell? ⟨w_3.heap.size, 2, none⟩ = some (.slice A5 n1 c5) := kc_7.out.at_ rfl
              have q3 : w_7.cell? ⟨w_3.heap.size, 3, none⟩ = some (.slice A6 n2 c6) := kc_7.out.at_ rfl
              have q4 : w_7.cell? ⟨w_3.heap.size, 4, none⟩ = some (.int .i64 d) := kc_7.out.at_ rfl
              have q5 : w_7.cell? ⟨w_3.heap.size, 5, none⟩ = some (.slice A7 n3 c7) := kc_7.out.at_ rfl
              go_wp2_with fail
              refine (ref0_EqCert (c1 := c5) (c2 := c6) (c3 := c7) (d1 := c1) (d2 := c2) (d3 := c3) ⟨⟨a, r, bs, ps⟩, d, ss⟩ ⟨⟨a, r, bs, ps⟩, d, ss⟩ _ (Sl.of_own bx_7) (Sl.of_own by_7) (Sl.of_own bz_7) (HS1.out.below hb_7) (HS2.out.below hb_7) (HS3.out.below hb_7) (by omega) (by omega) (by omega) (by omega) (by omega) (by omega) (r := true) (by simp [Hid])).mono ?_
              rintro e w_8 ⟨rfl, hb_8'⟩
              have hb_8 := below_then hb_7 hb_8'
              have bx_8 := own_later bx_7 hb_8'
              have zbx_8 := Nat.le_trans zbx_7 hb_8'.size
              have by_8 := own_later by_7 hb_8'
              have zby_8 := Nat.le_trans zby_7 hb_8'.size
              have bz_8 := own_later bz_7 hb_8'
              have zbz_8 := Nat.le_trans zbz_7 hb_8'.size
              have kp_8 := hide (kp_7.out.later hb_8')
              have kc_8 := hide (kc_7.out.later hb_8')
              clear hb_8' bx_7 zbx_7 by_7 zby_7 bz_7 zbz_7 kp_7 kc_7 hb_7
              go_wp2_with fail
              go_roundw
              case rel => exact ⟨k + 1, by omega, by go_num, hb_8⟩
              case measure => simp [intOf]; omega
            case true =>
              have HR2 := hide h2
              clear h2
              have := (mayC_iff.1 HR2.out).1
              rw [HR1.out] at this
              cases this
          case true =>
            have HR1 := hide h1
            clear h1
            cases h2 : mayC N ⟨⟨a, r, bs, ps⟩, d, ss⟩
            case false =>
              have HR2 := hide h2
              clear h2
              go_wp2_with fail
              generalize (w_3.alloc (.cells #[.int .i64 a, .int .i64 r, .slice A5 n1 c5, .slice A6 n2 c6, .int .i64 d, .slice A7 n3 c7] 51)) = w_4 at hb_4 bx_4 zbx_4 by_4 zby_4 bz_4 zbz_4 kp_4 kc_4 ⊢
              have fq0 : ∀ n : Wd w_4, n.w.cell? ⟨w_0.heap.size, 0, none⟩ = some (.int .i64 a) := Wd.cell (kp_4.out.at_ rfl)
              have fq1 : ∀ n : Wd w_4, n.w.cell? ⟨w_0.heap.size, 1, none⟩ = some (.int .i64 r) := Wd.cell (kp_4.out.at_ rfl)
              have fq2 : ∀ n : Wd w_4, n.w.cell? ⟨w_0.heap.size, 2, none⟩ = some (.slice A1 n1 c1) := Wd.cell (kp_4.out.at_ rfl)
              have fq3 : ∀ n : Wd w_4, n.w.cell? ⟨w_0.heap.size, 3, none⟩ = some (.slice A2 n2 c2) := Wd.cell (kp_4.out.at_ rfl)
              have fq4 : ∀ n : Wd w_4, n.w.cell? ⟨w_0.heap.size, 4, none⟩ = some (.int .i64 d) := Wd.cell (kp_4.out.at_ rfl)
              have fq5 : ∀ n : Wd w_4, n.w.cell? ⟨w_0.heap.size, 5, none⟩ = some (.slice A3 n3 c3) := Wd.cell (kp_4.out.at_ rfl)
              have fq6 : ∀ n : Wd w_4, n.w.cell? ⟨w_0.heap.size, 6, none⟩ = some (.int .i64 N) := Wd.cell (kp_4.out.at_ rfl)
              have fq7 : ∀ n : Wd w_4, n.w.cell? ⟨w_0.heap.size, 7, none⟩ = some (.slice A4 n4 c4) := Wd.cell (kp_4.out.at_ rfl)
              have fq8 : ∀ n : Wd w_4, n.w.cell? ⟨w_3.heap.size, 0, none⟩ = some (.int .i64 a) := Wd.cell (kc_4.out.at_ rfl)
              have fq9 : ∀ n : Wd w_4, n.w.cell? ⟨w_3.heap.size, 1, none⟩ = some (.int .i64 r) := Wd.cell (kc_4.out.at_ rfl)
              have fq10 : ∀ n : Wd w_4, n.w.cell? ⟨w_3.heap.size, 2, none⟩ = some (.slice A5 n1 c5) := Wd.cell (kc_4.out.at_ rfl)
              have fq11 : ∀ n : Wd w_4, n.w.cell? ⟨w_3.heap.size, 3, none⟩ = some (.slice A6 n2 c6) := Wd.cell (kc_4.out.at_ rfl)
              have fq12 : ∀ n : Wd w_4, n.w.cell? ⟨w_3.heap.size, 4, none⟩ = some (.int .i64 d) := Wd.cell (kc_4.out.at_ rfl)
              have fq13 : ∀ n : Wd w_4, n.w.cell? ⟨w_3.heap.size, 5, none⟩ = some (.slice A7 n3 c7) := Wd.cell (kc_4.out.at_ rfl)
              refine wp_region_wd (by kernel_rfl) (by kernel_rfl) ?_
              repeat (go_big_quiet_step (first
                | (go_at_call 30; exact wd_same (law6_num _ _))
                | (go_at_call 42; exact wd_call (header_Check (c1 := c5) (c2 := c6) N ⟨a, r, bs, ps⟩ _ ((Sl.of_own bx_4).below (Wd.below _)) ((Sl.of_own by_4).below (Wd.below _)) (by omega) (by omega) HR1))
                | (go_at_call 43; exact wd_call (header_Cert (c1 := c5) (c2 := c6) (c3 := c7) N ⟨⟨a, r, bs, ps⟩, d, ss⟩ _ ((Sl.of_own bx_4).below (Wd.below _)) ((Sl.of_own by_4).below (Wd.below _)) ((Sl.of_own bz_4).below (Wd.below _)) (by omega) (by omega) (by omega) HR2))
                | fail))
              refine wpQuiet_nil (wd_end fun w_5 hb_5' => ?_)
              clear fq0 fq1 fq2 fq3 fq4 fq5 fq6 fq7 fq8 fq9 fq10 fq11 fq12 fq13
              have hb_5 := below_then hb_4 hb_5'
              have bx_5 := own_later bx_4 hb_5'
              have zbx_5 := Nat.le_trans zbx_4 hb_5'.size
              have by_5 := own_later by_4 hb_5'
              have zby_5 := Nat.le_trans zby_4 hb_5'.size
              have bz_5 := own_later bz_4 hb_5'
              have zbz_5 := Nat.le_trans zbz_4 hb_5'.size
              have kp_5 := hide (kp_4.out.later hb_5')
              have kc_5 := hide (kc_4.out.later hb_5')
              clear hb_5' bx_4 zbx_4 by_4 zby_4 bz_4 zbz_4 kp_4 kc_4 hb_4
              have p0 : w_5.cell? ⟨w_0.heap.size, 0, none⟩ = some (.int .i64 a) := kp_5.out.at_ rfl
              have p1 : w_5.cell? ⟨w_0.heap.size, 1, none⟩ = some (.int .i64 r) := kp_5.out.at_ rfl
              have p2 : w_5.cell? ⟨w_0.heap.size, 2, none⟩ = some (.slice A1 n1 c1) := kp_5.out.at_ rfl
              have p3 : w_5.cell? ⟨w_0.heap.size, 3, none⟩ = some (.slice A2 n2 c2) := kp_5.out.at_ rfl
              have p4 : w_5.cell? ⟨w_0.heap.size, 4, none⟩ = some (.int .i64 d) := kp_5.out.at_ rfl
              have p5 : w_5.cell? ⟨w_0.heap.size, 5, none⟩ = some (.slice A3 n3 c3) := kp_5.out.at_ rfl
              have p6 : w_5.cell? ⟨w_0.heap.size, 6, none⟩ = some (.int .i64 N) := kp_5.out.at_ rfl
              have p7 : w_5.cell? ⟨w_0.heap.size, 7, none⟩ = some (.slice A4 n4 c4) := kp_5.out.at_ rfl
              have q0 : w_5.cell? ⟨w_3.heap.size, 0, none⟩ = some (.int .i64 a) := kc_5.out.at_ rfl
              have q1 : w_5.cell? ⟨w_3.heap.size, 1, none⟩ = some (.int .i64 r) := kc_5.out.at_ rfl
              have q2 : w_5.cell? ⟨w_3.heap.size, 2, none⟩ = some (.slice A5 n1 c5) := kc_5.out.at_ rfl
              have q3 : w_5.cell? ⟨w_3.heap.size, 3, none⟩ = some (.slice A6 n2 c6) := kc_5.out.at_ rfl
              have q4 : w_5.cell? ⟨w_3.heap.size, 4, none⟩ = some (.int .i64 d) := kc_5.out.at_ rfl
              have q5 : w_5.cell? ⟨w_3.heap.size, 5, none⟩ = some (.slice A7 n3 c7) := kc_5.out.at_ rfl
              go_wp2_with fail
              refine (ref4_Header (c1 := c1) (c2 := c2) N ⟨a, r, bs, ps⟩ _ (HS1.out.below hb_5) (HS2.out.below hb_5) (by omega) (by omega) HR1).mono ?_
              rintro e w_6 ⟨rfl, hb_6'⟩
              have hb_6 := below_then hb_5 hb_6'
              have bx_6 := own_later bx_5 hb_6'
              have zbx_6 := Nat.le_trans zbx_5 hb_6'.size
              have by_6 := own_later by_5 hb_6'
              have zby_6 := Nat.le_trans zby_5 hb_6'.size
              have bz_6 := own_later bz_5 hb_6'
              have zbz_6 := Nat.le_trans zbz_5 hb_6'.size
              have kp_6 := hide (kp_5.out.later hb_6')
              have kc_6 := hide (kc_5.out.later hb_6')
              clear hb_6' bx_5 zbx_5 by_5 zby_5 bz_5 zbz_5 kp_5 kc_5 hb_5
              have p0 : w_6.cell? ⟨w_0.heap.size, 0, none⟩ = some (.int .i64 a) := kp_6.out.at_ rfl
              have p1 : w_6.cell? ⟨w_0.heap.size, 1, none⟩ = some (.int .i64 r) := kp_6.out.at_ rfl
              have p2 : w_6.cell? ⟨w_0.heap.size, 2, none⟩ = some (.slice A1 n1 c1) := kp_6.out.at_ rfl
              have p3 : w_6.cell? ⟨w_0.heap.size, 3, none⟩ = some (.slice A2 n2 c2) := kp_6.out.at_ rfl
              have p4 : w_6.cell? ⟨w_0.heap.size, 4, none⟩ = some (.int .i64 d) := kp_6.out.at_ rfl
              have p5 : w_6.cell? ⟨w_0.heap.size, 5, none⟩ = some (.slice A3 n3 c3) := kp_6.out.at_ rfl
              have p6 : w_6.cell? ⟨w_0.heap.size, 6, none⟩ = some (.int .i64 N) := kp_6.out.at_ rfl
              have p7 : w_6.cell? ⟨w_0.heap.size, 7, none⟩ = some (.slice A4 n4 c4) := kp_6.out.at_ rfl
              have q0 : w_6.cell? ⟨w_3.heap.size, 0, none⟩ = some (.int .i64 a) := kc_6.out.at_ rfl
              have q1 : w_6.cell? ⟨w_3.heap.size, 1, none⟩ = some (.int .i64 r) := kc_6.out.at_ rfl
              have q2 : w_6.cell? ⟨w_3.heap.size, 2, none⟩ = some (.slice A5 n1 c5) := kc_6.out.at_ rfl
              have q3 : w_6.cell? ⟨w_3.heap.size, 3, none⟩ = some (.slice A6 n2 c6) := kc_6.out.at_ rfl
              have q4 : w_6.cell? ⟨w_3.heap.size, 4, none⟩ = some (.int .i64 d) := kc_6.out.at_ rfl
              have q5 : w_6.cell? ⟨w_3.heap.size, 5, none⟩ = some (.slice A7 n3 c7) := kc_6.out.at_ rfl
              go_wp2_with fail
              refine (ref4_Cert (c1 := c1) (c2 := c2) (c3 := c3) N ⟨⟨a, r, bs, ps⟩, d, ss⟩ _ (HS1.out.below hb_6) (HS2.out.below hb_6) (HS3.out.below hb_6) (by omega) (by omega) (by omega) HR2).mono ?_
              rintro e w_7 ⟨rfl, hb_7'⟩
              have hb_7 := below_then hb_6 hb_7'
              have bx_7 := own_later bx_6 hb_7'
              have zbx_7 := Nat.le_trans zbx_6 hb_7'.size
              have by_7 := own_later by_6 hb_7'
              have zby_7 := Nat.le_trans zby_6 hb_7'.size
              have bz_7 := own_later bz_6 hb_7'
              have zbz_7 := Nat.le_trans zbz_6 hb_7'.size
              have kp_7 := hide (kp_6.out.later hb_7')
              have kc_7 := hide (kc_6.out.later hb_7')
              clear hb_7' bx_6 zbx_6 by_6 zby_6 bz_6 zbz_6 kp_6 kc_6 hb_6
              have p0 : w_7.cell? ⟨w_0.heap.size, 0, none⟩ = some (.int .i64 a) := kp_7.out.at_ rfl
              have p1 : w_7.cell? ⟨w_0.heap.size, 1, none⟩ = some (.int .i64 r) := kp_7.out.at_ rfl
              have p2 : w_7.cell? ⟨w_0.heap.size, 2, none⟩ = some (.slice A1 n1 c1) := kp_7.out.at_ rfl
              have p3 : w_7.cell? ⟨w_0.heap.size, 3, none⟩ = some (.slice A2 n2 c2) := kp_7.out.at_ rfl
              have p4 : w_7.cell? ⟨w_0.heap.size, 4, none⟩ = some (.int .i64 d) := kp_7.out.at_ rfl
              have p5 : w_7.cell? ⟨w_0.heap.size, 5, none⟩ = some (.slice A3 n3 c3) := kp_7.out.at_ rfl
              have p6 : w_7.cell? ⟨w_0.heap.size, 6, none⟩ = some (.int .i64 N) := kp_7.out.at_ rfl
              have p7 : w_7.cell? ⟨w_0.heap.size, 7, none⟩ = some (.slice A4 n4 c4) := kp_7.out.at_ rfl
              have q0 : w_7.cell? ⟨w_3.heap.size, 0, none⟩ = some (.int .i64 a) := kc_7.out.at_ rfl
              have q1 : w_7.cell? ⟨w_3.heap.size, 1, none⟩ = some (.int .i64 r) := kc_7.out.at_ rfl
              have q2 : w_7.cell? ⟨w_3.heap.size, 2, none⟩ = some (.slice A5 n1 c5) := kc_7.out.at_ rfl
              have q3 : w_7.cell? ⟨w_3.heap.size, 3, none⟩ = some (.slice A6 n2 c6) := kc_7.out.at_ rfl
              have q4 : w_7.cell? ⟨w_3.heap.size, 4, none⟩ = some (.int .i64 d) := kc_7.out.at_ rfl
              have q5 : w_7.cell? ⟨w_3.heap.size, 5, none⟩ = some (.slice A7 n3 c7) := kc_7.out.at_ rfl
              go_wp2_with fail
              refine (ref0_EqCert (c1 := c5) (c2 := c6) (c3 := c7) (d1 := c1) (d2 := c2) (d3 := c3) ⟨⟨a, r, bs, ps⟩, d, ss⟩ ⟨⟨a, r, bs, ps⟩, d, ss⟩ _ (Sl.of_own bx_7) (Sl.of_own by_7) (Sl.of_own bz_7) (HS1.out.below hb_7) (HS2.out.below hb_7) (HS3.out.below hb_7) (by omega) (by omega) (by omega) (by omega) (by omega) (by omega) (r := true) (by simp [Hid])).mono ?_
              rintro e w_8 ⟨rfl, hb_8'⟩
              have hb_8 := below_then hb_7 hb_8'
              have bx_8 := own_later bx_7 hb_8'
              have zbx_8 := Nat.le_trans zbx_7 hb_8'.size
              have by_8 := own_later by_7 hb_8'
              have zby_8 := Nat.le_trans zby_7 hb_8'.size
              have bz_8 := own_later bz_7 hb_8'
              have zbz_8 := Nat.le_trans zbz_7 hb_8'.size
              have kp_8 := hide (kp_7.out.later hb_8')
              have kc_8 := hide (kc_7.out.later hb_8')
              clear hb_8' bx_7 zbx_7 by_7 zby_7 bz_7 zbz_7 kp_7 kc_7 hb_7
              go_wp2_with fail
              go_roundw
              case rel => exact ⟨k + 1, by omega, by go_num, hb_8⟩
              case measure => simp [intOf]; omega
            case true =>
              have HR2 := hide h2
              clear h2
              go_wp2_with fail
              generalize (w_3.alloc (.cells #[.int .i64 a, .int .i64 r, .slice A5 n1 c5, .slice A6 n2 c6, .int .i64 d, .slice A7 n3 c7] 51)) = w_4 at hb_4 bx_4 zbx_4 by_4 zby_4 bz_4 zbz_4 kp_4 kc_4 ⊢
              have fq0 : ∀ n : Wd w_4, n.w.cell? ⟨w_0.heap.size, 0, none⟩ = some (.int .i64 a) := Wd.cell (kp_4.out.at_ rfl)
              have fq1 : ∀ n : Wd w_4, n.w.cell? ⟨w_0.heap.size, 1, none⟩ = some (.int .i64 r) := Wd.cell (kp_4.out.at_ rfl)
              have fq2 : ∀ n : Wd w_4, n.w.cell? ⟨w_0.heap.size, 2, none⟩ = some (.slice A1 n1 c1) := Wd.cell (kp_4.out.at_ rfl)
              have fq3 : ∀ n : Wd w_4, n.w.cell? ⟨w_0.heap.size, 3, none⟩ = some (.slice A2 n2 c2) := Wd.cell (kp_4.out.at_ rfl)
              have fq4 : ∀ n : Wd w_4, n.w.cell? ⟨w_0.heap.size, 4, none⟩ = some (.int .i64 d) := Wd.cell (kp_4.out.at_ rfl)
              have fq5 : ∀ n : Wd w_4, n.w.cell? ⟨w_0.heap.size, 5, none⟩ = some (.slice A3 n3 c3) := Wd.cell (kp_4.out.at_ rfl)
              have fq6 : ∀ n : Wd w_4, n.w.cell? ⟨w_0.heap.size, 6, none⟩ = some (.int .i64 N) := Wd.cell (kp_4.out.at_ rfl)
              have fq7 : ∀ n : Wd w_4, n.w.cell? ⟨w_0.heap.size, 7, none⟩ = some (.slice A4 n4 c4) := Wd.cell (kp_4.out.at_ rfl)
              have fq8 : ∀ n : Wd w_4, n.w.cell? ⟨w_3.heap.size, 0, none⟩ = some (.int .i64 a) := Wd.cell (kc_4.out.at_ rfl)
              have fq9 : ∀ n : Wd w_4, n.w.cell? ⟨w_3.heap.size, 1, none⟩ = some (.int .i64 r) := Wd.cell (kc_4.out.at_ rfl)
              have fq10 : ∀ n : Wd w_4, n.w.cell? ⟨w_3.heap.size, 2, none⟩ = some (.slice A5 n1 c5) := Wd.cell (kc_4.out.at_ rfl)
              have fq11 : ∀ n : Wd w_4, n.w.cell? ⟨w_3.heap.size, 3, none⟩ = some (.slice A6 n2 c6) := Wd.cell (kc_4.out.at_ rfl)
              have fq12 : ∀ n : Wd w_4, n.w.cell? ⟨w_3.heap.size, 4, none⟩ = some (.int .i64 d) := Wd.cell (kc_4.out.at_ rfl)
              have fq13 : ∀ n : Wd w_4, n.w.cell? ⟨w_3.heap.size, 5, none⟩ = some (.slice A7 n3 c7) := Wd.cell (kc_4.out.at_ rfl)
              refine wp_region_wd (by kernel_rfl) (by kernel_rfl) ?_
              repeat (go_big_quiet_step (first
                | (go_at_call 30; exact wd_same (law6_num _ _))
                | (go_at_call 42; exact wd_call (header_Check (c1 := c5) (c2 := c6) N ⟨a, r, bs, ps⟩ _ ((Sl.of_own bx_4).below (Wd.below _)) ((Sl.of_own by_4).below (Wd.below _)) (by omega) (by omega) HR1))
                | (go_at_call 43; exact wd_call (header_Cert (c1 := c5) (c2 := c6) (c3 := c7) N ⟨⟨a, r, bs, ps⟩, d, ss⟩ _ ((Sl.of_own bx_4).below (Wd.below _)) ((Sl.of_own by_4).below (Wd.below _)) ((Sl.of_own bz_4).below (Wd.below _)) (by omega) (by omega) (by omega) HR2))
                | fail))
              refine wpQuiet_nil (wd_end fun w_5 hb_5' => ?_)
              clear fq0 fq1 fq2 fq3 fq4 fq5 fq6 fq7 fq8 fq9 fq10 fq11 fq12 fq13
              have hb_5 := below_then hb_4 hb_5'
              have bx_5 := own_later bx_4 hb_5'
              have zbx_5 := Nat.le_trans zbx_4 hb_5'.size
              have by_5 := own_later by_4 hb_5'
              have zby_5 := Nat.le_trans zby_4 hb_5'.size
              have bz_5 := own_later bz_4 hb_5'
              have zbz_5 := Nat.le_trans zbz_4 hb_5'.size
              have kp_5 := hide (kp_4.out.later hb_5')
              have kc_5 := hide (kc_4.out.later hb_5')
              clear hb_5' bx_4 zbx_4 by_4 zby_4 bz_4 zbz_4 kp_4 kc_4 hb_4
              have p0 : w_5.cell? ⟨w_0.heap.size, 0, none⟩ = some (.int .i64 a) := kp_5.out.at_ rfl
              have p1 : w_5.cell? ⟨w_0.heap.size, 1, none⟩ = some (.int .i64 r) := kp_5.out.at_ rfl
              have p2 : w_5.cell? ⟨w_0.heap.size, 2, none⟩ = some (.slice A1 n1 c1) := kp_5.out.at_ rfl
              have p3 : w_5.cell? ⟨w_0.heap.size, 3, none⟩ = some (.slice A2 n2 c2) := kp_5.out.at_ rfl
              have p4 : w_5.cell? ⟨w_0.heap.size, 4, none⟩ = some (.int .i64 d) := kp_5.out.at_ rfl
              have p5 : w_5.cell? ⟨w_0.heap.size, 5, none⟩ = some (.slice A3 n3 c3) := kp_5.out.at_ rfl
              have p6 : w_5.cell? ⟨w_0.heap.size, 6, none⟩ = some (.int .i64 N) := kp_5.out.at_ rfl
              have p7 : w_5.cell? ⟨w_0.heap.size, 7, none⟩ = some (.slice A4 n4 c4) := kp_5.out.at_ rfl
              have q0 : w_5.cell? ⟨w_3.heap.size, 0, none⟩ = some (.int .i64 a) := kc_5.out.at_ rfl
              have q1 : w_5.cell? ⟨w_3.heap.size, 1, none⟩ = some (.int .i64 r) := kc_5.out.at_ rfl
              have q2 : w_5.cell? ⟨w_3.heap.size, 2, none⟩ = some (.slice A5 n1 c5) := kc_5.out.at_ rfl
              have q3 : w_5.cell? ⟨w_3.heap.size, 3, none⟩ = some (.slice A6 n2 c6) := kc_5.out.at_ rfl
              have q4 : w_5.cell? ⟨w_3.heap.size, 4, none⟩ = some (.int .i64 d) := kc_5.out.at_ rfl
              have q5 : w_5.cell? ⟨w_3.heap.size, 5, none⟩ = some (.slice A7 n3 c7) := kc_5.out.at_ rfl
              go_wp2_with fail
              refine (ref4_Header (c1 := c1) (c2 := c2) N ⟨a, r, bs, ps⟩ _ (HS1.out.below hb_5) (HS2.out.below hb_5) (by omega) (by omega) HR1).mono ?_
              rintro e w_6 ⟨rfl, hb_6'⟩
              have hb_6 := below_then hb_5 hb_6'
              have bx_6 := own_later bx_5 hb_6'
              have zbx_6 := Nat.le_trans zbx_5 hb_6'.size
              have by_6 := own_later by_5 hb_6'
              have zby_6 := Nat.le_trans zby_5 hb_6'.size
              have bz_6 := own_later bz_5 hb_6'
              have zbz_6 := Nat.le_trans zbz_5 hb_6'.size
              have kp_6 := hide (kp_5.out.later hb_6')
              have kc_6 := hide (kc_5.out.later hb_6')
              clear hb_6' bx_5 zbx_5 by_5 zby_5 bz_5 zbz_5 kp_5 kc_5 hb_5
              have p0 : w_6.cell? ⟨w_0.heap.size, 0, none⟩ = some (.int .i64 a) := kp_6.out.at_ rfl
              have p1 : w_6.cell? ⟨w_0.heap.size, 1, none⟩ = some (.int .i64 r) := kp_6.out.at_ rfl
              have p2 : w_6.cell? ⟨w_0.heap.size, 2, none⟩ = some (.slice A1 n1 c1) := kp_6.out.at_ rfl
              have p3 : w_6.cell? ⟨w_0.heap.size, 3, none⟩ = some (.slice A2 n2 c2) := kp_6.out.at_ rfl
              have p4 : w_6.cell? ⟨w_0.heap.size, 4, none⟩ = some (.int .i64 d) := kp_6.out.at_ rfl
              have p5 : w_6.cell? ⟨w_0.heap.size, 5, none⟩ = some (.slice A3 n3 c3) := kp_6.out.at_ rfl
              have p6 : w_6.cell? ⟨w_0.heap.size, 6, none⟩ = some (.int .i64 N) := kp_6.out.at_ rfl
              have p7 : w_6.cell? ⟨w_0.heap.size, 7, none⟩ = some (.slice A4 n4 c4) := kp_6.out.at_ rfl
              have q0 : w_6.cell? ⟨w_3.heap.size, 0, none⟩ = some (.int .i64 a) := kc_6.out.at_ rfl
              have q1 : w_6.cell? ⟨w_3.heap.size, 1, none⟩ = some (.int .i64 r) := kc_6.out.at_ rfl
              have q2 : w_6.cell? ⟨w_3.heap.size, 2, none⟩ = some (.slice A5 n1 c5) := kc_6.out.at_ rfl
              have q3 : w_6.cell? ⟨w_3.heap.size, 3, none⟩ = some (.slice A6 n2 c6) := kc_6.out.at_ rfl
              have q4 : w_6.cell? ⟨w_3.heap.size, 4, none⟩ = some (.int .i64 d) := kc_6.out.at_ rfl
              have q5 : w_6.cell? ⟨w_3.heap.size, 5, none⟩ = some (.slice A7 n3 c7) := kc_6.out.at_ rfl
              go_wp2_with fail
              refine (ref4_Cert (c1 := c1) (c2 := c2) (c3 := c3) N ⟨⟨a, r, bs, ps⟩, d, ss⟩ _ (HS1.out.below hb_6) (HS2.out.below hb_6) (HS3.out.below hb_6) (by omega) (by omega) (by omega) HR2).mono ?_
              rintro e w_7 ⟨rfl, hb_7'⟩
              have hb_7 := below_then hb_6 hb_7'
              have bx_7 := own_later bx_6 hb_7'
              have zbx_7 := Nat.le_trans zbx_6 hb_7'.size
              have by_7 := own_later by_6 hb_7'
              have zby_7 := Nat.le_trans zby_6 hb_7'.size
              have bz_7 := own_later bz_6 hb_7'
              have zbz_7 := Nat.le_trans zbz_6 hb_7'.size
              have kp_7 := hide (kp_6.out.later hb_7')
              have kc_7 := hide (kc_6.out.later hb_7')
              clear hb_7' bx_6 zbx_6 by_6 zby_6 bz_6 zbz_6 kp_6 kc_6 hb_6
              have p0 : w_7.cell? ⟨w_0.heap.size, 0, none⟩ = some (.int .i64 a) := kp_7.out.at_ rfl
              have p1 : w_7.cell? ⟨w_0.heap.size, 1, none⟩ = some (.int .i64 r) := kp_7.out.at_ rfl
              have p2 : w_7.cell? ⟨w_0.heap.size, 2, none⟩ = some (.slice A1 n1 c1) := kp_7.out.at_ rfl
              have p3 : w_7.cell? ⟨w_0.heap.size, 3, none⟩ = some (.slice A2 n2 c2) := kp_7.out.at_ rfl
              have p4 : w_7.cell? ⟨w_0.heap.size, 4, none⟩ = some (.int .i64 d) := kp_7.out.at_ rfl
              have p5 : w_7.cell? ⟨w_0.heap.size, 5, none⟩ = some (.slice A3 n3 c3) := kp_7.out.at_ rfl
              have p6 : w_7.cell? ⟨w_0.heap.size, 6, none⟩ = some (.int .i64 N) := kp_7.out.at_ rfl
              have p7 : w_7.cell? ⟨w_0.heap.size, 7, none⟩ = some (.slice A4 n4 c4) := kp_7.out.at_ rfl
              have q0 : w_7.cell? ⟨w_3.heap.size, 0, none⟩ = some (.int .i64 a) := kc_7.out.at_ rfl
              have q1 : w_7.cell? ⟨w_3.heap.size, 1, none⟩ = some (.int .i64 r) := kc_7.out.at_ rfl
              have q2 : w_7.cell? ⟨w_3.heap.size, 2, none⟩ = some (.slice A5 n1 c5) := kc_7.out.at_ rfl
              have q3 : w_7.cell? ⟨w_3.heap.size, 3, none⟩ = some (.slice A6 n2 c6) := kc_7.out.at_ rfl
              have q4 : w_7.cell? ⟨w_3.heap.size, 4, none⟩ = some (.int .i64 d) := kc_7.out.at_ rfl
              have q5 : w_7.cell? ⟨w_3.heap.size, 5, none⟩ = some (.slice A7 n3 c7) := kc_7.out.at_ rfl
              go_wp2_with fail
              refine (ref0_EqCert (c1 := c5) (c2 := c6) (c3 := c7) (d1 := c1) (d2 := c2) (d3 := c3) ⟨⟨a, r, bs, ps⟩, d, ss⟩ ⟨⟨a, r, bs, ps⟩, d, ss⟩ _ (Sl.of_own bx_7) (Sl.of_own by_7) (Sl.of_own bz_7) (HS1.out.below hb_7) (HS2.out.below hb_7) (HS3.out.below hb_7) (by omega) (by omega) (by omega) (by omega) (by omega) (by omega) (r := true) (by simp [Hid])).mono ?_
              rintro e w_8 ⟨rfl, hb_8'⟩
              have hb_8 := below_then hb_7 hb_8'
              have bx_8 := own_later bx_7 hb_8'
              have zbx_8 := Nat.le_trans zbx_7 hb_8'.size
              have by_8 := own_later by_7 hb_8'
              have zby_8 := Nat.le_trans zby_7 hb_8'.size
              have bz_8 := own_later bz_7 hb_8'
              have zbz_8 := Nat.le_trans zbz_7 hb_8'.size
              have kp_8 := hide (kp_7.out.later hb_8')
              have kc_8 := hide (kc_7.out.later hb_8')
              clear hb_8' bx_7 zbx_7 by_7 zby_7 bz_7 zbz_7 kp_7 kc_7 hb_7
              go_wp2_with fail
              go_roundw
              case rel => exact ⟨k + 1, by omega, by go_num, hb_8⟩
              case measure => simp [intOf]; omega
      · go_wp2_with fail
        refine (law6_wakes _).mono ?_
        rintro e w1 ⟨rfl, hb1⟩
        go_wp2_with fail
        go_ret
        exact ⟨rfl, below_then hb_0 hb1⟩
    · go_wp2_with fail
      refine (law6_wakes _).mono ?_
      rintro e w1 ⟨rfl, hb1⟩
      go_wp2_with fail
      go_ret
      exact ⟨rfl, below_then hb_0 hb1⟩
end Go.Proofs.Ytihpmaifcebpiaa
