/-
  The walk of HeaderParses: whatever the list of records, the call answers true and changes nothing that was there.
-/
import Derived.Test.YtihpmaifcebpiaaHdrL
import Derived.Test.YtihpmaifcebpiaaHdrQ
import Derived.Test.YtihpmaifcebpiaaHdrS
import Derived.Test.YtihpmaifcebpiaaSpo
namespace Go.Proofs.Ytihpmaifcebpiaa
open Go.RowKit

set_option maxRecDepth 100000 in
set_option maxHeartbeats 4000000 in
theorem walk_HeaderParses {v : Value} {w : World} (ho : ∃ A n c, v = .slice A n c ∧ Asks6 w A n) :
    Calls Try.prog 8 #[v] w fun r w' => r = .returned (.bool true) ∧ Below w.heap.size w w' := by
  obtain ⟨A, n, c, rfl, hn, h⟩ := ho
  obtain ⟨i0, hi, hz0, hz1, hz2⟩ := info_parts Try.infoByte
  go_enter Try.func8, Try.ntmps8
  go_wp2_with fail
  go_loopw [3] (fun i wr => ∃ k : Nat, k ≤ n ∧ i = .int .i64 k ∧ Below w.heap.size w wr) (fun i _ => n - (intOf i).toNat)
  case atStart => exact ⟨0, Nat.zero_le _, rfl, Below.refl _ _⟩
  case round =>
    obtain ⟨k, hk, rfl, hb_0⟩ := hrel
    obtain ⟨w_0, rfl⟩ : ∃ wo : World, wo = wr := ⟨_, rfl⟩
    by_cases hlt : k < n
    · obtain ⟨b, off, rfl, hc⟩ := h (by omega)
      obtain ⟨⟨⟨a, r, bs, ps⟩, d, ss⟩, A1, n1, c1, A2, n2, c2, A3, n3, c3, N, A4, n4, c4, xs, C0, C1, C2, C3, C4, C5, C6, C7, ⟨S1, hn1⟩, ⟨S2, hn2⟩, ⟨S3, hn3⟩, ⟨S4, hn4, hcc4, hcm4⟩⟩ := hc k hlt
      simp only at C0 C1 C4 S1 S2 S3
      have HC0 := hide C0
      have HC1 := hide C1
      have HC2 := hide C2
      have HC3 := hide C3
      have HC4 := hide C4
      have HC5 := hide C5
      have HC6 := hide C6
      have HC7 := hide C7
      have HS1 := hide S1
      have HS2 := hide S2
      have HS3 := hide S3
      have HS4 := hide S4
      have HL1 := hide S1.ilen
      have HL2 := hide S2.ilen
      have HL3 := hide S3.ilen
      have HBL := hide S4.blen
      clear C0 C1 C2 C3 C4 C5 C6 C7 S1 S2 S3 S4 h hc
      by_cases hm : k < 8
      · skip
        have cHC0_0 := cell_later hb_0 HC0.out
        have cHC1_0 := cell_later hb_0 HC1.out
        have cHC2_0 := cell_later hb_0 HC2.out
        have cHC3_0 := cell_later hb_0 HC3.out
        have cHC4_0 := cell_later hb_0 HC4.out
        have cHC5_0 := cell_later hb_0 HC5.out
        have cHC6_0 := cell_later hb_0 HC6.out
        have cHC7_0 := cell_later hb_0 HC7.out
        cases hv : heavy6 n1 n2 n3 n4 with
        | true =>
          have HV := hide hv
          clear hv
          go_wp2_with fail
          refine (law6_heavy (A1 := A1) (A2 := A2) (A3 := A3) (A4 := A4) (c1 := c1) (c2 := c2) (c3 := c3) (n4 := n4) (c4 := c4) a r d N _ hn1 hn2 hn3 (by omega)).mono ?_
          rintro e w_1 ⟨rfl, hb_1'⟩
          have hb_1 := below_then hb_0 hb_1'
          have cHC0_1 := cell_later hb_1 HC0.out
          have cHC1_1 := cell_later hb_1 HC1.out
          have cHC2_1 := cell_later hb_1 HC2.out
          have cHC3_1 := cell_later hb_1 HC3.out
          have cHC4_1 := cell_later hb_1 HC4.out
          have cHC5_1 := cell_later hb_1 HC5.out
          have cHC6_1 := cell_later hb_1 HC6.out
          have cHC7_1 := cell_later hb_1 HC7.out
          clear hb_1' cHC0_0 cHC1_0 cHC2_0 cHC3_0 cHC4_0 cHC5_0 cHC6_0 cHC7_0 hb_0
          rw [HV.out]
          go_wp2_with fail
          go_ret
          exact ⟨rfl, hb_1⟩
        | false =>
          obtain ⟨hw500, hn4'⟩ := heavy6_false hv
          have HV := hide hv
          clear hv
          go_wp2_with fail
          refine (law6_heavy (A1 := A1) (A2 := A2) (A3 := A3) (A4 := A4) (c1 := c1) (c2 := c2) (c3 := c3) (n4 := n4) (c4 := c4) a r d N _ hn1 hn2 hn3 (by omega)).mono ?_
          rintro e w_1 ⟨rfl, hb_1'⟩
          have hb_1 := below_then hb_0 hb_1'
          have cHC0_1 := cell_later hb_1 HC0.out
          have cHC1_1 := cell_later hb_1 HC1.out
          have cHC2_1 := cell_later hb_1 HC2.out
          have cHC3_1 := cell_later hb_1 HC3.out
          have cHC4_1 := cell_later hb_1 HC4.out
          have cHC5_1 := cell_later hb_1 HC5.out
          have cHC6_1 := cell_later hb_1 HC6.out
          have cHC7_1 := cell_later hb_1 HC7.out
          clear hb_1' cHC0_0 cHC1_0 cHC2_0 cHC3_0 cHC4_0 cHC5_0 cHC6_0 cHC7_0 hb_0
          rw [HV.out]
          go_wp2_with fail
          refine (ref0_CopyBytes _ _ _ _ _ (HS4.out.below hb_1) (by omega) (by omega)).mono ?_
          rintro e w_2 ⟨v1, rfl, o1, hb_2'⟩
          have hb_2 := below_then hb_1 hb_2'
          have zbx_2 := hb_2'.size
          have ybx := hb_1.size
          have cHC0_2 := cell_later hb_2 HC0.out
          have cHC1_2 := cell_later hb_2 HC1.out
          have cHC2_2 := cell_later hb_2 HC2.out
          have cHC3_2 := cell_later hb_2 HC3.out
          have cHC4_2 := cell_later hb_2 HC4.out
          have cHC5_2 := cell_later hb_2 HC5.out
          have cHC6_2 := cell_later hb_2 HC6.out
          have cHC7_2 := cell_later hb_2 HC7.out
          obtain ⟨A5, c5, rfl, hc5, hc5m⟩ := own_slice_cap o1
          unfold maxLen at hc5m
          clear hb_2' cHC0_1 cHC1_1 cHC2_1 cHC3_1 cHC4_1 cHC5_1 cHC6_1 cHC7_1 hb_1
          obtain ⟨o, HO⟩ : ∃ o, Hid (parseH xs = o) := ⟨_, rfl⟩
          cases o with
          | none =>
            go_wp2_with fail
            refine (header_Parse _ (Sl.of_own o1) hc5 hc5m HO).mono ?_
            rintro e w_3 ⟨rfl, hb_3'⟩
            have hb_3 := below_then hb_2 hb_3'
            have bx_3 := own_later o1 hb_3'
            have zbx_3 := Nat.le_trans zbx_2 hb_3'.size
            have cHC0_3 := cell_later hb_3 HC0.out
            have cHC1_3 := cell_later hb_3 HC1.out
            have cHC2_3 := cell_later hb_3 HC2.out
            have cHC3_3 := cell_later hb_3 HC3.out
            have cHC4_3 := cell_later hb_3 HC4.out
            have cHC5_3 := cell_later hb_3 HC5.out
            have cHC6_3 := cell_later hb_3 HC6.out
            have cHC7_3 := cell_later hb_3 HC7.out
            clear hb_3' o1 zbx_2 cHC0_2 cHC1_2 cHC2_2 cHC3_2 cHC4_2 cHC5_2 cHC6_2 cHC7_2 hb_2
            have hb_4 : Below w.heap.size w (w_3.alloc (.cells #[.int .i64 0, .int .i64 0, .slice none 0 0, .slice none 0 0] 49)) := hb_3.alloc hb_3.size _
            have bx_4 := bx_3.alloc (.cells #[.int .i64 0, .int .i64 0, .slice none 0 0, .slice none 0 0] 49)
            have zbx_4 : _ ≤ (w_3.alloc (.cells #[.int .i64 0, .int .i64 0, .slice none 0 0, .slice none 0 0] 49)).heap.size := Nat.le_trans zbx_3 (by simp)
            have cHC0_4 := cell_later hb_4 HC0.out
            have cHC1_4 := cell_later hb_4 HC1.out
            have cHC2_4 := cell_later hb_4 HC2.out
            have cHC3_4 := cell_later hb_4 HC3.out
            have cHC4_4 := cell_later hb_4 HC4.out
            have cHC5_4 := cell_later hb_4 HC5.out
            have cHC6_4 := cell_later hb_4 HC6.out
            have cHC7_4 := cell_later hb_4 HC7.out
            have kh_4 := hide (Blk.new w_3 49 #[.int .i64 0, .int .i64 0, .slice none 0 0, .slice none 0 0])
            clear hb_3 bx_3 zbx_3 cHC0_3 cHC1_3 cHC2_3 cHC3_3 cHC4_3 cHC5_3 cHC6_3 cHC7_3
            go_wp2_with fail
            refine (ref4_ParseHeader _ (HS4.out.below hb_4) hcc4 hcm4 HO).mono ?_
            rintro e w_5 ⟨rfl, hb_5'⟩
            have hb_5 := below_then hb_4 hb_5'
            have bx_5 := own_later bx_4 hb_5'
            have zbx_5 := Nat.le_trans zbx_4 hb_5'.size
            have kh_5 := hide (kh_4.out.later hb_5')
            have cHC0_5 := cell_later hb_5 HC0.out
            have cHC1_5 := cell_later hb_5 HC1.out
            have cHC2_5 := cell_later hb_5 HC2.out
            have cHC3_5 := cell_later hb_5 HC3.out
            have cHC4_5 := cell_later hb_5 HC4.out
            have cHC5_5 := cell_later hb_5 HC5.out
            have cHC6_5 := cell_later hb_5 HC6.out
            have cHC7_5 := cell_later hb_5 HC7.out
            clear hb_5' bx_4 zbx_4 kh_4 cHC0_4 cHC1_4 cHC2_4 cHC3_4 cHC4_4 cHC5_4 cHC6_4 cHC7_4 hb_4
            have hb_6 : Below w.heap.size w (w_5.alloc (.cells #[.int .i64 0, .int .i64 0, .slice none 0 0, .slice none 0 0] 49)) := hb_5.alloc hb_5.size _
            have bx_6 := bx_5.alloc (.cells #[.int .i64 0, .int .i64 0, .slice none 0 0, .slice none 0 0] 49)
            have zbx_6 : _ ≤ (w_5.alloc (.cells #[.int .i64 0, .int .i64 0, .slice none 0 0, .slice none 0 0] 49)).heap.size := Nat.le_trans zbx_5 (by simp)
            have kh_6 := hide (kh_5.out.alloc (.cells #[.int .i64 0, .int .i64 0, .slice none 0 0, .slice none 0 0] 49))
            have cHC0_6 := cell_later hb_6 HC0.out
            have cHC1_6 := cell_later hb_6 HC1.out
            have cHC2_6 := cell_later hb_6 HC2.out
            have cHC3_6 := cell_later hb_6 HC3.out
            have cHC4_6 := cell_later hb_6 HC4.out
            have cHC5_6 := cell_later hb_6 HC5.out
            have cHC6_6 := cell_later hb_6 HC6.out
            have cHC7_6 := cell_later hb_6 HC7.out
            have kw_6 := hide (Blk.new w_5 49 #[.int .i64 0, .int .i64 0, .slice none 0 0, .slice none 0 0])
            clear hb_5 bx_5 zbx_5 kh_5 cHC0_5 cHC1_5 cHC2_5 cHC3_5 cHC4_5 cHC5_5 cHC6_5 cHC7_5
            go_wp2_with fail
            refine (law6_num _ _).mono ?_
            rintro e w' ⟨rfl, rfl⟩
            go_wp2_with fail
            refine (law6_num _ _).mono ?_
            rintro e w' ⟨rfl, rfl⟩
            have f0 : (w_5.alloc (.cells #[.int .i64 0, .int .i64 0, .slice none 0 0, .slice none 0 0] 49)).cell? ⟨w_3.heap.size, 0, none⟩ = some (.int .i64 0) := kh_6.out.at_ rfl
            have f1 : (w_5.alloc (.cells #[.int .i64 0, .int .i64 0, .slice none 0 0, .slice none 0 0] 49)).cell? ⟨w_3.heap.size, 1, none⟩ = some (.int .i64 0) := kh_6.out.at_ rfl
            have f2 : (w_5.alloc (.cells #[.int .i64 0, .int .i64 0, .slice none 0 0, .slice none 0 0] 49)).cell? ⟨w_3.heap.size, 2, none⟩ = some (.slice none 0 0) := kh_6.out.at_ rfl
            have f3 : (w_5.alloc (.cells #[.int .i64 0, .int .i64 0, .slice none 0 0, .slice none 0 0] 49)).cell? ⟨w_3.heap.size, 3, none⟩ = some (.slice none 0 0) := kh_6.out.at_ rfl
            have g0 : (w_5.alloc (.cells #[.int .i64 0, .int .i64 0, .slice none 0 0, .slice none 0 0] 49)).cell? ⟨w_5.heap.size, 0, none⟩ = some (.int .i64 0) := kw_6.out.at_ rfl
            have g1 : (w_5.alloc (.cells #[.int .i64 0, .int .i64 0, .slice none 0 0, .slice none 0 0] 49)).cell? ⟨w_5.heap.size, 1, none⟩ = some (.int .i64 0) := kw_6.out.at_ rfl
            have g2 : (w_5.alloc (.cells #[.int .i64 0, .int .i64 0, .slice none 0 0, .slice none 0 0] 49)).cell? ⟨w_5.heap.size, 2, none⟩ = some (.slice none 0 0) := kw_6.out.at_ rfl
            have g3 : (w_5.alloc (.cells #[.int .i64 0, .int .i64 0, .slice none 0 0, .slice none 0 0] 49)).cell? ⟨w_5.heap.size, 3, none⟩ = some (.slice none 0 0) := kw_6.out.at_ rfl
            go_wp2_with fail
            refine (ref0_EqHeader (c1 := 0) (c2 := 0) (d1 := 0) (d2 := 0) ⟨0, 0, [], []⟩ ⟨0, 0, [], []⟩ _ Sl.nil_ Sl.nil_ Sl.nil_ Sl.nil_ (by omega) (by omega) (by omega) (by omega) (r := true) (by simp [Hid])).mono ?_
            rintro e w_7 ⟨rfl, hb_7'⟩
            have hb_7 := below_then hb_6 hb_7'
            have bx_7 := own_later bx_6 hb_7'
            have zbx_7 := Nat.le_trans zbx_6 hb_7'.size
            have kh_7 := hide (kh_6.out.later hb_7')
            have kw_7 := hide (kw_6.out.later hb_7')
            have cHC0_7 := cell_later hb_7 HC0.out
            have cHC1_7 := cell_later hb_7 HC1.out
            have cHC2_7 := cell_later hb_7 HC2.out
            have cHC3_7 := cell_later hb_7 HC3.out
            have cHC4_7 := cell_later hb_7 HC4.out
            have cHC5_7 := cell_later hb_7 HC5.out
            have cHC6_7 := cell_later hb_7 HC6.out
            have cHC7_7 := cell_later hb_7 HC7.out
            clear hb_7' bx_6 zbx_6 kh_6 kw_6 cHC0_6 cHC1_6 cHC2_6 cHC3_6 cHC4_6 cHC5_6 cHC6_6 cHC7_6 hb_6
            have HEY : Hid ((xs == xs) = true) := by simp [Hid]
            go_wp2_with fail
            refine (eqBytes_b _ (Sl.of_own bx_7) (by omega) (HS4.out.below hb_7) (by omega) HEY).mono ?_
            rintro e w_8 ⟨rfl, hb_8'⟩
            have hb_8 := below_then hb_7 hb_8'
            have bx_8 := own_later bx_7 hb_8'
            have zbx_8 := Nat.le_trans zbx_7 hb_8'.size
            have kh_8 := hide (kh_7.out.later hb_8')
            have kw_8 := hide (kw_7.out.later hb_8')
            have cHC0_8 := cell_later hb_8 HC0.out
            have cHC1_8 := cell_later hb_8 HC1.out
            have cHC2_8 := cell_later hb_8 HC2.out
            have cHC3_8 := cell_later hb_8 HC3.out
            have cHC4_8 := cell_later hb_8 HC4.out
            have cHC5_8 := cell_later hb_8 HC5.out
            have cHC6_8 := cell_later hb_8 HC6.out
            have cHC7_8 := cell_later hb_8 HC7.out
            clear hb_8' bx_7 zbx_7 kh_7 kw_7 cHC0_7 cHC1_7 cHC2_7 cHC3_7 cHC4_7 cHC5_7 cHC6_7 cHC7_7 hb_7
            have f0 : w_8.cell? ⟨w_3.heap.size, 0, none⟩ = some (.int .i64 0) := kh_8.out.at_ rfl
            have f1 : w_8.cell? ⟨w_3.heap.size, 1, none⟩ = some (.int .i64 0) := kh_8.out.at_ rfl
            have f2 : w_8.cell? ⟨w_3.heap.size, 2, none⟩ = some (.slice none 0 0) := kh_8.out.at_ rfl
            have f3 : w_8.cell? ⟨w_3.heap.size, 3, none⟩ = some (.slice none 0 0) := kh_8.out.at_ rfl
            have hbase := hb_8.size
            have onil : w_8.ownsRow w_8.heap.size 3 1 (.slice none 0 0) 0 (ints []) := World.ownsRow_nil _ _ _ _
            go_wp2_with fail
            refine (law0_Header 0 0 _ onil onil (Or.inl rfl) (Nat.le_refl _) (by omega) (by omega)).mono ?_
            rintro e w_9 ⟨rfl, hb_9'⟩
            have hb_9 := below_then hb_8 hb_9'
            have bx_9 := own_later bx_8 hb_9'
            have zbx_9 := Nat.le_trans zbx_8 hb_9'.size
            have kh_9 := hide (kh_8.out.later hb_9')
            have kw_9 := hide (kw_8.out.later hb_9')
            have cHC0_9 := cell_later hb_9 HC0.out
            have cHC1_9 := cell_later hb_9 HC1.out
            have cHC2_9 := cell_later hb_9 HC2.out
            have cHC3_9 := cell_later hb_9 HC3.out
            have cHC4_9 := cell_later hb_9 HC4.out
            have cHC5_9 := cell_later hb_9 HC5.out
            have cHC6_9 := cell_later hb_9 HC6.out
            have cHC7_9 := cell_later hb_9 HC7.out
            clear hb_9' bx_8 zbx_8 kh_8 kw_8 cHC0_8 cHC1_8 cHC2_8 cHC3_8 cHC4_8 cHC5_8 cHC6_8 cHC7_8 hb_8
            go_wp2_with fail
            go_roundw
            case rel => exact ⟨k + 1, by omega, by go_num, hb_9⟩
            case measure => simp [intOf]; omega
          | some y =>
            obtain ⟨ya, yr, ybs, yps⟩ := y
            obtain ⟨n5, HN5⟩ : ∃ n, Hid (ybs.length = n) := ⟨_, rfl⟩
            obtain ⟨n6, HN6⟩ : ∃ n, Hid (yps.length = n) := ⟨_, rfl⟩
            have hn56 : n5 ≤ 8 ∧ n6 ≤ 16 := by
              have h := formH_iff.1 (parseH_back HO.out).2
              simp only at h
              have := HN5.out; have := HN6.out; omega
            obtain ⟨hn5, hn6⟩ := hn56
            go_wp2_with fail
            refine (header_Parse _ (Sl.of_own o1) hc5 hc5m HO).mono ?_
            rintro e w_3 ⟨v2, v3, rfl, o2, o3, HSEP, hb_3'⟩
            simp only at o2 o3
            rw [HN5.out] at o2
            rw [HN6.out] at o3
            obtain ⟨A6, c6, rfl⟩ := own_slice o2
            obtain ⟨A7, c7, rfl⟩ := own_slice o3
            have HSEP := hide HSEP
            have hb_3 := below_then hb_2 hb_3'
            have zhx_3 := hb_3'.size
            have yhx := hb_2.size
            have bx_3 := own_later o1 hb_3'
            have zbx_3 := Nat.le_trans zbx_2 hb_3'.size
            have cHC0_3 := cell_later hb_3 HC0.out
            have cHC1_3 := cell_later hb_3 HC1.out
            have cHC2_3 := cell_later hb_3 HC2.out
            have cHC3_3 := cell_later hb_3 HC3.out
            have cHC4_3 := cell_later hb_3 HC4.out
            have cHC5_3 := cell_later hb_3 HC5.out
            have cHC6_3 := cell_later hb_3 HC6.out
            have cHC7_3 := cell_later hb_3 HC7.out
            clear hb_3' o1 zbx_2 cHC0_2 cHC1_2 cHC2_2 cHC3_2 cHC4_2 cHC5_2 cHC6_2 cHC7_2 hb_2
            have zhy_3 := zhx_3
            have yhy := yhx
            have hb_4 : Below w.heap.size w (w_3.alloc (.cells #[.int .i64 ya, .int .i64 yr, .slice A6 n5 c6, .slice A7 n6 c7] 49)) := hb_3.alloc hb_3.size _
            have bx_4 := bx_3.alloc (.cells #[.int .i64 ya, .int .i64 yr, .slice A6 n5 c6, .slice A7 n6 c7] 49)
            have zbx_4 : _ ≤ (w_3.alloc (.cells #[.int .i64 ya, .int .i64 yr, .slice A6 n5 c6, .slice A7 n6 c7] 49)).heap.size := Nat.le_trans zbx_3 (by simp)
            have hx_4 := o2.alloc (.cells #[.int .i64 ya, .int .i64 yr, .slice A6 n5 c6, .slice A7 n6 c7] 49)
            have zhx_4 : _ ≤ (w_3.alloc (.cells #[.int .i64 ya, .int .i64 yr, .slice A6 n5 c6, .slice A7 n6 c7] 49)).heap.size := Nat.le_trans zhx_3 (by simp)
            have hy_4 := o3.alloc (.cells #[.int .i64 ya, .int .i64 yr, .slice A6 n5 c6, .slice A7 n6 c7] 49)
            have zhy_4 : _ ≤ (w_3.alloc (.cells #[.int .i64 ya, .int .i64 yr, .slice A6 n5 c6, .slice A7 n6 c7] 49)).heap.size := Nat.le_trans zhy_3 (by simp)
            have cHC0_4 := cell_later hb_4 HC0.out
            have cHC1_4 := cell_later hb_4 HC1.out
            have cHC2_4 := cell_later hb_4 HC2.out
            have cHC3_4 := cell_later hb_4 HC3.out
            have cHC4_4 := cell_later hb_4 HC4.out
            have cHC5_4 := cell_later hb_4 HC5.out
            have cHC6_4 := cell_later hb_4 HC6.out
            have cHC7_4 := cell_later hb_4 HC7.out
            have kh_4 := hide (Blk.new w_3 49 #[.int .i64 ya, .int .i64 yr, .slice A6 n5 c6, .slice A7 n6 c7])
            clear hb_3 bx_3 zbx_3 o2 zhx_3 o3 zhy_3 cHC0_3 cHC1_3 cHC2_3 cHC3_3 cHC4_3 cHC5_3 cHC6_3 cHC7_3
            go_wp2_with fail
            refine (ref4_ParseHeader _ (HS4.out.below hb_4) hcc4 hcm4 HO).mono ?_
            rintro e w_5 ⟨v4, v5, rfl, o4, o5, _, hb_5'⟩
            simp only at o4 o5
            rw [HN5.out] at o4
            rw [HN6.out] at o5
            obtain ⟨A8, c8, rfl⟩ := own_slice o4
            obtain ⟨A9, c9, rfl⟩ := own_slice o5
            have hb_5 := below_then hb_4 hb_5'
            have zwx_5 := hb_5'.size
            have ywx := hb_4.size
            have bx_5 := own_later bx_4 hb_5'
            have zbx_5 := Nat.le_trans zbx_4 hb_5'.size
            have hx_5 := own_later hx_4 hb_5'
            have zhx_5 := Nat.le_trans zhx_4 hb_5'.size
            have hy_5 := own_later hy_4 hb_5'
            have zhy_5 := Nat.le_trans zhy_4 hb_5'.size
            have kh_5 := hide (kh_4.out.later hb_5')
            have cHC0_5 := cell_later hb_5 HC0.out
            have cHC1_5 := cell_later hb_5 HC1.out
            have cHC2_5 := cell_later hb_5 HC2.out
            have cHC3_5 := cell_later hb_5 HC3.out
            have cHC4_5 := cell_later hb_5 HC4.out
            have cHC5_5 := cell_later hb_5 HC5.out
            have cHC6_5 := cell_later hb_5 HC6.out
            have cHC7_5 := cell_later hb_5 HC7.out
            clear hb_5' bx_4 zbx_4 hx_4 zhx_4 hy_4 zhy_4 kh_4 cHC0_4 cHC1_4 cHC2_4 cHC3_4 cHC4_4 cHC5_4 cHC6_4 cHC7_4 hb_4
            have zwy_5 := zwx_5
            have ywy := ywx
            have hb_6 : Below w.heap.size w (w_5.alloc (.cells #[.int .i64 ya, .int .i64 yr, .slice A8 n5 c8, .slice A9 n6 c9] 49)) := hb_5.alloc hb_5.size _
            have bx_6 := bx_5.alloc (.cells #[.int .i64 ya, .int .i64 yr, .slice A8 n5 c8, .slice A9 n6 c9] 49)
            have zbx_6 : _ ≤ (w_5.alloc (.cells #[.int .i64 ya, .int .i64 yr, .slice A8 n5 c8, .slice A9 n6 c9] 49)).heap.size := Nat.le_trans zbx_5 (by simp)
            have hx_6 := hx_5.alloc (.cells #[.int .i64 ya, .int .i64 yr, .slice A8 n5 c8, .slice A9 n6 c9] 49)
            have zhx_6 : _ ≤ (w_5.alloc (.cells #[.int .i64 ya, .int .i64 yr, .slice A8 n5 c8, .slice A9 n6 c9] 49)).heap.size := Nat.le_trans zhx_5 (by simp)
            have hy_6 := hy_5.alloc (.cells #[.int .i64 ya, .int .i64 yr, .slice A8 n5 c8, .slice A9 n6 c9] 49)
            have zhy_6 : _ ≤ (w_5.alloc (.cells #[.int .i64 ya, .int .i64 yr, .slice A8 n5 c8, .slice A9 n6 c9] 49)).heap.size := Nat.le_trans zhy_5 (by simp)
            have wx_6 := o4.alloc (.cells #[.int .i64 ya, .int .i64 yr, .slice A8 n5 c8, .slice A9 n6 c9] 49)
            have zwx_6 : _ ≤ (w_5.alloc (.cells #[.int .i64 ya, .int .i64 yr, .slice A8 n5 c8, .slice A9 n6 c9] 49)).heap.size := Nat.le_trans zwx_5 (by simp)
            have wy_6 := o5.alloc (.cells #[.int .i64 ya, .int .i64 yr, .slice A8 n5 c8, .slice A9 n6 c9] 49)
            have zwy_6 : _ ≤ (w_5.alloc (.cells #[.int .i64 ya, .int .i64 yr, .slice A8 n5 c8, .slice A9 n6 c9] 49)).heap.size := Nat.le_trans zwy_5 (by simp)
            have kh_6 := hide (kh_5.out.alloc (.cells #[.int .i64 ya, .int .i64 yr, .slice A8 n5 c8, .slice A9 n6 c9] 49))
            have cHC0_6 := cell_later hb_6 HC0.out
            have cHC1_6 := cell_later hb_6 HC1.out
            have cHC2_6 := cell_later hb_6 HC2.out
            have cHC3_6 := cell_later hb_6 HC3.out
            have cHC4_6 := cell_later hb_6 HC4.out
            have cHC5_6 := cell_later hb_6 HC5.out
            have cHC6_6 := cell_later hb_6 HC6.out
            have cHC7_6 := cell_later hb_6 HC7.out
            have kw_6 := hide (Blk.new w_5 49 #[.int .i64 ya, .int .i64 yr, .slice A8 n5 c8, .slice A9 n6 c9])
            clear hb_5 bx_5 zbx_5 hx_5 zhx_5 hy_5 zhy_5 o4 zwx_5 o5 zwy_5 kh_5 cHC0_5 cHC1_5 cHC2_5 cHC3_5 cHC4_5 cHC5_5 cHC6_5 cHC7_5
            go_wp2_with fail
            refine (law6_num _ _).mono ?_
            rintro e w' ⟨rfl, rfl⟩
            have f0 : (w_5.alloc (.cells #[.int .i64 ya, .int .i64 yr, .slice A8 n5 c8, .slice A9 n6 c9] 49)).cell? ⟨w_3.heap.size, 0, none⟩ = some (.int .i64 ya) := kh_6.out.at_ rfl
            have f1 : (w_5.alloc (.cells #[.int .i64 ya, .int .i64 yr, .slice A8 n5 c8, .slice A9 n6 c9] 49)).cell? ⟨w_3.heap.size, 1, none⟩ = some (.int .i64 yr) := kh_6.out.at_ rfl
            have f2 : (w_5.alloc (.cells #[.int .i64 ya, .int .i64 yr, .slice A8 n5 c8, .slice A9 n6 c9] 49)).cell? ⟨w_3.heap.size, 2, none⟩ = some (.slice A6 n5 c6) := kh_6.out.at_ rfl
            have f3 : (w_5.alloc (.cells #[.int .i64 ya, .int .i64 yr, .slice A8 n5 c8, .slice A9 n6 c9] 49)).cell? ⟨w_3.heap.size, 3, none⟩ = some (.slice A7 n6 c7) := kh_6.out.at_ rfl
            have g0 : (w_5.alloc (.cells #[.int .i64 ya, .int .i64 yr, .slice A8 n5 c8, .slice A9 n6 c9] 49)).cell? ⟨w_5.heap.size, 0, none⟩ = some (.int .i64 ya) := kw_6.out.at_ rfl
            have g1 : (w_5.alloc (.cells #[.int .i64 ya, .int .i64 yr, .slice A8 n5 c8, .slice A9 n6 c9] 49)).cell? ⟨w_5.heap.size, 1, none⟩ = some (.int .i64 yr) := kw_6.out.at_ rfl
            have g2 : (w_5.alloc (.cells #[.int .i64 ya, .int .i64 yr, .slice A8 n5 c8, .slice A9 n6 c9] 49)).cell? ⟨w_5.heap.size, 2, none⟩ = some (.slice A8 n5 c8) := kw_6.out.at_ rfl
            have g3 : (w_5.alloc (.cells #[.int .i64 ya, .int .i64 yr, .slice A8 n5 c8, .slice A9 n6 c9] 49)).cell? ⟨w_5.heap.size, 3, none⟩ = some (.slice A9 n6 c9) := kw_6.out.at_ rfl
            go_wp2_with fail
            refine (ref0_EqHeader (c1 := c6) (c2 := c7) (d1 := c8) (d2 := c9) ⟨ya, yr, ybs, yps⟩ ⟨ya, yr, ybs, yps⟩ _ (Sl.of_own hx_6) (Sl.of_own hy_6) (Sl.of_own wx_6) (Sl.of_own wy_6) (by omega) (by omega) (by omega) (by omega) (r := true) (by simp [Hid])).mono ?_
            rintro e w_7 ⟨rfl, hb_7'⟩
            have hb_7 := below_then hb_6 hb_7'
            have bx_7 := own_later bx_6 hb_7'
            have zbx_7 := Nat.le_trans zbx_6 hb_7'.size
            have hx_7 := own_later hx_6 hb_7'
            have zhx_7 := Nat.le_trans zhx_6 hb_7'.size
            have hy_7 := own_later hy_6 hb_7'
            have zhy_7 := Nat.le_trans zhy_6 hb_7'.size
            have wx_7 := own_later wx_6 hb_7'
            have zwx_7 := Nat.le_trans zwx_6 hb_7'.size
            have wy_7 := own_later wy_6 hb_7'
            have zwy_7 := Nat.le_trans zwy_6 hb_7'.size
            have kh_7 := hide (kh_6.out.later hb_7')
            have kw_7 := hide (kw_6.out.later hb_7')
            have cHC0_7 := cell_later hb_7 HC0.out
            have cHC1_7 := cell_later hb_7 HC1.out
            have cHC2_7 := cell_later hb_7 HC2.out
            have cHC3_7 := cell_later hb_7 HC3.out
            have cHC4_7 := cell_later hb_7 HC4.out
            have cHC5_7 := cell_later hb_7 HC5.out
            have cHC6_7 := cell_later hb_7 HC6.out
            have cHC7_7 := cell_later hb_7 HC7.out
            clear hb_7' bx_6 zbx_6 hx_6 zhx_6 hy_6 zhy_6 wx_6 zwx_6 wy_6 zwy_6 kh_6 kw_6 cHC0_6 cHC1_6 cHC2_6 cHC3_6 cHC4_6 cHC5_6 cHC6_6 cHC7_6 hb_6
            have HEY : Hid ((xs == xs) = true) := by simp [Hid]
            go_wp2_with fail
            refine (eqBytes_b _ (Sl.of_own bx_7) (by omega) (HS4.out.below hb_7) (by omega) HEY).mono ?_
            rintro e w_8 ⟨rfl, hb_8'⟩
            have hb_8 := below_then hb_7 hb_8'
            have bx_8 := own_later bx_7 hb_8'
            have zbx_8 := Nat.le_trans zbx_7 hb_8'.size
            have hx_8 := own_later hx_7 hb_8'
            have zhx_8 := Nat.le_trans zhx_7 hb_8'.size
            have hy_8 := own_later hy_7 hb_8'
            have zhy_8 := Nat.le_trans zhy_7 hb_8'.size
            have wx_8 := own_later wx_7 hb_8'
            have zwx_8 := Nat.le_trans zwx_7 hb_8'.size
            have wy_8 := own_later wy_7 hb_8'
            have zwy_8 := Nat.le_trans zwy_7 hb_8'.size
            have kh_8 := hide (kh_7.out.later hb_8')
            have kw_8 := hide (kw_7.out.later hb_8')
            have cHC0_8 := cell_later hb_8 HC0.out
            have cHC1_8 := cell_later hb_8 HC1.out
            have cHC2_8 := cell_later hb_8 HC2.out
            have cHC3_8 := cell_later hb_8 HC3.out
            have cHC4_8 := cell_later hb_8 HC4.out
            have cHC5_8 := cell_later hb_8 HC5.out
            have cHC6_8 := cell_later hb_8 HC6.out
            have cHC7_8 := cell_later hb_8 HC7.out
            clear hb_8' bx_7 zbx_7 hx_7 zhx_7 hy_7 zhy_7 wx_7 zwx_7 wy_7 zwy_7 kh_7 kw_7 cHC0_7 cHC1_7 cHC2_7 cHC3_7 cHC4_7 cHC5_7 cHC6_7 cHC7_7 hb_7
            have f0 : w_8.cell? ⟨w_3.heap.size, 0, none⟩ = some (.int .i64 ya) := kh_8.out.at_ rfl
            have f1 : w_8.cell? ⟨w_3.heap.size, 1, none⟩ = some (.int .i64 yr) := kh_8.out.at_ rfl
            have f2 : w_8.cell? ⟨w_3.heap.size, 2, none⟩ = some (.slice A6 n5 c6) := kh_8.out.at_ rfl
            have f3 : w_8.cell? ⟨w_3.heap.size, 3, none⟩ = some (.slice A7 n6 c7) := kh_8.out.at_ rfl
            have hbase := hb_8.size
            go_wp2_with fail
            refine (law0_Header (base := w.heap.size) ya yr _ (own_mono hx_8 yhx) (own_mono hy_8 yhy) HSEP.out hbase (by omega) (by omega)).mono ?_
            rintro e w_9 ⟨rfl, hb_9'⟩
            have hb_9 := hb_8.trans hb_9'
            go_wp2_with fail
            go_roundw
            case rel => exact ⟨k + 1, by omega, by go_num, hb_9⟩
            case measure => simp [intOf]; omega
      · go_wp2_with fail
        refine (law6_wakes _).mono ?_
        rintro e w1 ⟨rfl, hb1⟩
        go_wp2_with fail
        go_ret
        exact ⟨rfl, below_then hb_0 hb1⟩
    · go_wp2_with fail
      refine (law6_wakes _).mono ?_
      rintro e w1 ⟨rfl, hb1⟩
      go_wp2_with fail
      go_ret
      exact ⟨rfl, below_then hb_0 hb1⟩
end Go.Proofs.Ytihpmaifcebpiaa
