
/-
  The walk of BookExact: whatever the argument, the call answers true and changes nothing that was there.
-/
import Derived.Test.YtflamhndmggiaaaBkY
import Derived.Test.YtflamhndmggiaaaBookOnce
namespace Go.Proofs.Ytflamhndmggiaaa
open Go.RowKit

def sgP (ps : List (Int × Int)) : Int × Int → Bool := fun q => decide (q ∈ ps)
set_option maxRecDepth 100000 in
set_option maxHeartbeats 4000000 in
theorem walk_BookExact {v : Value} {w : World} (ho : ∃ A n c, v = .slice A n c ∧ Acts5 w A n) :
    Calls Try.prog 6 #[v] w fun r w' => r = .returned (.bool true) ∧ Below w.heap.size w w' := by
  obtain ⟨A, n, c, rfl, hact⟩ := ho
  have hn := hact.1
  have HACT := hide hact
  clear hact
  go_enter Try.func6, Try.ntmps6
  go_wp2_with fail
  refine (law5_heavy _ HACT.out).mono ?_
  rintro e w' ⟨⟨hv, rfl, HVV⟩, rfl⟩
  cases hv with
  | true =>
    go_wp2_with fail
    go_ret
    exact ⟨rfl, Below.refl _ _⟩
  | false =>
    have HLT := hide (HVV rfl)
    clear HVV
    go_wp2_with fail
    refine (book_New _).mono ?_
    rintro e w1 ⟨g, G, rfl, hB, hlo, hb⟩
    have HBW := hide (BkW.mk hB hlo hb)
    clear hB hlo hb
    go_upto_region 7 with fail
    have HTW : Hid (∃ G1 G2, Tw w G1 G2 (w1.alloc (.cells #[.slice none 0 0, .slice none 0 0, .slice none 0 0] 59)) g w1.heap.size [] (sgP []) [] []) := by
      have h := HBW.out
      refine ⟨G, fun b => b = w1.heap.size, ?_, RfI.made w1, fun b hb e => ?_, h.lo, fun b e => ?_, (h.step ((Below.refl _ _).alloc (Nat.le_refl _) _)).below⟩
      · exact (h.bk.below ((Below.refl _ _).alloc (Nat.le_refl _) _))
      · have := h.bk.lt b hb; omega
      · have := h.below.size; omega
    generalize w1.alloc (.cells #[.slice none 0 0, .slice none 0 0, .slice none 0 0] 59) = w2 at HTW ⊢
    generalize w1.heap.size = r at HTW ⊢
    clear HBW
    go_wp2_with fail
    go_loopw [5] (fun i wr => ∃ (k : Nat) (G1 G2 : Nat → Prop) (L : List (List UInt8)) (ps : List (Int × Int)), k ≤ n ∧ k ≤ 40 ∧ i = .int .i64 k ∧ Hid (Tw w G1 G2 wr g r L (sgP ps) L ps) ∧ Hid (L.length ≤ k) ∧ Hid (ps.length ≤ k)) (fun i _ => n - (intOf i).toNat)
    case atStart =>
      obtain ⟨G1, G2, h⟩ := HTW.out
      exact ⟨0, G1, G2, [], [], Nat.zero_le _, by omega, rfl, h, Nat.le_refl 0, Nat.le_refl 0⟩
    case round =>
      clear HTW
      obtain ⟨k, G1, G2, L, ps, hkn, hk40, rfl, HT, HLL, HPL⟩ := hrel
      obtain ⟨wo, rfl⟩ : ∃ wo : World, wo = wr := ⟨_, rfl⟩
      by_cases hlt : k < n
      · by_cases h40 : k < 40
        · have hd40 : decide ((k : Int) < 40) = true := by simp; omega
          obtain ⟨b, off, hA, hc⟩ := HACT.out.2 (by omega)
          obtain ⟨x, y, z, A3, n3, c3, bs, q0, q1, q2, q3, -, -, ⟨hz1, hz2⟩, hs3, hn3, hnc, hc3⟩ := hc k hlt
          have hl3 : n3 ≤ 10000 := HLT.out k b off A3 n3 c3 hlt h40 hA q3
          subst hA
          have HS3 := hide hs3
          have HL3 : Hid (n3 ≤ 1048576) := by rw [Hid]; omega
          have HLL2 : Hid (L.length ≤ 65535) := by have := HLL.out; rw [Hid]; omega
          have d0 := cell_later HT.out.below q0
          have d1 := cell_later HT.out.below q1
          have d2 := cell_later HT.out.below q2
          have d3 := cell_later HT.out.below q3
          clear q0 q1 q2 q3 hs3 hc
          go_upto_region 11 with fail
          have HNA : Hid (¬ G1 wo.heap.size ∧ ¬ G2 wo.heap.size ∧ w.heap.size ≤ wo.heap.size) := ⟨fun h => by have := HT.out.bk.lt _ h; omega, fun h => by have := HT.out.rf.lt _ h; omega, HT.out.below.size⟩
          have HK := hide (Blk.new wo 34 #[.int .i64 x, .int .i64 y, .int .i64 z, .slice A3 n3 c3])
          have HTA := hide (HT.out.step ((Below.refl _ _).alloc (Nat.le_refl _) (.cells #[.int .i64 x, .int .i64 y, .int .i64 z, .slice A3 n3 c3] 34)))
          clear HT d0 d1 d2 d3
          generalize wo.alloc (.cells #[.int .i64 x, .int .i64 y, .int .i64 z, .slice A3 n3 c3] 34) = wA at HK HTA ⊢
          generalize wo.heap.size = ga at HNA HK ⊢
          have e3 : wA.cell? ⟨ga, 3, none⟩ = some (.slice A3 n3 c3) := HK.out.at_ rfl
          go_wp2_with fail
          refine (ref0_CopyBytes _ _ _ _ _ (HS3.out.below HTA.out.below) (by omega) (by omega)).mono ?_
          rintro e w7 ⟨v7, rfl, own7, hb7⟩
          obtain ⟨A7, c7, rfl⟩ := own_slice own7
          have HO7 := hide own7
          have HT := hide (HTA.out.step hb7)
          have HK7 := hide (HK.out.later hb7)
          have HN7 : Hid ((0 < n3 → ∀ b off, A7 = some ⟨b, off, none⟩ → ¬ G1 b) ∧ (∀ b, (Value.slice A7 n3 c7).ownBlock = some b → ¬ G1 b ∧ ¬ G2 b ∧ b ≠ ga ∧ w.heap.size ≤ b)) := ⟨notG_own own7 HTA.out.bk.lt, fun b hb => by
            have h1 := (own7.lt b hb).1
            have h2 := HK.out.lt
            have h3 := HTA.out.below.size
            exact ⟨fun h => by have := HTA.out.bk.lt b h; omega, fun h => by have := HTA.out.rf.lt b h; omega, by omega, by omega⟩⟩
          have e0 : w7.cell? ⟨ga, 0, none⟩ = some (.int .i64 x) := HK7.out.at_ rfl
          have e1 : w7.cell? ⟨ga, 1, none⟩ = some (.int .i64 y) := HK7.out.at_ rfl
          have e2 : w7.cell? ⟨ga, 2, none⟩ = some (.int .i64 z) := HK7.out.at_ rfl
          have e3' : w7.cell? ⟨ga, 3, none⟩ = some (.slice A3 n3 c3) := HK7.out.at_ rfl
          clear own7 hb7 e3 HTA HK
          have e3 := e3'
          clear e3'
          go_wp2_with fail
          refine (law0_Within x 8 w7 (by omega) (by omega)).mono ?_
          rintro e w' ⟨⟨rr, hrr, rfl⟩, rfl⟩
          obtain rfl | rfl | rfl | rfl | rfl | rfl | rfl | rfl : rr = 0 ∨ rr = 1 ∨ rr = 2 ∨ rr = 3 ∨ rr = 4 ∨ rr = 5 ∨ rr = 6 ∨ rr = 7 := by omega
          ·
            obtain ⟨idx, hidx, hat⟩ := dig_at L bs
            have HDI := hide hidx
            obtain ⟨L', HL'⟩ : ∃ L', Hid (addL L bs = L') := ⟨_, rfl⟩
            clear hidx hat e0 e1 e2
            go_wp2_with fail
            refine (book_Digest (x := bs) _ HT.out.bk (Sl.of_own HO7.out) HL3 HLL2 HN7.out.1 HDI HL').mono ?_
            rintro e w8 ⟨rfl, hn8⟩
            obtain ⟨G1', HT8', hG1⟩ := HT.out.impl hn8
            have HTB := hide HT8'
            have HO8 : Hid (w8.ownsRow 0 5 1 (.slice A7 n3 c7) n3 (bytes8 bs)) := own_at (own_mono HO7.out (Nat.zero_le _)) (fun b hb => hn8.chg.at_ (own_in HO7.out hb) (HN7.out.2 b hb).1)
            have HK8 := hide (HK7.out.chg hn8.chg HNA.out.1)
            have HN8 : Hid ((∀ b, (Value.slice A7 n3 c7).ownBlock = some b → ¬ G1' b ∧ ¬ G2 b ∧ b ≠ ga ∧ w.heap.size ≤ b) ∧ ¬ G1' ga) := ⟨fun b hb => ⟨fun h => by
              rcases hG1 b h with h | h
              · exact (HN7.out.2 b hb).1 h
              · have := own_in HO7.out hb; omega, (HN7.out.2 b hb).2⟩, fun h => by
              rcases hG1 ga h with h | h
              · exact HNA.out.1 h
              · have := HK7.out.lt; omega⟩
            clear hn8 HT8' HT HO7 HK7 e3 hG1
            go_wp2_with fail
            refine (law0_Bytes_chg _ HO8.out (Nat.zero_le _) (by omega)).mono ?_
            rintro e w9 ⟨rfl, hc9⟩
            have HTC := hide (HTB.out.chg hc9 (fun b hb => (HN8.out.1 b hb).1) (fun b hb => (HN8.out.1 b hb).2.1) (fun b hb => (HN8.out.1 b hb).2.2.2))
            have HK9 := hide (HK8.out.chg hc9 (fun hb => (HN8.out.1 ga hb).2.2.1 rfl))
            have e3 : w9.cell? ⟨ga, 3, none⟩ = some (.slice A3 n3 c3) := HK9.out.at_ rfl
            clear hc9 HTB HO8 HK8 HN7
            have hII : ((idx : Int) + 1 != (idx : Int) + 1) = false := by simp
            go_wp2_with (go_at_call 17; refine (law5_num _ _).mono ?_; rintro e w' ⟨rfl, rfl⟩)
            refine (ref5_Digest (x := bs) _ HTC.out.rf (HS3.out.below HTC.out.below) HL3 HLL2 HDI HL').mono ?_
            rintro e w10 ⟨rfl, hn10⟩
            obtain ⟨G2', HT10', -⟩ := HTC.out.ref hn10
            have HT8 := hide HT10'
            have HLZ : Hid (L'.length ≤ k + 1) := by have h1 := addL_len L bs; rw [HL'.out] at h1; have h2 := HLL.out; rw [Hid]; omega
            clear hn10 HT10' HTC HK9 e3
            go_upto_region 37 with fail
            obtain ⟨AL, cL, -, -, -, -, k0, -, -, hl0, -⟩ := HT8.out.rf.open_
            have hNN : ((L'.length : Int) != (L'.length : Int)) = false := by simp
            go_quiet ((go_at_call 23; exact quiet_left (book_Count _ (HT8.out.bk.drewN _))))
            have HT9 := hide (HT8.out.drewN nq)
            clear k0 hl0 hNN
            go_wp2_with fail
            go_roundw
            case rel => exact ⟨k + 1, _, _, L', ps, by omega, by omega, by go_num, HT9, HLZ, (Nat.le_succ_of_le HPL.out)⟩
            case measure => simp [intOf]; omega
          ·
            obtain ⟨idx, hidx, hat⟩ := dig_at L bs
            have HDI := hide hidx
            obtain ⟨L', HL'⟩ : ∃ L', Hid (addL L bs = L') := ⟨_, rfl⟩
            clear hidx hat e0 e1 e2
            go_wp2_with fail
            refine (book_Digest (x := bs) _ HT.out.bk (Sl.of_own HO7.out) HL3 HLL2 HN7.out.1 HDI HL').mono ?_
            rintro e w8 ⟨rfl, hn8⟩
            obtain ⟨G1', HT8', hG1⟩ := HT.out.impl hn8
            have HTB := hide HT8'
            have HO8 : Hid (w8.ownsRow 0 5 1 (.slice A7 n3 c7) n3 (bytes8 bs)) := own_at (own_mono HO7.out (Nat.zero_le _)) (fun b hb => hn8.chg.at_ (own_in HO7.out hb) (HN7.out.2 b hb).1)
            have HK8 := hide (HK7.out.chg hn8.chg HNA.out.1)
            have HN8 : Hid ((∀ b, (Value.slice A7 n3 c7).ownBlock = some b → ¬ G1' b ∧ ¬ G2 b ∧ b ≠ ga ∧ w.heap.size ≤ b) ∧ ¬ G1' ga) := ⟨fun b hb => ⟨fun h => by
              rcases hG1 b h with h | h
              · exact (HN7.out.2 b hb).1 h
              · have := own_in HO7.out hb; omega, (HN7.out.2 b hb).2⟩, fun h => by
              rcases hG1 ga h with h | h
              · exact HNA.out.1 h
              · have := HK7.out.lt; omega⟩
            clear hn8 HT8' HT HO7 HK7 e3 hG1
            go_wp2_with fail
            refine (law0_Bytes_chg _ HO8.out (Nat.zero_le _) (by omega)).mono ?_
            rintro e w9 ⟨rfl, hc9⟩
            have HTC := hide (HTB.out.chg hc9 (fun b hb => (HN8.out.1 b hb).1) (fun b hb => (HN8.out.1 b hb).2.1) (fun b hb => (HN8.out.1 b hb).2.2.2))
            have HK9 := hide (HK8.out.chg hc9 (fun hb => (HN8.out.1 ga hb).2.2.1 rfl))
            have e3 : w9.cell? ⟨ga, 3, none⟩ = some (.slice A3 n3 c3) := HK9.out.at_ rfl
            clear hc9 HTB HO8 HK8 HN7
            have hII : ((idx : Int) + 1 != (idx : Int) + 1) = false := by simp
            go_wp2_with (go_at_call 17; refine (law5_num _ _).mono ?_; rintro e w' ⟨rfl, rfl⟩)
            refine (ref5_Digest (x := bs) _ HTC.out.rf (HS3.out.below HTC.out.below) HL3 HLL2 HDI HL').mono ?_
            rintro e w10 ⟨rfl, hn10⟩
            obtain ⟨G2', HT10', -⟩ := HTC.out.ref hn10
            have HT8 := hide HT10'
            have HLZ : Hid (L'.length ≤ k + 1) := by have h1 := addL_len L bs; rw [HL'.out] at h1; have h2 := HLL.out; rw [Hid]; omega
            clear hn10 HT10' HTC HK9 e3
            go_upto_region 37 with fail
            obtain ⟨AL, cL, -, -, -, -, k0, -, -, hl0, -⟩ := HT8.out.rf.open_
            have hNN : ((L'.length : Int) != (L'.length : Int)) = false := by simp
            go_quiet ((go_at_call 23; exact quiet_left (book_Count _ (HT8.out.bk.drewN _))))
            have HT9 := hide (HT8.out.drewN nq)
            clear k0 hl0 hNN
            go_wp2_with fail
            go_roundw
            case rel => exact ⟨k + 1, _, _, L', ps, by omega, by omega, by go_num, HT9, HLZ, (Nat.le_succ_of_le HPL.out)⟩
            case measure => simp [intOf]; omega
          ·
            obtain ⟨idx, hidx, hat⟩ := dig_at L bs
            have HDI := hide hidx
            obtain ⟨L', HL'⟩ : ∃ L', Hid (addL L bs = L') := ⟨_, rfl⟩
            clear hidx hat e0 e1 e2
            go_wp2_with fail
            refine (book_Digest (x := bs) _ HT.out.bk (Sl.of_own HO7.out) HL3 HLL2 HN7.out.1 HDI HL').mono ?_
            rintro e w8 ⟨rfl, hn8⟩
            obtain ⟨G1', HT8', hG1⟩ := HT.out.impl hn8
            have HTB := hide HT8'
            have HO8 : Hid (w8.ownsRow 0 5 1 (.slice A7 n3 c7) n3 (bytes8 bs)) := own_at (own_mono HO7.out (Nat.zero_le _)) (fun b hb => hn8.chg.at_ (own_in HO7.out hb) (HN7.out.2 b hb).1)
            have HK8 := hide (HK7.out.chg hn8.chg HNA.out.1)
            have HN8 : Hid ((∀ b, (Value.slice A7 n3 c7).ownBlock = some b → ¬ G1' b ∧ ¬ G2 b ∧ b ≠ ga ∧ w.heap.size ≤ b) ∧ ¬ G1' ga) := ⟨fun b hb => ⟨fun h => by
              rcases hG1 b h with h | h
              · exact (HN7.out.2 b hb).1 h
              · have := own_in HO7.out hb; omega, (HN7.out.2 b hb).2⟩, fun h => by
              rcases hG1 ga h with h | h
              · exact HNA.out.1 h
              · have := HK7.out.lt; omega⟩
            clear hn8 HT8' HT HO7 HK7 e3 hG1
            go_wp2_with fail
            refine (law0_Bytes_chg _ HO8.out (Nat.zero_le _) (by omega)).mono ?_
            rintro e w9 ⟨rfl, hc9⟩
            have HTC := hide (HTB.out.chg hc9 (fun b hb => (HN8.out.1 b hb).1) (fun b hb => (HN8.out.1 b hb).2.1) (fun b hb => (HN8.out.1 b hb).2.2.2))
            have HK9 := hide (HK8.out.chg hc9 (fun hb => (HN8.out.1 ga hb).2.2.1 rfl))
            have e3 : w9.cell? ⟨ga, 3, none⟩ = some (.slice A3 n3 c3) := HK9.out.at_ rfl
            clear hc9 HTB HO8 HK8 HN7
            have hII : ((idx : Int) + 1 != (idx : Int) + 1) = false := by simp
            go_wp2_with (go_at_call 17; refine (law5_num _ _).mono ?_; rintro e w' ⟨rfl, rfl⟩)
            refine (ref5_Digest (x := bs) _ HTC.out.rf (HS3.out.below HTC.out.below) HL3 HLL2 HDI HL').mono ?_
            rintro e w10 ⟨rfl, hn10⟩
            obtain ⟨G2', HT10', -⟩ := HTC.out.ref hn10
            have HT8 := hide HT10'
            have HLZ : Hid (L'.length ≤ k + 1) := by have h1 := addL_len L bs; rw [HL'.out] at h1; have h2 := HLL.out; rw [Hid]; omega
            clear hn10 HT10' HTC HK9 e3
            go_upto_region 37 with fail
            obtain ⟨AL, cL, -, -, -, -, k0, -, -, hl0, -⟩ := HT8.out.rf.open_
            have hNN : ((L'.length : Int) != (L'.length : Int)) = false := by simp
            go_quiet ((go_at_call 23; exact quiet_left (book_Count _ (HT8.out.bk.drewN _))))
            have HT9 := hide (HT8.out.drewN nq)
            clear k0 hl0 hNN
            go_wp2_with fail
            go_roundw
            case rel => exact ⟨k + 1, _, _, L', ps, by omega, by omega, by go_num, HT9, HLZ, (Nat.le_succ_of_le HPL.out)⟩
            case measure => simp [intOf]; omega
          ·
            go_wp2_with fail
            refine (book_Find _ HT.out.bk (Sl.of_own HO7.out) (by omega)).mono ?_
            rintro e w' ⟨rfl, q8, rfl⟩
            obtain ⟨o, HOO⟩ : ∃ o, Hid (fnd L bs = o) := ⟨_, rfl⟩
            rw [HOO.out]
            have HTB := hide (HT.out.drewN q8)
            have e3b : (w7.drewN q8).cell? ⟨ga, 3, none⟩ = some (.slice A3 n3 c3) := e3
            clear e0 e1 e2 e3 HT
            generalize w7.drewN q8 = w8 at HTB e3b ⊢
            go_wp2_with fail
            refine (ref5_Find w8 HTB.out.rf (HS3.out.below HTB.out.below) (by omega) (r := fndN o) (by rw [HOO.out]; exact rfl)).mono ?_
            rintro e w' ⟨rfl, q9, rfl⟩
            have HT8 := hide (HTB.out.drewN q9)
            clear e3b HTB HOO
            generalize w8.drewN q9 = w9 at HT8 ⊢
            cases o with
            | some i =>
              simp only [fndN, fndE]
              have hII : ((i : Int) + 1 != (i : Int) + 1) = false := by simp
              have hI0 : decide (0 < (i : Int) + 1) = true := by rw [decide_eq_true_eq]; omega
              have hI1 : ((i : Int) + 1 == 0) = false := by simp; omega
              go_wp2_with (go_at_call 17; refine (law5_num _ _).mono ?_; rintro e w' ⟨rfl, rfl⟩)
              go_upto_region 37 with fail
              obtain ⟨AL, cL, -, -, -, -, k0, -, -, hl0, -⟩ := HT8.out.rf.open_
              have hNN : ((L.length : Int) != (L.length : Int)) = false := by simp
              go_quiet ((go_at_call 23; exact quiet_left (book_Count _ (HT8.out.bk.drewN _))))
              have HT9 := hide (HT8.out.drewN nq)
              clear k0 hl0 hNN
              go_wp2_with fail
              go_roundw
              case rel => exact ⟨k + 1, _, _, L, ps, by omega, by omega, by go_num, HT9, (Nat.le_succ_of_le HLL.out), (Nat.le_succ_of_le HPL.out)⟩
              case measure => simp [intOf]; omega
            | none =>
              simp only [fndN, fndE]
              go_wp2_with (go_at_call 17; refine (law5_num _ _).mono ?_; rintro e w' ⟨rfl, rfl⟩)
              go_upto_region 37 with fail
              obtain ⟨AL, cL, -, -, -, -, k0, -, -, hl0, -⟩ := HT8.out.rf.open_
              have hNN : ((L.length : Int) != (L.length : Int)) = false := by simp
              go_quiet ((go_at_call 23; exact quiet_left (book_Count _ (HT8.out.bk.drewN _))))
              have HT9 := hide (HT8.out.drewN nq)
              clear k0 hl0 hNN
              go_wp2_with fail
              go_roundw
              case rel => exact ⟨k + 1, _, _, L, ps, by omega, by omega, by go_num, HT9, (Nat.le_succ_of_le HLL.out), (Nat.le_succ_of_le HPL.out)⟩
              case measure => simp [intOf]; omega
          ·
            by_cases hd : 1 ≤ z ∧ z ≤ (L.length : Int)
            · obtain ⟨idx, rfl⟩ : ∃ idx : Nat, z = (idx : Int) + 1 := ⟨(z - 1).toNat, by omega⟩
              obtain ⟨xs, hxs⟩ : ∃ xs, L[idx]? = some xs := ⟨_, List.getElem?_eq_getElem (by omega)⟩
              have HX := hide hxs
              have HSM := hide (HT.out.bk.sm xs (mem_of_at hxs))
              have hlx : idx < L.length := lt_of_at hxs
              clear hxs hd
              go_wp2_with fail
              refine (book_Bytes_some idx _ HT.out.bk HX).mono ?_
              rintro e w8 ⟨v8, rfl, own8, hb8⟩
              obtain ⟨A8, c8, rfl⟩ := own_slice own8
              have HTB := hide (HT.out.step hb8)
              have HKB := hide (HK7.out.later hb8)
              have HO8 := hide (own_mono own8 (Nat.zero_le _))
              have HN8 : Hid (∀ b, (Value.slice A8 xs.length c8).ownBlock = some b → ¬ G1 b ∧ ¬ G2 b ∧ w.heap.size ≤ b) := fun b hb => by
                have h1 := (own8.lt b hb).1
                have h3 := HT.out.below.size
                exact ⟨fun h => by have := HT.out.bk.lt b h; omega, fun h => by have := HT.out.rf.lt b h; omega, by omega⟩
              clear e0 e1 e2 e3 HT HK7 HO7 HN7 own8 hb8
              obtain ⟨AL, cL, -, -, -, -, k0, -, -, hl0, -, -, -, hrow⟩ := HTB.out.rf.open_
              obtain ⟨br, A9, c9, rfl, r0, rs, -⟩ := hrow idx xs HX.out
              have HRS := hide rs
              have e2 : w8.cell? ⟨ga, 2, none⟩ = some (.int .i64 ((idx : Int) + 1)) := HKB.out.at_ rfl
              clear hrow rs
              obtain ⟨N, HN⟩ : ∃ N, Hid (L.length = N) := ⟨_, rfl⟩
              rw [HN.out] at k0 hl0 hlx
              go_upto_region 24 with fail
              have hd1 : decide ((idx : Int) + 1 < 1) = false := by simp; omega
              have hd2 : decide ((N : Int) < (idx : Int) + 1) = false := by simp; omega
              have hI0 : (0 : Int) ≤ idx := by omega
              have hI1 : (idx : Int) < (N : Int) := by omega
              go_quiet (fail)
              have HTC := hide (HTB.out.drewN nq)
              have HOC := hide (own_drewN HO8.out nq)
              have HRC := hide (HRS.out.drewN nq)
              have k0c : (w8.drewN nq).cell? ⟨r, 0, none⟩ = some (.slice (some ⟨br, 0, none⟩) N cL) := k0
              have r0c : (w8.drewN nq).cell? ⟨br, idx, none⟩ = some (.slice A9 xs.length c9) := r0
              have e2c : (w8.drewN nq).cell? ⟨ga, 2, none⟩ = some (.int .i64 ((idx : Int) + 1)) := e2
              clear k0 r0 e2 HTB HO8 HRS HKB hd1 hd2
              generalize w8.drewN nq = w9 at HTC HOC HRC k0c r0c e2c ⊢
              generalize xs.length = m at HSM HOC HRC r0c HN8 ⊢
              go_upto_region 27 with fail
              have hw1 : IntKind.i64.wrap ((idx : Int) + 1 - 1) = (idx : Int) := by rw [show (idx : Int) + 1 - 1 = (idx : Int) by omega]; exact IntWalk.i64_in _ (by omega)
              go_quiet ((first | (go_at_call 17; exact quiet_left (law5_num _ _)) | (go_at_call 26; exact quiet_one (eq_by (beq_self xs).out (ref0_EqBytes _ _ _ _ _ _ _ _ _ ((Sl.of_own HOC.out).drewN _) (by have := HSM.out; omega) (HRC.out.drewN _) (by have := HSM.out; omega))))))
              have HTD := hide (HTC.out.drewN nq)
              have HOD := hide (own_drewN HOC.out nq)
              clear HTC HOC HRC k0c r0c e2c hw1
              go_wp2_with fail
              refine (law0_Bytes_chg _ HOD.out (Nat.zero_le _) (by have := HSM.out; omega)).mono ?_
              rintro e w10 ⟨rfl, hc9⟩
              have HT8 := hide (HTD.out.chg hc9 (fun b hb => (HN8.out b hb).1) (fun b hb => (HN8.out b hb).2.1) (fun b hb => (HN8.out b hb).2.2))
              clear hc9 HTD HOD
              go_upto_region 37 with fail
              obtain ⟨AL, cL, -, -, -, -, k0, -, -, hl0, -⟩ := HT8.out.rf.open_
              have hNN : ((L.length : Int) != (L.length : Int)) = false := by simp
              go_quiet ((go_at_call 23; exact quiet_left (book_Count _ (HT8.out.bk.drewN _))))
              have HT9 := hide (HT8.out.drewN nq)
              clear k0 hl0 hNN
              go_wp2_with fail
              go_roundw
              case rel => exact ⟨k + 1, _, _, L, ps, by omega, by omega, by go_num, HT9, (Nat.le_succ_of_le HLL.out), (Nat.le_succ_of_le HPL.out)⟩
              case measure => simp [intOf]; omega

            · have HD := hide hd
              clear hd
              go_wp2_with fail
              refine (book_Bytes_none z _ HT.out.bk HD).mono ?_
              rintro e w' ⟨rfl, rfl⟩
              obtain ⟨AL, cL, -, -, -, -, k0, -, -, hl0, -⟩ := HT.out.rf.open_
              have HOE : Hid (∀ W : World, W.ownsRow 0 5 1 (.slice none 0 0) 0 (bytes8 [])) := fun W => World.ownsRow_nil _ _ _ _
              go_upto_region 24 with fail
              by_cases h1 : z < 1
              · have hd1 : decide (z < 1) = true := by simpa using h1
                clear h1
                go_quiet (fail)
                have HTB := hide (HT.out.drewN nq)
                clear k0 hl0
                go_wp2_with (go_at_call 17; refine (law5_num _ _).mono ?_; rintro e w' ⟨rfl, rfl⟩)
                refine (law0_Bytes_chg _ (HOE.out _) (Nat.zero_le _) (by omega)).mono ?_
                rintro e w9 ⟨rfl, hc9⟩
                have HT8 := hide (HTB.out.chg hc9 (fun b hb => by cases hb) (fun b hb => by cases hb) (fun b hb => by cases hb))
                clear hc9 e0 e1 e2 e3
                go_upto_region 37 with fail
                obtain ⟨AL, cL, -, -, -, -, k0, -, -, hl0, -⟩ := HT8.out.rf.open_
                have hNN : ((L.length : Int) != (L.length : Int)) = false := by simp
                go_quiet ((go_at_call 23; exact quiet_left (book_Count _ (HT8.out.bk.drewN _))))
                have HT9 := hide (HT8.out.drewN nq)
                clear k0 hl0 hNN
                go_wp2_with fail
                go_roundw
                case rel => exact ⟨k + 1, _, _, L, ps, by omega, by omega, by go_num, HT9, (Nat.le_succ_of_le HLL.out), (Nat.le_succ_of_le HPL.out)⟩
                case measure => simp [intOf]; omega
              · have hd1 : decide (z < 1) = false := by simpa using h1
                have hd2 : decide ((L.length : Int) < z) = true := by have := HD.out; simp; omega
                clear h1
                go_quiet (fail)
                have HTB := hide (HT.out.drewN nq)
                clear k0 hl0
                go_wp2_with (go_at_call 17; refine (law5_num _ _).mono ?_; rintro e w' ⟨rfl, rfl⟩)
                refine (law0_Bytes_chg _ (HOE.out _) (Nat.zero_le _) (by omega)).mono ?_
                rintro e w9 ⟨rfl, hc9⟩
                have HT8 := hide (HTB.out.chg hc9 (fun b hb => by cases hb) (fun b hb => by cases hb) (fun b hb => by cases hb))
                clear hc9 e0 e1 e2 e3
                go_upto_region 37 with fail
                obtain ⟨AL, cL, -, -, -, -, k0, -, -, hl0, -⟩ := HT8.out.rf.open_
                have hNN : ((L.length : Int) != (L.length : Int)) = false := by simp
                go_quiet ((go_at_call 23; exact quiet_left (book_Count _ (HT8.out.bk.drewN _))))
                have HT9 := hide (HT8.out.drewN nq)
                clear k0 hl0 hNN
                go_wp2_with fail
                go_roundw
                case rel => exact ⟨k + 1, _, _, L, ps, by omega, by omega, by go_num, HT9, (Nat.le_succ_of_le HLL.out), (Nat.le_succ_of_le HPL.out)⟩
                case measure => simp [intOf]; omega
          ·
            obtain ⟨q, HQ⟩ : ∃ q, Hid (sgR L.length y z = q) := ⟨_, rfl⟩
            have HPS : Hid (ps.length ≤ 1048576) := by have := HPL.out; rw [Hid]; omega
            go_upto_region 32 with fail
            have hTW := HT.out
            have hKK := HK7.out
            have hNN := HNA.out
            go_region_held3 (fun w' => w'.cell? ⟨ga, 1, none⟩ = some (.int .i64 y) ∧ w'.cell? ⟨ga, 2, none⟩ = some (.int .i64 z))
              (first | exact ⟨hKK.at_ rfl, hKK.at_ rfl⟩ | exact ⟨(hKK.drew).at_ rfl, (hKK.drew).at_ rfl⟩ | go_keep)
              ((first
                | (go_at_call 20; refine (book_Sign y z _ (by first | exact hTW.bk | exact hTW.bk.drewN 1) HQ).mono ?_; rintro e w8 ⟨rfl, h81, h82⟩; have hKK := (show Blk w8 _ _ _ from (by first | exact hKK.chg h82 hNN.1 | exact (hKK.drew).chg h82 hNN.1)); have hTW := (show Tw w G1 G2 w8 g r L (sgUp q (sgP ps) (y, z)) L ps from (by first | exact hTW.sign h81 h82 | exact (hTW.drewN 1).sign h81 h82)))
                | (go_at_call 17; refine (law5_num _ _).mono ?_; rintro e w' ⟨rfl, rfl⟩)
                | (go_at_call 37; refine (ref5_Sign y z _ hTW.rf HPS HQ).mono ?_; rintro e w9 ⟨rfl, h91⟩; have hKK := hKK.chg h91.chg hNN.2.1; obtain ⟨G2', hTW, -⟩ := hTW.ref h91)
                | fail))
            have HTB := hide hTW
            rw [show sgUp q (sgP ps) (y, z) = sgP (psUp q ps (y, z)) from sgUp_ps q ps (y, z)] at HTB
            have HPZ : Hid ((psUp q ps (y, z)).length ≤ k + 1) := by
              have := HPL.out
              unfold psUp
              split <;> simp [Hid] <;> omega
            clear hTW hKK hNN h81 h82 h91 e0 e1 e2 e3
            have HT8 := HTB
            clear HTB
            generalize psUp q ps (y, z) = psz at HT8 HPZ ⊢
            have hqq : (q != q) = false := by simp
            go_wp2_with fail
            clear hqq
            go_upto_region 37 with fail
            obtain ⟨AL, cL, -, -, -, -, k0, -, -, hl0, -⟩ := HT8.out.rf.open_
            have hNN : ((L.length : Int) != (L.length : Int)) = false := by simp
            go_quiet ((go_at_call 23; exact quiet_left (book_Count _ (HT8.out.bk.drewN _))))
            have HT9 := hide (HT8.out.drewN nq)
            clear k0 hl0 hNN
            go_wp2_with fail
            go_roundw
            case rel => exact ⟨k + 1, _, _, L, psz, by omega, by omega, by go_num, HT9, (Nat.le_succ_of_le HLL.out), HPZ⟩
            case measure => simp [intOf]; omega
          ·
            obtain ⟨q, HQ⟩ : ∃ q, Hid (sgR L.length y z = q) := ⟨_, rfl⟩
            have HPS : Hid (ps.length ≤ 1048576) := by have := HPL.out; rw [Hid]; omega
            go_upto_region 32 with fail
            have hTW := HT.out
            have hKK := HK7.out
            have hNN := HNA.out
            go_region_held3 (fun w' => w'.cell? ⟨ga, 1, none⟩ = some (.int .i64 y) ∧ w'.cell? ⟨ga, 2, none⟩ = some (.int .i64 z))
              (first | exact ⟨hKK.at_ rfl, hKK.at_ rfl⟩ | exact ⟨(hKK.drew).at_ rfl, (hKK.drew).at_ rfl⟩ | go_keep)
              ((first
                | (go_at_call 20; refine (book_Sign y z _ (by first | exact hTW.bk | exact hTW.bk.drewN 1) HQ).mono ?_; rintro e w8 ⟨rfl, h81, h82⟩; have hKK := (show Blk w8 _ _ _ from (by first | exact hKK.chg h82 hNN.1 | exact (hKK.drew).chg h82 hNN.1)); have hTW := (show Tw w G1 G2 w8 g r L (sgUp q (sgP ps) (y, z)) L ps from (by first | exact hTW.sign h81 h82 | exact (hTW.drewN 1).sign h81 h82)))
                | (go_at_call 17; refine (law5_num _ _).mono ?_; rintro e w' ⟨rfl, rfl⟩)
                | (go_at_call 37; refine (ref5_Sign y z _ hTW.rf HPS HQ).mono ?_; rintro e w9 ⟨rfl, h91⟩; have hKK := hKK.chg h91.chg hNN.2.1; obtain ⟨G2', hTW, -⟩ := hTW.ref h91)
                | fail))
            have HTB := hide hTW
            rw [show sgUp q (sgP ps) (y, z) = sgP (psUp q ps (y, z)) from sgUp_ps q ps (y, z)] at HTB
            have HPZ : Hid ((psUp q ps (y, z)).length ≤ k + 1) := by
              have := HPL.out
              unfold psUp
              split <;> simp [Hid] <;> omega
            clear hTW hKK hNN h81 h82 h91 e0 e1 e2 e3
            have HT8 := HTB
            clear HTB
            generalize psUp q ps (y, z) = psz at HT8 HPZ ⊢
            have hqq : (q != q) = false := by simp
            go_wp2_with fail
            clear hqq
            go_upto_region 37 with fail
            obtain ⟨AL, cL, -, -, -, -, k0, -, -, hl0, -⟩ := HT8.out.rf.open_
            have hNN : ((L.length : Int) != (L.length : Int)) = false := by simp
            go_quiet ((go_at_call 23; exact quiet_left (book_Count _ (HT8.out.bk.drewN _))))
            have HT9 := hide (HT8.out.drewN nq)
            clear k0 hl0 hNN
            go_wp2_with fail
            go_roundw
            case rel => exact ⟨k + 1, _, _, L, psz, by omega, by omega, by go_num, HT9, (Nat.le_succ_of_le HLL.out), HPZ⟩
            case measure => simp [intOf]; omega
          ·
            obtain ⟨p, HP⟩ : ∃ p, Hid (sgP ps (y, z) = p) := ⟨_, rfl⟩
            go_upto_region 35 with fail
            cases p
            all_goals
              go_quiet ((first | (go_at_call 19; exact quiet_left (eq_by HP.out (book_Signed y z _ (HT.out.bk.drewN _)))) | (go_at_call 38; exact quiet_left (ref5_Signed y z _ (HT.out.rf.drewN _) HP))))
              have HT8 := hide (HT.out.drewN nq)
              clear e0 e1 e2 e3
              generalize w7.drewN nq = w8 at HT8 ⊢
              go_wp2_with fail
              go_upto_region 37 with fail
              obtain ⟨AL, cL, -, -, -, -, k0, -, -, hl0, -⟩ := HT8.out.rf.open_
              have hNN : ((L.length : Int) != (L.length : Int)) = false := by simp
              go_quiet ((go_at_call 23; exact quiet_left (book_Count _ (HT8.out.bk.drewN _))))
              have HT9 := hide (HT8.out.drewN nq)
              clear k0 hl0 hNN
              go_wp2_with fail
              go_roundw
              case rel => exact ⟨k + 1, _, _, L, ps, by omega, by omega, by go_num, HT9, (Nat.le_succ_of_le HLL.out), (Nat.le_succ_of_le HPL.out)⟩
              case measure => simp [intOf]; omega
        · have hd40 : decide ((k : Int) < 40) = false := by simp; omega
          go_wp2_with fail
          refine (law5_wakes _).mono ?_
          rintro e w2 ⟨rfl, hb2⟩
          have HBB := hide (below_then HT.out.below hb2)
          clear hb2
          go_wp2_with fail
          go_ret
          exact ⟨rfl, HBB.out⟩
      · obtain rfl : k = n := by omega
        go_wp2_with fail
        all_goals
          refine (law5_wakes _).mono ?_
          rintro e w2 ⟨rfl, hb2⟩
          have HBB := hide (below_then HT.out.below hb2)
          clear hb2
          go_wp2_with fail
          go_ret
          exact ⟨rfl, HBB.out⟩
end Go.Proofs.Ytflamhndmggiaaa
