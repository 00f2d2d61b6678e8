/-
  The walk of HeaderQuorums: whatever the argument, the call answers true and changes nothing that was there.
-/
import Derived.Test.YtihpmaifcebpiaaHdrL
import Derived.Test.YtihpmaifcebpiaaHdrS
import Derived.Test.YtihpmaifcebpiaaSpo
import Derived.Test.YtihpmaifcebpiaaQui
namespace Go.Proofs.Ytihpmaifcebpiaa
open Go.RowKit

/-- 1, 2 .. k. -/
def ups (k : Nat) : List Int := (List.range k).map fun i => ((i + 1 : Nat) : Int)
theorem ups_len (k : Nat) : (ups k).length = k := by simp [ups]
theorem ups_succ (k : Nat) : ups (k + 1) = ups k ++ [((k : Int) + 1)] := by simp [ups, List.range_succ]
theorem quor_h : ∀ m k : Fin 18, m.val % 3 = 1 → m.val ≤ 16 → k.val ≤ m.val + 1 → mayH (m.val : Nat) ⟨(m.val : Nat), 2, [], ups k.val⟩ = decide (2 * (m.val / 3) + 1 ≤ k.val ∧ k.val ≤ m.val) := by decide +kernel
theorem quor_c : ∀ m k : Fin 18, m.val % 3 = 1 → m.val ≤ 16 → k.val ≤ m.val + 1 → mayC (m.val : Nat) ⟨⟨1, 1, [], []⟩, 1, ups k.val⟩ = decide (2 * (m.val / 3) + 1 ≤ k.val ∧ k.val ≤ m.val) := by decide +kernel
theorem quor_n (m k : Nat) : mayH (m : Int) ⟨(m : Int) + 1, 2, [], ups k⟩ = false := by
  rw [Bool.eq_false_iff, Ne, mayH_iff, formH_iff]
  rintro ⟨_, ⟨⟨_, h⟩, _⟩, _⟩
  simp only at h; omega
theorem quor_a {m : Nat} (h : 1 ≤ m) : mayH (m : Int) ⟨1, 1, [], ups m⟩ = false := by
  rw [Bool.eq_false_iff, Ne, mayH_iff, formH_iff]
  rintro ⟨_, ⟨_, _, _, _, _, _, h1⟩, _⟩
  simp only [ups_len] at h1
  omega
set_option maxRecDepth 100000 in
set_option maxHeartbeats 4000000 in
theorem walk_HeaderQuorums {v : Value} {w : World} (ho : ∃ A n c, v = .slice A n c ∧ Asks6 w A n) :
    Calls Try.prog 14 #[v] w fun r w' => r = .returned (.bool true) ∧ Below w.heap.size w w' := by
  obtain ⟨A, nn, c, rfl, hn, h⟩ := ho
  clear h
  obtain ⟨i0, hi, hz0, hz1, hz2⟩ := info_parts Try.infoInt
  go_enter Try.func14, Try.ntmps14
  go_wp2_with fail
  go_loopw [3] (fun i wr => ∃ m : Nat, m % 3 = 1 ∧ m ≤ 19 ∧ i = .int .i64 m ∧ Below w.heap.size w wr) (fun i _ => 19 - (intOf i).toNat)
  case atStart => exact ⟨1, rfl, by omega, rfl, Below.refl _ _⟩
  case round =>
    obtain ⟨m, hm3, hm19, rfl, hb_0⟩ := hrel
    obtain ⟨w_0, rfl⟩ : ∃ wo : World, wo = wr := ⟨_, rfl⟩
    by_cases hm16 : m ≤ 16
    · obtain ⟨q, HQ⟩ : ∃ q : Nat, Hid (2 * (m / 3) + 1 = q) := ⟨_, rfl⟩
      have hq : (2 : Int) * ((m : Int) / 3) + 1 = (q : Int) := by have := HQ.out; omega
      have hdm : decide ((m : Int) ≤ 16) = true := by rw [decide_eq_true_eq]; omega
      have hdm' : decide (m ≤ 16) = true := by rw [decide_eq_true_eq]; omega
      have hq17 : q ≤ 17 := by have := HQ.out; omega
      go_wp2_with fail
      try rw [hq]
      clear hq
      go_loopw [5] (fun i wr => ∃ k : Nat, k ≤ m + 2 ∧ i = .int .i64 k ∧ Below w.heap.size w wr) (fun i _ => m + 2 - (intOf i).toNat)
      case atStart => exact ⟨0, Nat.zero_le _, rfl, hb_0⟩
      case round =>
        obtain ⟨k, hk, rfl, hb_1⟩ := hrel
        clear hb_0
        obtain ⟨w_1, rfl⟩ : ∃ wo : World, wo = wr := ⟨_, rfl⟩
        by_cases hkm : k ≤ m + 1
        · have hdk : decide ((k : Int) ≤ (m : Int) + 1) = true := by rw [decide_eq_true_eq]; omega
          have hdk' : decide (k ≤ m + 1) = true := by rw [decide_eq_true_eq]; omega
          go_wp2_with fail
          go_loopw [6, 7] (fun v i wr => ∃ j : Nat, j ≤ k ∧ i = .int .i64 ((j : Int) + 1) ∧ wr.ownsRow w_1.heap.size 3 1 v j (ints (ups j)) ∧ Below w_1.heap.size w_1 wr) (fun _ i _ => k + 1 - (intOf i).toNat)
          case atStart => exact ⟨0, Nat.zero_le _, by simp, World.ownsRow_nil _ _ _ _, Below.refl _ _⟩
          case round =>
            obtain ⟨j, hj, rfl, hown, hb⟩ := hrel
            have hsz := hb.size
            by_cases hjk : j < k
            · obtain ⟨A2, c2, rfl⟩ := own_slice hown
              go_wp2_with (at_builtin; refine wpList_append_own _ rfl _ _ 47 rfl w_1.heap.size 3 i0 (.int .i64 0) 1 8 Try.underlying47 hi hz0 hz1 hz2 rfl (by decide) _ _ _ rfl (hown.alloc _) ⟨wr.heap.size, 0, none⟩ 1 1 [.int .i64 ((j : Int) + 1)] rfl rfl (news_one _ _ _) (one_int64 _) (by unfold maxLen; omega) (by omega) (by simp; omega) ?_)
              intro v4 w4 hown4 hg4 _
              have hb4 : Below w_1.heap.size w_1 w4 := (hb.alloc hsz _).grown hg4 (by simp; omega) (fun g hg' => (hown.lt g hg').1)
              have hown5 : w4.ownsRow w_1.heap.size 3 1 v4 (j + 1) (ints (ups (j + 1))) := by
                have e : ints (ups (j + 1)) = ints (ups j) ++ [.int .i64 ((j : Int) + 1)] := by rw [ups_succ]; simp [ints]
                rw [e]; exact hown4
              clear hown4 hg4 hown hb
              go_wp2_with fail
              go_roundw
              case rel => exact ⟨j + 1, by omega, by go_num, hown5, hb4⟩
              case measure => simp [intOf]; omega
            · obtain rfl : j = k := by omega
              obtain ⟨w_2, rfl⟩ : ∃ wo : World, wo = wr := ⟨_, rfl⟩
              obtain ⟨A5, c5, rfl⟩ := own_slice hown
              go_wp2_with fail
              go_loopw [8, 9] (fun v i wr => ∃ j : Nat, j ≤ m ∧ i = .int .i64 ((j : Int) + 1) ∧ wr.ownsRow w_2.heap.size 3 1 v j (ints (ups j)) ∧ Below w_2.heap.size w_2 wr) (fun _ i _ => m + 1 - (intOf i).toNat)
              case atStart => exact ⟨0, Nat.zero_le _, by simp, World.ownsRow_nil _ _ _ _, Below.refl _ _⟩
              case round =>
                obtain ⟨i, hi', rfl, hown', hb'⟩ := hrel
                have hsz := hb'.size
                by_cases hjk : i < m
                · obtain ⟨A2, c2, rfl⟩ := own_slice hown'
                  go_wp2_with (at_builtin; refine wpList_append_own _ rfl _ _ 47 rfl w_2.heap.size 3 i0 (.int .i64 0) 1 8 Try.underlying47 hi hz0 hz1 hz2 rfl (by decide) _ _ _ rfl (hown'.alloc _) ⟨wr.heap.size, 0, none⟩ 1 1 [.int .i64 ((i : Int) + 1)] rfl rfl (news_one _ _ _) (one_int64 _) (by unfold maxLen; omega) (by omega) (by simp; omega) ?_)
                  intro v4 w4 hown4 hg4 _
                  have hb4 : Below w_2.heap.size w_2 w4 := (hb'.alloc hsz _).grown hg4 (by simp; omega) (fun g hg' => (hown'.lt g hg').1)
                  have hown5 : w4.ownsRow w_2.heap.size 3 1 v4 (i + 1) (ints (ups (i + 1))) := by
                    have e : ints (ups (i + 1)) = ints (ups i) ++ [.int .i64 ((i : Int) + 1)] := by rw [ups_succ]; simp [ints]
                    rw [e]; exact hown4
                  clear hown4 hg4 hown' hb'
                  go_wp2_with fail
                  go_roundw
                  case rel => exact ⟨i + 1, by omega, by go_num, hown5, hb4⟩
                  case measure => simp [intOf]; omega
                · obtain rfl : i = m := by omega
                  obtain ⟨w_3, rfl⟩ : ∃ wo : World, wo = wr := ⟨_, rfl⟩
                  obtain ⟨A6, c6, rfl⟩ := own_slice hown'
                  have hb_3 := below_then (below_then hb_1 hb) hb'
                  have sp := Sl.of_own (own_later hown hb')
                  have sa := Sl.of_own hown'
                  clear hown hown' hb hb' hb_1
                  have HZ3 : Hid (w.heap.size ≤ w_3.heap.size) := hb_3.size
                  have HNP : Hid (∀ b off, 0 < j → A5 = some ⟨b, off, none⟩ → b ≠ w_3.heap.size) := fun b off h0 e => by
                    obtain ⟨b', off', e', hl, _⟩ := sp.2 h0
                    rw [e] at e'; injection e' with e'; injection e' with e1 _; omega
                  have HNA : Hid (∀ b off, 0 < i → A6 = some ⟨b, off, none⟩ → b ≠ w_3.heap.size) := fun b off h0 e => by
                    obtain ⟨b', off', e', hl, _⟩ := sa.2 h0
                    rw [e] at e'; injection e' with e'; injection e' with e1 _; omega
                  by_cases h1 : q ≤ j
                  case neg =>
                    have HM1 : Hid (mayH (i : Nat) ⟨(i : Nat), 2, [], ups j⟩ = false) := by have := quor_h ⟨i, by omega⟩ ⟨j, by omega⟩ hm3 hm16 hkm; simp only at this; rw [Hid, this, HQ.out]; simp; omega
                    have HM2 : Hid (mayC (i : Nat) ⟨⟨1, 1, [], []⟩, 1, ups j⟩ = false) := by have := quor_c ⟨i, by omega⟩ ⟨j, by omega⟩ hm3 hm16 hkm; simp only at this; rw [Hid, this, HQ.out]; simp; omega
                    have HM3 : Hid (mayH (i : Int) ⟨(i : Int) + 1, 2, [], ups j⟩ = false) := quor_n i j
                    have HM4 : Hid (mayH (i : Int) ⟨1, 1, [], ups i⟩ = false) := quor_a (by omega)
                    have hd1 : decide (q ≤ j) = false := by rw [decide_eq_false_iff_not]; exact h1
                    clear h1
                    have hb_4 : Below w.heap.size w (w_3.alloc (.cells #[.int .i64 i, .int .i64 2, .slice none 0 0, .slice A5 j c5] 49)) := hb_3.alloc hb_3.size _
                    have sp_4 := sp.alloc (.cells #[.int .i64 i, .int .i64 2, .slice none 0 0, .slice A5 j c5] 49)
                    have sa_4 := sa.alloc (.cells #[.int .i64 i, .int .i64 2, .slice none 0 0, .slice A5 j c5] 49)
                    have kh_4 := hide (Blk.new w_3 49 #[.int .i64 i, .int .i64 2, .slice none 0 0, .slice A5 j c5])
                    clear hb_3 sp sa
                    go_wp2_with fail
                    have f0 : (w_3.alloc (.cells #[.int .i64 i, .int .i64 2, .slice none 0 0, .slice A5 j c5] 49)).cell? ⟨w_3.heap.size, 0, none⟩ = some (.int .i64 i) := kh_4.out.at_ rfl
                    have f1 : (w_3.alloc (.cells #[.int .i64 i, .int .i64 2, .slice none 0 0, .slice A5 j c5] 49)).cell? ⟨w_3.heap.size, 1, none⟩ = some (.int .i64 2) := kh_4.out.at_ rfl
                    have f2 : (w_3.alloc (.cells #[.int .i64 i, .int .i64 2, .slice none 0 0, .slice A5 j c5] 49)).cell? ⟨w_3.heap.size, 2, none⟩ = some (.slice none 0 0) := kh_4.out.at_ rfl
                    have f3 : (w_3.alloc (.cells #[.int .i64 i, .int .i64 2, .slice none 0 0, .slice A5 j c5] 49)).cell? ⟨w_3.heap.size, 3, none⟩ = some (.slice A5 j c5) := kh_4.out.at_ rfl
                    go_wp2_with fail
                    refine (header_Check (c1 := 0) (c2 := c5) (i : Nat) ⟨(i : Nat), 2, [], ups j⟩ _ Sl.nil_ sp_4 (by omega) (by omega) HM1).mono ?_
                    rintro e w_5 ⟨rfl, hb_5'⟩
                    have hb_5 := below_then hb_4 hb_5'
                    have sp_5 := sp_4.below hb_5'
                    have sa_5 := sa_4.below hb_5'
                    have kh_5 := hide (kh_4.out.later hb_5')
                    clear hb_5' sp_4 sa_4 kh_4 hb_4
                    go_wp2_with fail
                    refine (law6_num _ _).mono ?_
                    rintro e w' ⟨rfl, rfl⟩
                    have hb_6 : Below w.heap.size w (w_5.alloc (.cells #[.int .i64 1, .int .i64 1, .slice none 0 0, .slice none 0 0, .int .i64 1, .slice A5 j c5] 51)) := hb_5.alloc hb_5.size _
                    have sp_6 := sp_5.alloc (.cells #[.int .i64 1, .int .i64 1, .slice none 0 0, .slice none 0 0, .int .i64 1, .slice A5 j c5] 51)
                    have sa_6 := sa_5.alloc (.cells #[.int .i64 1, .int .i64 1, .slice none 0 0, .slice none 0 0, .int .i64 1, .slice A5 j c5] 51)
                    have kh_6 := hide (kh_5.out.alloc (.cells #[.int .i64 1, .int .i64 1, .slice none 0 0, .slice none 0 0, .int .i64 1, .slice A5 j c5] 51))
                    have kc_6 := hide (Blk.new w_5 51 #[.int .i64 1, .int .i64 1, .slice none 0 0, .slice none 0 0, .int .i64 1, .slice A5 j c5])
                    clear hb_5 sp_5 sa_5 kh_5
                    have q0 : (w_5.alloc (.cells #[.int .i64 1, .int .i64 1, .slice none 0 0, .slice none 0 0, .int .i64 1, .slice A5 j c5] 51)).cell? ⟨w_5.heap.size, 0, none⟩ = some (.int .i64 1) := kc_6.out.at_ rfl
                    have q1 : (w_5.alloc (.cells #[.int .i64 1, .int .i64 1, .slice none 0 0, .slice none 0 0, .int .i64 1, .slice A5 j c5] 51)).cell? ⟨w_5.heap.size, 1, none⟩ = some (.int .i64 1) := kc_6.out.at_ rfl
                    have q2 : (w_5.alloc (.cells #[.int .i64 1, .int .i64 1, .slice none 0 0, .slice none 0 0, .int .i64 1, .slice A5 j c5] 51)).cell? ⟨w_5.heap.size, 2, none⟩ = some (.slice none 0 0) := kc_6.out.at_ rfl
                    have q3 : (w_5.alloc (.cells #[.int .i64 1, .int .i64 1, .slice none 0 0, .slice none 0 0, .int .i64 1, .slice A5 j c5] 51)).cell? ⟨w_5.heap.size, 3, none⟩ = some (.slice none 0 0) := kc_6.out.at_ rfl
                    have q4 : (w_5.alloc (.cells #[.int .i64 1, .int .i64 1, .slice none 0 0, .slice none 0 0, .int .i64 1, .slice A5 j c5] 51)).cell? ⟨w_5.heap.size, 4, none⟩ = some (.int .i64 1) := kc_6.out.at_ rfl
                    have q5 : (w_5.alloc (.cells #[.int .i64 1, .int .i64 1, .slice none 0 0, .slice none 0 0, .int .i64 1, .slice A5 j c5] 51)).cell? ⟨w_5.heap.size, 5, none⟩ = some (.slice A5 j c5) := kc_6.out.at_ rfl
                    go_wp2_with fail
                    refine (header_Cert (c1 := 0) (c2 := 0) (c3 := c5) (i : Nat) ⟨⟨1, 1, [], []⟩, 1, ups j⟩ _ Sl.nil_ Sl.nil_ sp_6 (by omega) (by omega) (by omega) HM2).mono ?_
                    rintro e w_7 ⟨rfl, hb_7'⟩
                    have hb_7 := below_then hb_6 hb_7'
                    have sp_7 := sp_6.below hb_7'
                    have sa_7 := sa_6.below hb_7'
                    have kh_7 := hide (kh_6.out.later hb_7')
                    have kc_7 := hide (kc_6.out.later hb_7')
                    clear hb_7' sp_6 sa_6 kh_6 kc_6 hb_6
                    go_wp2_with fail
                    refine (law6_num _ _).mono ?_
                    rintro e w' ⟨rfl, rfl⟩
                    clear kc_7
                    have f0 : w_7.cell? ⟨w_3.heap.size, 0, none⟩ = some (.int .i64 i) := kh_7.out.at_ rfl
                    have f1 : w_7.cell? ⟨w_3.heap.size, 1, none⟩ = some (.int .i64 2) := kh_7.out.at_ rfl
                    have f2 : w_7.cell? ⟨w_3.heap.size, 2, none⟩ = some (.slice none 0 0) := kh_7.out.at_ rfl
                    have f3 : w_7.cell? ⟨w_3.heap.size, 3, none⟩ = some (.slice A5 j c5) := kh_7.out.at_ rfl
                    have fz := kh_7.out.frozen 0
                    have hs3 := hb_7.size
                    have hgk : w.heap.size ≤ w_3.heap.size := HZ3.out
                    have kk := hide (kh_7.out.set_ 0 (.int .i64 ((i : Int) + 1)))
                    have bb := hide (hb_7.setCell (p := ⟨w_3.heap.size, 0, none⟩) hgk (.int .i64 ((i : Int) + 1)))
                    have ss1 := hide ((sp_7 : Sl w_7 1 A5 j (ints (ups j))).grown_ne (grown_set w_7 (w_3.heap.size) 0 (.int .i64 ((i : Int) + 1))) (HNP.out))
                    have ss2 := hide ((sa_7 : Sl w_7 1 A6 i (ints (ups i))).grown_ne (grown_set w_7 (w_3.heap.size) 0 (.int .i64 ((i : Int) + 1))) (HNA.out))
                    clear sp_7 sa_7 hb_7 kh_7
                    go_upto_region 26 with fail
                    generalize w_7.setCell ⟨w_3.heap.size, 0, none⟩ (.int .i64 ((i : Int) + 1)) = w_8 at kk bb ss1 ss2 ⊢
                    have hb_8 := bb.out
                    have sp_8 := ss1.out
                    have sa_8 := ss2.out
                    clear bb ss1 ss2
                    have g0 : w_8.cell? ⟨w_3.heap.size, 0, none⟩ = some (.int .i64 ((i : Int) + 1)) := kk.out.at_ rfl
                    have g1 : w_8.cell? ⟨w_3.heap.size, 1, none⟩ = some (.int .i64 2) := kk.out.at_ rfl
                    have g2 : w_8.cell? ⟨w_3.heap.size, 2, none⟩ = some (.slice none 0 0) := kk.out.at_ rfl
                    have g3 : w_8.cell? ⟨w_3.heap.size, 3, none⟩ = some (.slice A5 j c5) := kk.out.at_ rfl
                    clear f0 f1 f2 f3 fz
                    go_wp2_with fail
                    refine (header_Check (c1 := 0) (c2 := c5) (i : Int) ⟨(i : Int) + 1, 2, [], ups j⟩ _ Sl.nil_ sp_8 (by omega) (by omega) HM3).mono ?_
                    rintro e w_9 ⟨rfl, hb_9'⟩
                    have hb_9 := below_then hb_8 hb_9'
                    have sp_9 := sp_8.below hb_9'
                    have sa_9 := sa_8.below hb_9'
                    have kh_9 := hide (kk.out.later hb_9')
                    clear hb_9' sp_8 sa_8 kk hb_8
                    go_wp2_with fail
                    refine (law6_num _ _).mono ?_
                    rintro e w' ⟨rfl, rfl⟩
                    go_wp2_with fail
                    refine (header_Check (c1 := 0) (c2 := c6) (i : Int) ⟨1, 1, [], ups i⟩ _ Sl.nil_ sa_9 (by omega) (by omega) HM4).mono ?_
                    rintro e w_10 ⟨rfl, hb_10'⟩
                    have hb_10 := below_then hb_9 hb_10'
                    have sp_10 := sp_9.below hb_10'
                    have sa_10 := sa_9.below hb_10'
                    have kh_10 := hide (kh_9.out.later hb_10')
                    clear hb_10' sp_9 sa_9 kh_9 hb_9
                    go_wp2_with fail
                    refine (law6_num _ _).mono ?_
                    rintro e w' ⟨rfl, rfl⟩
                    go_wp2_with fail
                    go_roundw
                    case rel => exact ⟨j + 1, by omega, by go_num, hb_10⟩
                    case measure => simp [intOf]; omega
                  by_cases h2 : j ≤ i
                  case neg =>
                    have HM1 : Hid (mayH (i : Nat) ⟨(i : Nat), 2, [], ups j⟩ = false) := by have := quor_h ⟨i, by omega⟩ ⟨j, by omega⟩ hm3 hm16 hkm; simp only at this; rw [Hid, this, HQ.out]; simp; omega
                    have HM2 : Hid (mayC (i : Nat) ⟨⟨1, 1, [], []⟩, 1, ups j⟩ = false) := by have := quor_c ⟨i, by omega⟩ ⟨j, by omega⟩ hm3 hm16 hkm; simp only at this; rw [Hid, this, HQ.out]; simp; omega
                    have HM3 : Hid (mayH (i : Int) ⟨(i : Int) + 1, 2, [], ups j⟩ = false) := quor_n i j
                    have HM4 : Hid (mayH (i : Int) ⟨1, 1, [], ups i⟩ = false) := quor_a (by omega)
                    have hd1 : decide (q ≤ j) = true := by rw [decide_eq_true_eq]; exact h1
                    have hd2 : decide (j ≤ i) = false := by rw [decide_eq_false_iff_not]; exact h2
                    clear h1 h2
                    have hb_4 : Below w.heap.size w (w_3.alloc (.cells #[.int .i64 i, .int .i64 2, .slice none 0 0, .slice A5 j c5] 49)) := hb_3.alloc hb_3.size _
                    have sp_4 := sp.alloc (.cells #[.int .i64 i, .int .i64 2, .slice none 0 0, .slice A5 j c5] 49)
                    have sa_4 := sa.alloc (.cells #[.int .i64 i, .int .i64 2, .slice none 0 0, .slice A5 j c5] 49)
                    have kh_4 := hide (Blk.new w_3 49 #[.int .i64 i, .int .i64 2, .slice none 0 0, .slice A5 j c5])
                    clear hb_3 sp sa
                    go_wp2_with fail
                    have f0 : (w_3.alloc (.cells #[.int .i64 i, .int .i64 2, .slice none 0 0, .slice A5 j c5] 49)).cell? ⟨w_3.heap.size, 0, none⟩ = some (.int .i64 i) := kh_4.out.at_ rfl
                    have f1 : (w_3.alloc (.cells #[.int .i64 i, .int .i64 2, .slice none 0 0, .slice A5 j c5] 49)).cell? ⟨w_3.heap.size, 1, none⟩ = some (.int .i64 2) := kh_4.out.at_ rfl
                    have f2 : (w_3.alloc (.cells #[.int .i64 i, .int .i64 2, .slice none 0 0, .slice A5 j c5] 49)).cell? ⟨w_3.heap.size, 2, none⟩ = some (.slice none 0 0) := kh_4.out.at_ rfl
                    have f3 : (w_3.alloc (.cells #[.int .i64 i, .int .i64 2, .slice none 0 0, .slice A5 j c5] 49)).cell? ⟨w_3.heap.size, 3, none⟩ = some (.slice A5 j c5) := kh_4.out.at_ rfl
                    go_wp2_with fail
                    refine (header_Check (c1 := 0) (c2 := c5) (i : Nat) ⟨(i : Nat), 2, [], ups j⟩ _ Sl.nil_ sp_4 (by omega) (by omega) HM1).mono ?_
                    rintro e w_5 ⟨rfl, hb_5'⟩
                    have hb_5 := below_then hb_4 hb_5'
                    have sp_5 := sp_4.below hb_5'
                    have sa_5 := sa_4.below hb_5'
                    have kh_5 := hide (kh_4.out.later hb_5')
                    clear hb_5' sp_4 sa_4 kh_4 hb_4
                    go_wp2_with fail
                    refine (law6_num _ _).mono ?_
                    rintro e w' ⟨rfl, rfl⟩
                    have hb_6 : Below w.heap.size w (w_5.alloc (.cells #[.int .i64 1, .int .i64 1, .slice none 0 0, .slice none 0 0, .int .i64 1, .slice A5 j c5] 51)) := hb_5.alloc hb_5.size _
                    have sp_6 := sp_5.alloc (.cells #[.int .i64 1, .int .i64 1, .slice none 0 0, .slice none 0 0, .int .i64 1, .slice A5 j c5] 51)
                    have sa_6 := sa_5.alloc (.cells #[.int .i64 1, .int .i64 1, .slice none 0 0, .slice none 0 0, .int .i64 1, .slice A5 j c5] 51)
                    have kh_6 := hide (kh_5.out.alloc (.cells #[.int .i64 1, .int .i64 1, .slice none 0 0, .slice none 0 0, .int .i64 1, .slice A5 j c5] 51))
                    have kc_6 := hide (Blk.new w_5 51 #[.int .i64 1, .int .i64 1, .slice none 0 0, .slice none 0 0, .int .i64 1, .slice A5 j c5])
                    clear hb_5 sp_5 sa_5 kh_5
                    have q0 : (w_5.alloc (.cells #[.int .i64 1, .int .i64 1, .slice none 0 0, .slice none 0 0, .int .i64 1, .slice A5 j c5] 51)).cell? ⟨w_5.heap.size, 0, none⟩ = some (.int .i64 1) := kc_6.out.at_ rfl
                    have q1 : (w_5.alloc (.cells #[.int .i64 1, .int .i64 1, .slice none 0 0, .slice none 0 0, .int .i64 1, .slice A5 j c5] 51)).cell? ⟨w_5.heap.size, 1, none⟩ = some (.int .i64 1) := kc_6.out.at_ rfl
                    have q2 : (w_5.alloc (.cells #[.int .i64 1, .int .i64 1, .slice none 0 0, .slice none 0 0, .int .i64 1, .slice A5 j c5] 51)).cell? ⟨w_5.heap.size, 2, none⟩ = some (.slice none 0 0) := kc_6.out.at_ rfl
                    have q3 : (w_5.alloc (.cells #[.int .i64 1, .int .i64 1, .slice none 0 0, .slice none 0 0, .int .i64 1, .slice A5 j c5] 51)).cell? ⟨w_5.heap.size, 3, none⟩ = some (.slice none 0 0) := kc_6.out.at_ rfl
                    have q4 : (w_5.alloc (.cells #[.int .i64 1, .int .i64 1, .slice none 0 0, .slice none 0 0, .int .i64 1, .slice A5 j c5] 51)).cell? ⟨w_5.heap.size, 4, none⟩ = some (.int .i64 1) := kc_6.out.at_ rfl
                    have q5 : (w_5.alloc (.cells #[.int .i64 1, .int .i64 1, .slice none 0 0, .slice none 0 0, .int .i64 1, .slice A5 j c5] 51)).cell? ⟨w_5.heap.size, 5, none⟩ = some (.slice A5 j c5) := kc_6.out.at_ rfl
                    go_wp2_with fail
                    refine (header_Cert (c1 := 0) (c2 := 0) (c3 := c5) (i : Nat) ⟨⟨1, 1, [], []⟩, 1, ups j⟩ _ Sl.nil_ Sl.nil_ sp_6 (by omega) (by omega) (by omega) HM2).mono ?_
                    rintro e w_7 ⟨rfl, hb_7'⟩
                    have hb_7 := below_then hb_6 hb_7'
                    have sp_7 := sp_6.below hb_7'
                    have sa_7 := sa_6.below hb_7'
                    have kh_7 := hide (kh_6.out.later hb_7')
                    have kc_7 := hide (kc_6.out.later hb_7')
                    clear hb_7' sp_6 sa_6 kh_6 kc_6 hb_6
                    go_wp2_with fail
                    refine (law6_num _ _).mono ?_
                    rintro e w' ⟨rfl, rfl⟩
                    clear kc_7
                    have f0 : w_7.cell? ⟨w_3.heap.size, 0, none⟩ = some (.int .i64 i) := kh_7.out.at_ rfl
                    have f1 : w_7.cell? ⟨w_3.heap.size, 1, none⟩ = some (.int .i64 2) := kh_7.out.at_ rfl
                    have f2 : w_7.cell? ⟨w_3.heap.size, 2, none⟩ = some (.slice none 0 0) := kh_7.out.at_ rfl
                    have f3 : w_7.cell? ⟨w_3.heap.size, 3, none⟩ = some (.slice A5 j c5) := kh_7.out.at_ rfl
                    have fz := kh_7.out.frozen 0
                    have hs3 := hb_7.size
                    have hgk : w.heap.size ≤ w_3.heap.size := HZ3.out
                    have kk := hide (kh_7.out.set_ 0 (.int .i64 ((i : Int) + 1)))
                    have bb := hide (hb_7.setCell (p := ⟨w_3.heap.size, 0, none⟩) hgk (.int .i64 ((i : Int) + 1)))
                    have ss1 := hide ((sp_7 : Sl w_7 1 A5 j (ints (ups j))).grown_ne (grown_set w_7 (w_3.heap.size) 0 (.int .i64 ((i : Int) + 1))) (HNP.out))
                    have ss2 := hide ((sa_7 : Sl w_7 1 A6 i (ints (ups i))).grown_ne (grown_set w_7 (w_3.heap.size) 0 (.int .i64 ((i : Int) + 1))) (HNA.out))
                    clear sp_7 sa_7 hb_7 kh_7
                    go_upto_region 26 with fail
                    generalize w_7.setCell ⟨w_3.heap.size, 0, none⟩ (.int .i64 ((i : Int) + 1)) = w_8 at kk bb ss1 ss2 ⊢
                    have hb_8 := bb.out
                    have sp_8 := ss1.out
                    have sa_8 := ss2.out
                    clear bb ss1 ss2
                    have g0 : w_8.cell? ⟨w_3.heap.size, 0, none⟩ = some (.int .i64 ((i : Int) + 1)) := kk.out.at_ rfl
                    have g1 : w_8.cell? ⟨w_3.heap.size, 1, none⟩ = some (.int .i64 2) := kk.out.at_ rfl
                    have g2 : w_8.cell? ⟨w_3.heap.size, 2, none⟩ = some (.slice none 0 0) := kk.out.at_ rfl
                    have g3 : w_8.cell? ⟨w_3.heap.size, 3, none⟩ = some (.slice A5 j c5) := kk.out.at_ rfl
                    clear f0 f1 f2 f3 fz
                    go_wp2_with fail
                    refine (header_Check (c1 := 0) (c2 := c5) (i : Int) ⟨(i : Int) + 1, 2, [], ups j⟩ _ Sl.nil_ sp_8 (by omega) (by omega) HM3).mono ?_
                    rintro e w_9 ⟨rfl, hb_9'⟩
                    have hb_9 := below_then hb_8 hb_9'
                    have sp_9 := sp_8.below hb_9'
                    have sa_9 := sa_8.below hb_9'
                    have kh_9 := hide (kk.out.later hb_9')
                    clear hb_9' sp_8 sa_8 kk hb_8
                    go_wp2_with fail
                    refine (law6_num _ _).mono ?_
                    rintro e w' ⟨rfl, rfl⟩
                    go_wp2_with fail
                    refine (header_Check (c1 := 0) (c2 := c6) (i : Int) ⟨1, 1, [], ups i⟩ _ Sl.nil_ sa_9 (by omega) (by omega) HM4).mono ?_
                    rintro e w_10 ⟨rfl, hb_10'⟩
                    have hb_10 := below_then hb_9 hb_10'
                    have sp_10 := sp_9.below hb_10'
                    have sa_10 := sa_9.below hb_10'
                    have kh_10 := hide (kh_9.out.later hb_10')
                    clear hb_10' sp_9 sa_9 kh_9 hb_9
                    go_wp2_with fail
                    refine (law6_num _ _).mono ?_
                    rintro e w' ⟨rfl, rfl⟩
                    go_wp2_with fail
                    go_roundw
                    case rel => exact ⟨j + 1, by omega, by go_num, hb_10⟩
                    case measure => simp [intOf]; omega
                  have HM1 : Hid (mayH (i : Nat) ⟨(i : Nat), 2, [], ups j⟩ = true) := by have := quor_h ⟨i, by omega⟩ ⟨j, by omega⟩ hm3 hm16 hkm; simp only at this; rw [Hid, this, HQ.out]; simp; omega
                  have HM2 : Hid (mayC (i : Nat) ⟨⟨1, 1, [], []⟩, 1, ups j⟩ = true) := by have := quor_c ⟨i, by omega⟩ ⟨j, by omega⟩ hm3 hm16 hkm; simp only at this; rw [Hid, this, HQ.out]; simp; omega
                  have HM3 : Hid (mayH (i : Int) ⟨(i : Int) + 1, 2, [], ups j⟩ = false) := quor_n i j
                  have HM4 : Hid (mayH (i : Int) ⟨1, 1, [], ups i⟩ = false) := quor_a (by omega)
                  have hd1 : decide (q ≤ j) = true := by rw [decide_eq_true_eq]; exact h1
                  have hd2 : decide (j ≤ i) = true := by rw [decide_eq_true_eq]; exact h2
                  clear h1 h2
                  have hb_4 : Below w.heap.size w (w_3.alloc (.cells #[.int .i64 i, .int .i64 2, .slice none 0 0, .slice A5 j c5] 49)) := hb_3.alloc hb_3.size _
                  have sp_4 := sp.alloc (.cells #[.int .i64 i, .int .i64 2, .slice none 0 0, .slice A5 j c5] 49)
                  have sa_4 := sa.alloc (.cells #[.int .i64 i, .int .i64 2, .slice none 0 0, .slice A5 j c5] 49)
                  have kh_4 := hide (Blk.new w_3 49 #[.int .i64 i, .int .i64 2, .slice none 0 0, .slice A5 j c5])
                  clear hb_3 sp sa
                  go_wp2_with fail
                  have f0 : (w_3.alloc (.cells #[.int .i64 i, .int .i64 2, .slice none 0 0, .slice A5 j c5] 49)).cell? ⟨w_3.heap.size, 0, none⟩ = some (.int .i64 i) := kh_4.out.at_ rfl
                  have f1 : (w_3.alloc (.cells #[.int .i64 i, .int .i64 2, .slice none 0 0, .slice A5 j c5] 49)).cell? ⟨w_3.heap.size, 1, none⟩ = some (.int .i64 2) := kh_4.out.at_ rfl
                  have f2 : (w_3.alloc (.cells #[.int .i64 i, .int .i64 2, .slice none 0 0, .slice A5 j c5] 49)).cell? ⟨w_3.heap.size, 2, none⟩ = some (.slice none 0 0) := kh_4.out.at_ rfl
                  have f3 : (w_3.alloc (.cells #[.int .i64 i, .int .i64 2, .slice none 0 0, .slice A5 j c5] 49)).cell? ⟨w_3.heap.size, 3, none⟩ = some (.slice A5 j c5) := kh_4.out.at_ rfl
                  go_wp2_with fail
                  refine (header_Check (c1 := 0) (c2 := c5) (i : Nat) ⟨(i : Nat), 2, [], ups j⟩ _ Sl.nil_ sp_4 (by omega) (by omega) HM1).mono ?_
                  rintro e w_5 ⟨rfl, hb_5'⟩
                  have hb_5 := below_then hb_4 hb_5'
                  have sp_5 := sp_4.below hb_5'
                  have sa_5 := sa_4.below hb_5'
                  have kh_5 := hide (kh_4.out.later hb_5')
                  clear hb_5' sp_4 sa_4 kh_4 hb_4
                  go_wp2_with fail
                  refine (law6_num _ _).mono ?_
                  rintro e w' ⟨rfl, rfl⟩
                  have hb_6 : Below w.heap.size w (w_5.alloc (.cells #[.int .i64 1, .int .i64 1, .slice none 0 0, .slice none 0 0, .int .i64 1, .slice A5 j c5] 51)) := hb_5.alloc hb_5.size _
                  have sp_6 := sp_5.alloc (.cells #[.int .i64 1, .int .i64 1, .slice none 0 0, .slice none 0 0, .int .i64 1, .slice A5 j c5] 51)
                  have sa_6 := sa_5.alloc (.cells #[.int .i64 1, .int .i64 1, .slice none 0 0, .slice none 0 0, .int .i64 1, .slice A5 j c5] 51)
                  have kh_6 := hide (kh_5.out.alloc (.cells #[.int .i64 1, .int .i64 1, .slice none 0 0, .slice none 0 0, .int .i64 1, .slice A5 j c5] 51))
                  have kc_6 := hide (Blk.new w_5 51 #[.int .i64 1, .int .i64 1, .slice none 0 0, .slice none 0 0, .int .i64 1, .slice A5 j c5])
                  clear hb_5 sp_5 sa_5 kh_5
                  have q0 : (w_5.alloc (.cells #[.int .i64 1, .int .i64 1, .slice none 0 0, .slice none 0 0, .int .i64 1, .slice A5 j c5] 51)).cell? ⟨w_5.heap.size, 0, none⟩ = some (.int .i64 1) := kc_6.out.at_ rfl
                  have q1 : (w_5.alloc (.cells #[.int .i64 1, .int .i64 1, .slice none 0 0, .slice none 0 0, .int .i64 1, .slice A5 j c5] 51)).cell? ⟨w_5.heap.size, 1, none⟩ = some (.int .i64 1) := kc_6.out.at_ rfl
                  have q2 : (w_5.alloc (.cells #[.int .i64 1, .int .i64 1, .slice none 0 0, .slice none 0 0, .int .i64 1, .slice A5 j c5] 51)).cell? ⟨w_5.heap.size, 2, none⟩ = some (.slice none 0 0) := kc_6.out.at_ rfl
                  have q3 : (w_5.alloc (.cells #[.int .i64 1, .int .i64 1, .slice none 0 0, .slice none 0 0, .int .i64 1, .slice A5 j c5] 51)).cell? ⟨w_5.heap.size, 3, none⟩ = some (.slice none 0 0) := kc_6.out.at_ rfl
                  have q4 : (w_5.alloc (.cells #[.int .i64 1, .int .i64 1, .slice none 0 0, .slice none 0 0, .int .i64 1, .slice A5 j c5] 51)).cell? ⟨w_5.heap.size, 4, none⟩ = some (.int .i64 1) := kc_6.out.at_ rfl
                  have q5 : (w_5.alloc (.cells #[.int .i64 1, .int .i64 1, .slice none 0 0, .slice none 0 0, .int .i64 1, .slice A5 j c5] 51)).cell? ⟨w_5.heap.size, 5, none⟩ = some (.slice A5 j c5) := kc_6.out.at_ rfl
                  go_wp2_with fail
                  refine (header_Cert (c1 := 0) (c2 := 0) (c3 := c5) (i : Nat) ⟨⟨1, 1, [], []⟩, 1, ups j⟩ _ Sl.nil_ Sl.nil_ sp_6 (by omega) (by omega) (by omega) HM2).mono ?_
                  rintro e w_7 ⟨rfl, hb_7'⟩
                  have hb_7 := below_then hb_6 hb_7'
                  have sp_7 := sp_6.below hb_7'
                  have sa_7 := sa_6.below hb_7'
                  have kh_7 := hide (kh_6.out.later hb_7')
                  have kc_7 := hide (kc_6.out.later hb_7')
                  clear hb_7' sp_6 sa_6 kh_6 kc_6 hb_6
                  go_wp2_with fail
                  refine (law6_num _ _).mono ?_
                  rintro e w' ⟨rfl, rfl⟩
                  clear kc_7
                  have f0 : w_7.cell? ⟨w_3.heap.size, 0, none⟩ = some (.int .i64 i) := kh_7.out.at_ rfl
                  have f1 : w_7.cell? ⟨w_3.heap.size, 1, none⟩ = some (.int .i64 2) := kh_7.out.at_ rfl
                  have f2 : w_7.cell? ⟨w_3.heap.size, 2, none⟩ = some (.slice none 0 0) := kh_7.out.at_ rfl
                  have f3 : w_7.cell? ⟨w_3.heap.size, 3, none⟩ = some (.slice A5 j c5) := kh_7.out.at_ rfl
                  have fz := kh_7.out.frozen 0
                  have hs3 := hb_7.size
                  have hgk : w.heap.size ≤ w_3.heap.size := HZ3.out
                  have kk := hide (kh_7.out.set_ 0 (.int .i64 ((i : Int) + 1)))
                  have bb := hide (hb_7.setCell (p := ⟨w_3.heap.size, 0, none⟩) hgk (.int .i64 ((i : Int) + 1)))
                  have ss1 := hide ((sp_7 : Sl w_7 1 A5 j (ints (ups j))).grown_ne (grown_set w_7 (w_3.heap.size) 0 (.int .i64 ((i : Int) + 1))) (HNP.out))
                  have ss2 := hide ((sa_7 : Sl w_7 1 A6 i (ints (ups i))).grown_ne (grown_set w_7 (w_3.heap.size) 0 (.int .i64 ((i : Int) + 1))) (HNA.out))
                  clear sp_7 sa_7 hb_7 kh_7
                  go_upto_region 26 with fail
                  generalize w_7.setCell ⟨w_3.heap.size, 0, none⟩ (.int .i64 ((i : Int) + 1)) = w_8 at kk bb ss1 ss2 ⊢
                  have hb_8 := bb.out
                  have sp_8 := ss1.out
                  have sa_8 := ss2.out
                  clear bb ss1 ss2
                  have g0 : w_8.cell? ⟨w_3.heap.size, 0, none⟩ = some (.int .i64 ((i : Int) + 1)) := kk.out.at_ rfl
                  have g1 : w_8.cell? ⟨w_3.heap.size, 1, none⟩ = some (.int .i64 2) := kk.out.at_ rfl
                  have g2 : w_8.cell? ⟨w_3.heap.size, 2, none⟩ = some (.slice none 0 0) := kk.out.at_ rfl
                  have g3 : w_8.cell? ⟨w_3.heap.size, 3, none⟩ = some (.slice A5 j c5) := kk.out.at_ rfl
                  clear f0 f1 f2 f3 fz
                  go_wp2_with fail
                  refine (header_Check (c1 := 0) (c2 := c5) (i : Int) ⟨(i : Int) + 1, 2, [], ups j⟩ _ Sl.nil_ sp_8 (by omega) (by omega) HM3).mono ?_
                  rintro e w_9 ⟨rfl, hb_9'⟩
                  have hb_9 := below_then hb_8 hb_9'
                  have sp_9 := sp_8.below hb_9'
                  have sa_9 := sa_8.below hb_9'
                  have kh_9 := hide (kk.out.later hb_9')
                  clear hb_9' sp_8 sa_8 kk hb_8
                  go_wp2_with fail
                  refine (law6_num _ _).mono ?_
                  rintro e w' ⟨rfl, rfl⟩
                  go_wp2_with fail
                  refine (header_Check (c1 := 0) (c2 := c6) (i : Int) ⟨1, 1, [], ups i⟩ _ Sl.nil_ sa_9 (by omega) (by omega) HM4).mono ?_
                  rintro e w_10 ⟨rfl, hb_10'⟩
                  have hb_10 := below_then hb_9 hb_10'
                  have sp_10 := sp_9.below hb_10'
                  have sa_10 := sa_9.below hb_10'
                  have kh_10 := hide (kh_9.out.later hb_10')
                  clear hb_10' sp_9 sa_9 kh_9 hb_9
                  go_wp2_with fail
                  refine (law6_num _ _).mono ?_
                  rintro e w' ⟨rfl, rfl⟩
                  go_wp2_with fail
                  go_roundw
                  case rel => exact ⟨j + 1, by omega, by go_num, hb_10⟩
                  case measure => simp [intOf]; omega
        · have hk' : k = m + 2 := by omega
          have hd : decide ((k : Int) ≤ (m : Int) + 1) = false := by rw [decide_eq_false_iff_not]; omega
          clear hk' hkm
          go_wp2_with fail
          go_roundw
          case rel => exact ⟨m + 3, by omega, by omega, by go_num, hb_1⟩
          case measure => simp [intOf]; omega
    · have hd : decide ((m : Int) ≤ 16) = false := by rw [decide_eq_false_iff_not]; omega
      go_wp2_with fail
      refine (law6_wakes _).mono ?_
      rintro e w1 ⟨rfl, hb1⟩
      go_wp2_with fail
      go_ret
      exact ⟨rfl, below_then hb_0 hb1⟩
end Go.Proofs.Ytihpmaifcebpiaa
