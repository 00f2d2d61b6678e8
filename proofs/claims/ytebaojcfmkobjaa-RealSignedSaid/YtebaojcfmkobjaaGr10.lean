/-
  Texts joined: words and contracts that later texts use; lemmas alone, no conditions of a statement.
-/
import Derived.Test.YtebaojcfmkobjaaGr09
import Derived.Test.YtebaojcfmkobjaaGr03
import Derived.Deep.DrawnRows
set_option linter.unusedVariables false
set_option linter.unusedSimpArgs false
/-
  Contracts: lists of transactions, batches: compared, copied, written over: the references' and the statements' helpers.
-/
namespace Go.Proofs.Ytebaojcfmkobjaa
open Go.RowKit

set_option maxRecDepth 100000 in
set_option maxHeartbeats 1000000 in
theorem ref0_EqTxs {A B : Option Addr} {n c m d : Nat} {xs ys : List TxD} (w : World) (hs : Sl w 4 A n (txsC xs)) (hn : n ≤ 9223372036854775807) (ht : Sl w 4 B m (txsC ys)) (hm : m ≤ 9223372036854775807) {r : Bool} (hr : Hid (decide (xs = ys) = r)) :
    Calls Try.prog 77 #[.slice A n c, .slice B m d] w fun e w' => e = .returned (.bool r) ∧ Below w.heap.size w w' := by
  have HL := hide hs.txlen
  have HM := hide ht.txlen
  by_cases hne : n = m
  · subst hne
    go_enter Try.func77, Try.ntmps77
    go_wp2_with fail
    go_loopw [5] (fun i wr => ∃ k : Nat, k ≤ n ∧ i = .int .i64 k ∧ Hid (xs.take k = ys.take k) ∧ ∃ q, wr = w.drewN q) (fun i _ => n - (intOf i).toNat)
    case atStart => exact ⟨0, Nat.zero_le _, rfl, by simp [Hid], 0, rfl⟩
    case round =>
      obtain ⟨k, hk, rfl, HX, q, rfl⟩ := hrel
      by_cases hlt : k < n
      · obtain ⟨b, off, u, rfl, HU, c0, c1, c2, c3, _⟩ := hs.tx hlt
        obtain ⟨b', off', v, rfl, HV, d0, d1, d2, d3, _⟩ := ht.tx hlt
        clear hs ht
        obtain ⟨s1, q1, k1, v1⟩ := u
        obtain ⟨s2, q2, k2, v2⟩ := v
        simp only at c0 c1 c2 c3 d0 d1 d2 d3
        by_cases he : (⟨s1, q1, k1, v1⟩ : TxD) = ⟨s2, q2, k2, v2⟩
        · have hcmp := fun w => run_neq_tx s1 q1 s2 q2 k1 v1 k2 v2 w (r := true) (by simpa using he)
          have hgd := run_guard_tx
          have HX2 : Hid (xs.take (k + 1) = ys.take (k + 1)) := by rw [Hid, take_at HU.out, take_at HV.out, HX.out, he]
          clear he
          go_wp2_with fail
          go_quiet (fail)
          go_wp2_with fail
          go_roundw
          case rel => exact ⟨k + 1, by omega, by go_num, HX2, q + nq, rfl⟩
          case measure => simp [intOf]; omega
        · have hcmp := fun w => run_neq_tx s1 q1 s2 q2 k1 v1 k2 v2 w (r := false) (by simpa using he)
          have hgd := run_guard_tx
          have HE : Hid (r = false) := by
            rw [Hid, ← hr.out, decide_eq_false_iff_not]
            rintro rfl
            have e := HU.out.symm.trans HV.out
            injection e with e
            exact he e
          clear he
          go_wp2_with fail
          go_quiet (fail)
          go_wp2_with fail
          go_ret
          exact ⟨ret_bool HE.out.symm, below_drewN (below_drewN (Below.refl _ _) q) nq⟩
      · obtain rfl : k = n := by omega
        go_wp2_with fail
        go_ret
        refine ⟨ret_bool ?_, below_drewN (Below.refl _ _) q⟩
        have hx := HX.out
        rw [List.take_of_length_le (by rw [HL.out]; exact Nat.le_refl _), List.take_of_length_le (by rw [HM.out]; exact Nat.le_refl _)] at hx
        rw [← hr.out]; simp [hx]
  · have hne' : ((n : Int) != (m : Int)) = true := by simp; omega
    go_enter Try.func77, Try.ntmps77
    go_wp2_with fail
    go_ret
    refine ⟨ret_bool ?_, Below.refl _ _⟩
    rw [← hr.out]
    symm
    rw [decide_eq_false_iff_not]
    intro e
    have h1 := HL.out
    have h2 := HM.out
    rw [e] at h1
    omega

set_option maxRecDepth 100000 in
set_option maxHeartbeats 1000000 in
theorem ref0_EqBatch {A B : Option Addr} {n c m d : Nat} {xs ys : List TxD} (a1 b1 a2 b2 : Int) (w : World) (hs : Sl w 4 A n (txsC xs)) (hn : n ≤ 9223372036854775807) (ht : Sl w 4 B m (txsC ys)) (hm : m ≤ 9223372036854775807) {r : Bool} (hr : Hid (decide (a1 = a2 ∧ b1 = b2 ∧ xs = ys) = r)) :
    Calls Try.prog 48 #[batchV a1 b1 A n c, batchV a2 b2 B m d] w fun e w' => e = .returned (.bool r) ∧ Below w.heap.size w w' := by
  have h1 := (hs.alloc (.cells #[.int .i64 a1, .int .i64 b1, .slice A n c] 36)).alloc (.cells #[.int .i64 a2, .int .i64 b2, .slice B m d] 36)
  have h2 := (ht.alloc (.cells #[.int .i64 a1, .int .i64 b1, .slice A n c] 36)).alloc (.cells #[.int .i64 a2, .int .i64 b2, .slice B m d] 36)
  have HB : Hid (Below w.heap.size w ((w.alloc (.cells #[.int .i64 a1, .int .i64 b1, .slice A n c] 36)).alloc (.cells #[.int .i64 a2, .int .i64 b2, .slice B m d] 36))) := (below_alloc w _).alloc (by simp) _
  clear hs ht
  unfold batchV
  by_cases e1 : a1 = a2
  · by_cases e2 : b1 = b2
    · subst e1
      subst e2
      have HX : Hid (decide (xs = ys) = r) := by have := hr.out; simpa [Hid] using this
      have HC := hide (ref0_EqTxs (c := c) (d := d) _ h1 hn h2 hm HX)
      clear h1 h2 hr
      go_enter Try.func48, Try.ntmps48
      go_wp2_with fail
      refine HC.out.mono ?_
      rintro e w1 ⟨rfl, hb1⟩
      have HB1 := hide (HB.out.trans (hb1.mono HB.out.size))
      clear hb1
      go_wp2_with fail
      go_ret
      exact ⟨rfl, HB1.out⟩
    · subst e1
      have HR : Hid (r = false) := by rw [Hid, ← hr.out]; simp [e2]
      have hb : (b1 == b2) = false := by simpa using e2
      clear e2 h1 h2 hr
      go_enter Try.func48, Try.ntmps48
      go_wp2_with fail
      go_ret
      exact ⟨ret_bool HR.out.symm, HB.out⟩
  · have HR : Hid (r = false) := by rw [Hid, ← hr.out]; simp [e1]
    have hb : (a1 == a2) = false := by simpa using e1
    clear e1 h1 h2 hr
    go_enter Try.func48, Try.ntmps48
    go_wp2_with fail
    go_ret
    exact ⟨ret_bool HR.out.symm, HB.out⟩
set_option maxRecDepth 100000 in
set_option maxHeartbeats 1000000 in
theorem ref0_CopyTxs {A : Option Addr} {n c : Nat} {l : List TxD} (w : World) (hs : Sl w 4 A n (txsC l)) (hn : n ≤ 2000000000000) :
    Calls Try.prog 61 #[.slice A n c] w fun e w' => ∃ v, e = .returned v ∧ w'.ownsRow w.heap.size 101 4 v n (txsC l) ∧ Below w.heap.size w w' := by
  obtain ⟨i0, hi, hz0, hz1, hz2⟩ := info_parts Try.infoTx
  have HL := hide hs.txlen
  go_enter Try.func61, Try.ntmps61
  go_wp2_with fail
  go_loopw [3, 4] (fun v i wr => ∃ k : Nat, k ≤ n ∧ i = .int .i64 k ∧ wr.ownsRow w.heap.size 101 4 v k (txsC (l.take k)) ∧ Below w.heap.size w wr) (fun _ i _ => n - (intOf i).toNat)
  case atStart => exact ⟨0, Nat.zero_le _, rfl, World.ownsRow_nil _ _ _ _, Below.refl _ _⟩
  case round =>
    obtain ⟨k, hk, rfl, hown, hb⟩ := hrel
    obtain ⟨wo, rfl⟩ : ∃ wo : World, wo = wr := ⟨_, rfl⟩
    have hsz := hb.size
    by_cases hlt : k < n
    · obtain ⟨b, off, t, rfl, HU, q0, q1, q2, q3, _⟩ := (hs.below hb).tx hlt
      clear hs
      obtain ⟨s, q, tk, tv⟩ := t
      simp only at q0 q1 q2 q3
      obtain ⟨A2, c2, rfl⟩ := own_slice hown
      go_wp2_with (at_builtin; refine wpList_append_any _ rfl _ _ 34 rfl w.heap.size 101 i0 _ 4 48 Try.underlying34 hi hz0 hz1 hz2 rfl (by decide) _ _ _ rfl (hown.alloc _) _ 1 1 (txsC [⟨s, q, tk, tv⟩]) rfl (Sl.of_blk (size := 4) (n := 1) (Blk.new wo 101 #[.int .i64 s, .int .i64 q, .string tk, .string tv]) rfl) (txsC_one _) (by unfold maxLen; omega) (by omega) (by simp; omega) ?_)
      intro v' w1 hown' hg
      have hown2 : w1.ownsRow w.heap.size 101 4 v' (k + 1) (txsC (l.take (k + 1))) := by rw [take_at HU.out, txsC_append]; exact hown'
      have hb2 : Below w.heap.size w w1 := (hb.alloc hsz _).grown hg (by simp; omega) (fun g hg' => (hown.lt g hg').1)
      clear hown' hg hown hb q0 q1 q2 q3
      go_wp2_with fail
      go_roundw
      case rel => exact ⟨k + 1, by omega, by go_num, hown2, hb2⟩
      case measure => simp [intOf]; omega
    · obtain rfl : k = n := by omega
      rw [List.take_of_length_le (by rw [HL.out]; exact Nat.le_refl _)] at hown
      go_wp2_with fail
      go_ret
      exact ⟨_, rfl, hown, hb⟩
set_option maxRecDepth 100000 in
set_option maxHeartbeats 1000000 in
theorem ref0_CopyBatch {A : Option Addr} {n c : Nat} {l : List TxD} (a b : Int) (w : World) (hs : Sl w 4 A n (txsC l)) (hn : n ≤ 2000000000000) :
    Calls Try.prog 35 #[batchV a b A n c] w fun e w' => ∃ v, e = .returned (.agg #[.int .i64 a, .int .i64 b, v]) ∧ w'.ownsRow w.heap.size 101 4 v n (txsC l) ∧ Below w.heap.size w w' := by
  have HS := hide hs
  clear hs
  have kr := ((Blk.new2 w (.cells #[.int .i64 a, .int .i64 b, .slice A n c] 36) 36 #[.int .i64 0, .int .i64 0, .slice none 0 0])).alloc (.cells #[.int .i64 a, .int .i64 b, .slice A n c] 36)
  have kx := Blk.new2 (w.alloc (.cells #[.int .i64 a, .int .i64 b, .slice A n c] 36)) (.cells #[.int .i64 0, .int .i64 0, .slice none 0 0] 36) 36 #[.int .i64 a, .int .i64 b, .slice A n c]
  rw [show (w.alloc (.cells #[.int .i64 a, .int .i64 b, .slice A n c] 36)).heap.size = w.heap.size + 1 by simp] at kx
  have hb0 : Below w.heap.size w (((w.alloc (.cells #[.int .i64 a, .int .i64 b, .slice A n c] 36)).alloc (.cells #[.int .i64 0, .int .i64 0, .slice none 0 0] 36)).alloc (.cells #[.int .i64 a, .int .i64 b, .slice A n c] 36)) := ((below_alloc w _).alloc (by simp) _).alloc (by simp; omega) _
  have hs1 := HS.out.below hb0
  unfold batchV
  go_enter Try.func35, Try.ntmps35
  go_wp2_with fail
  generalize ((w.alloc (.cells #[.int .i64 a, .int .i64 b, .slice A n c] 36)).alloc (.cells #[.int .i64 0, .int .i64 0, .slice none 0 0] 36)).alloc (.cells #[.int .i64 a, .int .i64 b, .slice A n c] 36) = w1 at kr kx hb0 hs1 ⊢
  refine (ref0_CopyTxs _ hs1 hn).mono ?_
  rintro e w2 ⟨v, rfl, hown, hb2⟩
  have hsz := kx.lt
  have kr2 := kr.later hb2
  have kx2 := kx.later hb2
  have hb3 := hb0.trans (hb2.mono (by omega))
  obtain ⟨Av, cv, rfl⟩ := own_slice hown
  have x0 : w2.cell? ⟨w.heap.size + 1 + 1, 0, none⟩ = some (.int .i64 a) := kx2.at_ rfl
  have x1 : w2.cell? ⟨w.heap.size + 1 + 1, 1, none⟩ = some (.int .i64 b) := kx2.at_ rfl
  have x2 : w2.cell? ⟨w.heap.size + 1 + 1, 2, none⟩ = some (.slice A n c) := kx2.at_ rfl
  have fx := kx2.frozen 2
  have r0 : w2.cell? ⟨w.heap.size + 1, 0, none⟩ = some (.int .i64 0) := kr2.at_ rfl
  have r1 : w2.cell? ⟨w.heap.size + 1, 1, none⟩ = some (.int .i64 0) := kr2.at_ rfl
  have r2 : w2.cell? ⟨w.heap.size + 1, 2, none⟩ = some (.slice none 0 0) := kr2.at_ rfl
  have f0 := kr2.frozen 0
  have f1 := kr2.frozen 1
  have f2 := kr2.frozen 2
  clear kr kx hb0 hs1 hb2
  go_wp2_with fail
  have ne1 := own_blk_ne hown kx2 (by decide)
  have ne2 := own_blk_ne hown kr2 (by decide)
  have KRF : Blk ((((w2.setCell ⟨w.heap.size + 1 + 1, 2, none⟩ (.slice Av n cv)).setCell ⟨w.heap.size + 1, 0, none⟩ (.int .i64 a)).setCell ⟨w.heap.size + 1, 1, none⟩ (.int .i64 b)).setCell ⟨w.heap.size + 1, 2, none⟩ (.slice Av n cv)) (w.heap.size + 1) 36 #[.int .i64 a, .int .i64 b, .slice Av n cv] :=
    (((kr2.far (by simp) _).set_ 0 _).set_ 1 _).set_ 2 _
  have OWF := (((hown.kept (grown_set w2 (w.heap.size + 1 + 1) 2 (.slice Av n cv)) (Or.inr ne1)).kept (grown_set _ (w.heap.size + 1) 0 (.int .i64 a)) (Or.inr ne2)).kept (grown_set _ (w.heap.size + 1) 1 (.int .i64 b)) (Or.inr ne2)).kept (grown_set _ (w.heap.size + 1) 2 (.slice Av n cv)) (Or.inr ne2)
  have HBF := (((hb3.setCell (p := ⟨w.heap.size + 1 + 1, 2, none⟩) (by simp; omega) (.slice Av n cv)).setCell (p := ⟨w.heap.size + 1, 0, none⟩) (by simp) (.int .i64 a)).setCell (p := ⟨w.heap.size + 1, 1, none⟩) (by simp) (.int .i64 b)).setCell (p := ⟨w.heap.size + 1, 2, none⟩) (by simp) (.slice Av n cv)
  clear kx2 kr2 hown hb3 x0 x1 x2 fx r0 r1 r2 f0 f1 f2
  generalize (((w2.setCell ⟨w.heap.size + 1 + 1, 2, none⟩ (.slice Av n cv)).setCell ⟨w.heap.size + 1, 0, none⟩ (.int .i64 a)).setCell ⟨w.heap.size + 1, 1, none⟩ (.int .i64 b)).setCell ⟨w.heap.size + 1, 2, none⟩ (.slice Av n cv) = wf at KRF OWF HBF ⊢
  have r0 : wf.cell? ⟨w.heap.size + 1, 0, none⟩ = some (.int .i64 a) := KRF.at_ rfl
  have r1 : wf.cell? ⟨w.heap.size + 1, 1, none⟩ = some (.int .i64 b) := KRF.at_ rfl
  have r2 : wf.cell? ⟨w.heap.size + 1, 2, none⟩ = some (.slice Av n cv) := KRF.at_ rfl
  exact bodyPost_ret (v := .agg #[.int .i64 a, .int .i64 b, .slice Av n cv]) (by simp [results, Try.results35, go_sem, r0, r1, r2]) rfl ⟨_, rfl, own_mono OWF (by omega), HBF⟩
end Go.Proofs.Ytebaojcfmkobjaa
/-
  Contracts: which headers and certificates may be: the reference's.
-/
namespace Go.Proofs.Ytebaojcfmkobjaa
open Go.RowKit

set_option maxHeartbeats 400000 in
theorem ref2_May (n : Int) (w : World) : Calls Try.prog 51 #[.int .i64 n] w fun e w' => e = .returned (.bool (isC n)) ∧ w = w' := by
  go_enter Try.func51, Try.ntmps51
  go_wp2
  all_goals go_ret
  all_goals exact ⟨ret_bool (by rw [Bool.eq_iff_iff]; simp [isC]; try omega), rfl⟩
set_option maxHeartbeats 400000 in
theorem ref2_Quorum (n : Int) (w : World) (h1 : 1 ≤ n) (h2 : n ≤ 16) : Calls Try.prog 78 #[.int .i64 n] w fun e w' => e = .returned (.int .i64 (qC n)) ∧ w = w' := by
  have HQ : Hid (qC n = 2 * (n / 3) + 1) := by unfold Hid qC; rfl
  go_enter Try.func78, Try.ntmps78
  go_wp2
  all_goals go_ret
  all_goals exact ⟨ret_int HQ.out.symm, rfl⟩
set_option maxHeartbeats 400000 in
theorem ref0_Digest (n : Int) (w : World) : Calls Try.prog 52 #[.int .i64 n] w fun e w' => e = .returned (.bool (digO n)) ∧ w = w' := by
  go_enter Try.func52, Try.ntmps52
  go_wp2
  all_goals go_ret
  all_goals exact ⟨ret_bool (by rw [Bool.eq_iff_iff]; simp [digO]; try omega), rfl⟩
set_option maxRecDepth 100000 in
set_option maxHeartbeats 1000000 in
theorem ref0_Between {A : Option Addr} {n c : Nat} {l : List Int} (lo hi : Int) (w : World) (hs : Sl w 1 A n (ints l)) (hn : n ≤ 9223372036854775807) {r : Bool} (hr : Hid (betw lo hi l = r)) :
    Calls Try.prog 47 #[.slice A n c, .int .i64 lo, .int .i64 hi] w fun e w' => e = .returned (.bool r) ∧ w = w' := by
  have HL := hide hs.ilen
  go_enter Try.func47, Try.ntmps47
  go_wp2_with fail
  go_loop [7] (fun i => ∃ k : Nat, k ≤ n ∧ i = .int .i64 k ∧ Hid (∀ x ∈ l.take k, lo ≤ x ∧ x ≤ hi)) (fun i => n - (intOf i).toNat)
  case atStart => exact ⟨0, Nat.zero_le _, rfl, by simp [Hid]⟩
  case round =>
    obtain ⟨k, hk, rfl, HT⟩ := hrel
    by_cases hlt : k < n
    · obtain ⟨b, off, u, rfl, HU, hc, _⟩ := hs.int hlt
      clear hs
      by_cases h1 : lo ≤ u
      · by_cases h2 : u ≤ hi
        · have HT2 : Hid (∀ x ∈ l.take (k + 1), lo ≤ x ∧ x ≤ hi) := by
            intro x hx
            rw [take_at HU.out, List.mem_append] at hx
            rcases hx with hx | hx
            · exact HT.out x hx
            · simp at hx; subst hx; exact ⟨h1, h2⟩
          go_wp2_with fail
          go_round
          case rel => exact ⟨k + 1, by omega, by go_num, HT2⟩
          case measure => simp [intOf]; omega
        · have HR : Hid (r = false) := by rw [Hid, ← hr.out]; exact betw_bad HU.out (by omega)
          go_wp2_with fail
          go_ret
          exact ⟨ret_bool HR.out.symm, rfl⟩
      · have HR : Hid (r = false) := by rw [Hid, ← hr.out]; exact betw_bad HU.out (by omega)
        go_wp2_with fail
        go_ret
        exact ⟨ret_bool HR.out.symm, rfl⟩
    · obtain rfl : k = n := by omega
      have HR : Hid (r = true) := by
        have h1 := HT.out
        rw [List.take_of_length_le (by rw [HL.out]; exact Nat.le_refl _)] at h1
        rw [Hid, ← hr.out, betw_iff]; exact h1
      go_wp2_with fail
      go_ret
      exact ⟨ret_bool HR.out.symm, rfl⟩
set_option maxRecDepth 100000 in
set_option maxHeartbeats 1000000 in
theorem ref0_Rising {A : Option Addr} {n c : Nat} {l : List Int} (w : World) (hs : Sl w 1 A n (ints l)) (hn : n ≤ 9223372036854775807) {r : Bool} (hr : Hid (sortedI l = r)) :
    Calls Try.prog 79 #[.slice A n c] w fun e w' => e = .returned (.bool r) ∧ ∃ q, w' = w.drewN q := by
  have HL := hide hs.ilen
  go_enter Try.func79, Try.ntmps79
  go_wp2_with fail
  go_loopw [3] (fun i wr => ∃ (k q : Nat), (k + 1 ≤ n ∨ k = 0) ∧ i = .int .i64 ((k : Int) + 1) ∧ Hid (sortedI (l.take (k + 1)) = true) ∧ wr = w.drewN q) (fun i _ => n - (intOf i).toNat)
  case atStart => exact ⟨0, 0, Or.inr rfl, by simp, sortedI_one l, rfl⟩
  case round =>
    obtain ⟨k, q, hk, rfl, HS, rfl⟩ := hrel
    by_cases hlt : k + 1 < n
    · obtain ⟨b, off, u, rfl, HU, hc, _⟩ := hs.int hlt
      obtain ⟨b', off', y, e, HY, hy, _⟩ := hs.int (k := k) (by omega)
      injection e with e
      injection e with e1 e2
      subst e1; subst e2
      have hi0 : (0 : Int) ≤ (k : Int) + 1 := by omega
      have hi1 : (k : Int) + 1 < (n : Int) := by omega
      have hi2 : (0 : Int) ≤ (k : Int) := by omega
      have hi3 : (k : Int) < (n : Int) := by omega
      have ht1 : ((k : Int) + 1).toNat = k + 1 := by omega
      clear hs hk
      by_cases hyu : y < u
      · have HS2 : Hid (sortedI (l.take (k + 2)) = true) := sortedI_next HY.out HU.out HS.out hyu
        go_wp2_with fail
        go_quiet (fail)
        go_wp2_with fail
        go_roundw
        case rel => exact ⟨k + 1, q + nq, by omega, by go_num, HS2, rfl⟩
        case measure => simp [intOf]; omega
      · have HR : Hid (r = false) := by rw [Hid, ← hr.out]; exact sortedI_bad HY.out HU.out hyu
        go_wp2_with fail
        go_quiet (fail)
        go_wp2_with fail
        go_ret
        exact ⟨ret_bool HR.out.symm, q + nq, World.drewN_drewN w q nq⟩
    · have HR : Hid (r = true) := by
        have h2 := HS.out
        rw [List.take_of_length_le (by rw [HL.out]; omega)] at h2
        rw [Hid, ← hr.out]; exact h2
      clear hs
      go_wp2_with fail
      go_ret
      exact ⟨ret_bool HR.out.symm, q, rfl⟩
set_option maxHeartbeats 400000 in
theorem ref0_Digests {A : Option Addr} {n c : Nat} {l : List Int} (w : World) (hs : Sl w 1 A n (ints l)) (hn : n ≤ 9223372036854775807) {r : Bool} (hr : Hid (betw 1 65536 l = r)) :
    Calls Try.prog 80 #[.slice A n c] w fun e w' => e = .returned (.bool r) ∧ w = w' := by
  go_enter Try.func80, Try.ntmps80
  go_wp2_with (go_at_call 47; refine (ref0_Between 1 65536 _ hs hn hr).mono ?_; rintro e w' ⟨rfl, rfl⟩)
  go_ret
  exact ⟨rfl, rfl⟩
set_option maxRecDepth 100000 in
set_option maxHeartbeats 1000000 in
theorem ref4_digests {A : Option Addr} {n c : Nat} {l : List Int} (m : Int) (w : World) (hs : Sl w 1 A n (ints l)) (hn : n ≤ 9223372036854775807) {r : Bool} (hr : Hid ((decide ((l.length : Int) ≤ m) && digs l) = r)) :
    Calls Try.prog 55 #[.slice A n c, .int .i64 m] w fun e w' => e = .returned (.bool r) ∧ ∃ q, w' = w.drewN q := by
  obtain ⟨x, HX⟩ : ∃ p, Hid (betw 1 65536 l = p) := ⟨_, rfl⟩
  obtain ⟨y, HY⟩ : ∃ p, Hid (sortedI l = p) := ⟨_, rfl⟩
  have HR : Hid (r = (decide ((n : Int) ≤ m) && (x && y))) := by rw [Hid, ← hr.out, hs.ilen, digs, rises, HX.out, HY.out]
  have HC := hide (ref0_Rising (c := c) w hs hn HY)
  have HD := hide (ref0_Digests (c := c) w hs hn HX)
  clear hs hr
  by_cases h1 : (n : Int) ≤ m
  · cases x with
    | true =>
      go_enter Try.func55, Try.ntmps55
      go_wp2_with fail
      refine HD.out.mono ?_
      rintro e w' ⟨rfl, rfl⟩
      go_wp2_with fail
      refine HC.out.mono ?_
      rintro e w' ⟨rfl, q, rfl⟩
      go_wp2_with fail
      go_ret
      exact ⟨ret_bool (by rw [HR.out]; simp [h1]), q, rfl⟩
    | false =>
      go_enter Try.func55, Try.ntmps55
      go_wp2_with fail
      refine HD.out.mono ?_
      rintro e w' ⟨rfl, rfl⟩
      go_wp2_with fail
      go_ret
      exact ⟨ret_bool (by rw [HR.out]; simp), 0, rfl⟩
  · go_enter Try.func55, Try.ntmps55
    go_wp2_with fail
    go_ret
    exact ⟨ret_bool (by rw [HR.out]; simp; omega), 0, rfl⟩
set_option maxRecDepth 100000 in
set_option maxHeartbeats 2000000 in
theorem ref4_Wide {A1 A2 : Option Addr} {n1 c1 n2 c2 : Nat} (x : HdD) (w : World) (hs : Sl w 1 A1 n1 (ints x.bs)) (ht : Sl w 1 A2 n2 (ints x.ps)) (hn1 : n1 ≤ 9223372036854775807) (hn2 : n2 ≤ 9223372036854775807) {r : Bool} (hr : Hid (formH 16 x = r)) :
    Calls Try.prog 40 #[hdV x.a x.r A1 n1 c1 A2 n2 c2] w fun e w' => e = .returned (.bool r) ∧ Below w.heap.size w w' := by
  have HL2 := hide ht.ilen
  have s1 := hs.alloc (.cells #[.int .i64 x.a, .int .i64 x.r, .slice A1 n1 c1, .slice A2 n2 c2] 38)
  have t1 := ht.alloc (.cells #[.int .i64 x.a, .int .i64 x.r, .slice A1 n1 c1, .slice A2 n2 c2] 38)
  have HB := hide (below_alloc' w (.cells #[.int .i64 x.a, .int .i64 x.r, .slice A1 n1 c1, .slice A2 n2 c2] 38))
  obtain ⟨a, ra, bs, ps⟩ := x
  simp only at HL2 s1 t1 HB ⊢
  obtain ⟨p, HP⟩ : ∃ p, Hid ((decide ((bs.length : Int) ≤ 8) && digs bs) = p) := ⟨_, rfl⟩
  obtain ⟨q, HQ⟩ : ∃ p, Hid ((decide ((ps.length : Int) ≤ 16) && digs ps) = p) := ⟨_, rfl⟩
  have HALL : Hid (r = true ↔ (1 ≤ a ∧ a ≤ 16) ∧ (1 ≤ ra ∧ ra ≤ 1099511627776) ∧ p = true ∧ q = true ∧ (1 < ra ∨ n2 = 0)) := by
    rw [Hid, ← hr.out, formH_iff, ← HP.out, ← HQ.out, ← HL2.out]
    simp only [Bool.and_eq_true, decide_eq_true_eq]
    constructor
    · rintro ⟨h1, h2, h3, h4, h5, h6, h7⟩; exact ⟨h1, h2, ⟨by omega, h4⟩, ⟨h6, h5⟩, h7⟩
    · rintro ⟨h1, h2, ⟨h3, h4⟩, ⟨h6, h5⟩, h7⟩; exact ⟨h1, h2, by omega, h4, h5, h6, h7⟩
  have C1 := hide (ref4_digests (c := c1) 8 _ s1 hn1 HP)
  have C2 : Hid (∀ k, Calls Try.prog 55 #[.slice A2 n2 c2, .int .i64 16] ((w.alloc (.cells #[.int .i64 a, .int .i64 ra, .slice A1 n1 c1, .slice A2 n2 c2] 38)).drewN k) fun e w' => e = .returned (.bool q) ∧ ∃ q, w' = ((w.alloc (.cells #[.int .i64 a, .int .i64 ra, .slice A1 n1 c1, .slice A2 n2 c2] 38)).drewN k).drewN q) := fun k => ref4_digests 16 _ (t1.drewN k) hn2 HQ
  clear hs ht hr s1 t1 HP HQ HL2
  unfold hdV
  go_enter Try.func40, Try.ntmps40
  go_wp2_with (first
    | (go_at_call 55; ((with_reducible refine C1.out.mono ?_); rintro e w' ⟨rfl, q1, rfl⟩))
    | (go_at_call 55; ((with_reducible refine (C2.out _).mono ?_); rintro e w' ⟨rfl, q2, rfl⟩)))
  all_goals
    go_ret
    refine ⟨ret_bool ?_, by first | exact HB.out | exact below_drewN HB.out _ | exact below_drewN (below_drewN HB.out _) _⟩
    rw [Bool.eq_iff_iff, HALL.out]
    first
      | (simp [*]; done)
      | (simp [*]; omega)
      | omega
set_option maxRecDepth 100000 in
set_option maxHeartbeats 2000000 in
theorem ref4_Header {A1 A2 : Option Addr} {n1 c1 n2 c2 : Nat} (n : Int) (x : HdD) (w : World) (hs : Sl w 1 A1 n1 (ints x.bs)) (ht : Sl w 1 A2 n2 (ints x.ps)) (hn1 : n1 ≤ 9223372036854775807) (hn2 : n2 ≤ 9223372036854775807) {r : Bool} (hr : Hid (mayH n x = r)) :
    Calls Try.prog 53 #[hdV x.a x.r A1 n1 c1 A2 n2 c2, .int .i64 n] w fun e w' => e = .returned (.bool r) ∧ Below w.heap.size w w' := by
  have HL2 := hide ht.ilen
  have s1 := hs.alloc (.cells #[.int .i64 x.a, .int .i64 x.r, .slice A1 n1 c1, .slice A2 n2 c2] 38)
  have t1 := ht.alloc (.cells #[.int .i64 x.a, .int .i64 x.r, .slice A1 n1 c1, .slice A2 n2 c2] 38)
  have HB := hide (below_alloc' w (.cells #[.int .i64 x.a, .int .i64 x.r, .slice A1 n1 c1, .slice A2 n2 c2] 38))
  obtain ⟨a, ra, bs, ps⟩ := x
  simp only at HL2 s1 t1 HB ⊢
  obtain ⟨p, HP⟩ : ∃ p, Hid ((decide ((bs.length : Int) ≤ 8) && digs bs) = p) := ⟨_, rfl⟩
  obtain ⟨q, HQ⟩ : ∃ p, Hid ((decide ((ps.length : Int) ≤ n) && digs ps) = p) := ⟨_, rfl⟩
  obtain ⟨c, HC⟩ : ∃ p, Hid (isC n = p) := ⟨_, rfl⟩
  obtain ⟨k, HK⟩ : ∃ p, Hid (qC n = p) := ⟨_, rfl⟩
  have HALL : Hid (r = true ↔ c = true ∧ (1 ≤ a ∧ a ≤ n) ∧ (1 ≤ ra ∧ ra ≤ 1099511627776) ∧ p = true ∧ q = true ∧ (ra = 1 → n2 = 0) ∧ (ra ≠ 1 → k ≤ (n2 : Int))) := by
    rw [Hid, ← hr.out, mayH_iff, formH_iff, ← HP.out, ← HQ.out, ← HL2.out, ← HC.out, ← HK.out]
    simp only [Bool.and_eq_true, decide_eq_true_eq]
    constructor
    · rintro ⟨h0, ⟨h1, h2, h3, h4, h5, h6, h7⟩, h8⟩; exact ⟨h0, h1, h2, ⟨by omega, h4⟩, ⟨h6, h5⟩, by omega, by omega⟩
    · rintro ⟨h0, h1, h2, ⟨h3, h4⟩, ⟨h6, h5⟩, h7, h8⟩; exact ⟨h0, ⟨h1, h2, by omega, h4, h5, h6, by omega⟩, by omega⟩
  have C1 := hide (ref4_digests (c := c1) 8 _ s1 hn1 HP)
  have C2 : Hid (∀ k, Calls Try.prog 55 #[.slice A2 n2 c2, .int .i64 n] ((w.alloc (.cells #[.int .i64 a, .int .i64 ra, .slice A1 n1 c1, .slice A2 n2 c2] 38)).drewN k) fun e w' => e = .returned (.bool q) ∧ ∃ q, w' = ((w.alloc (.cells #[.int .i64 a, .int .i64 ra, .slice A1 n1 c1, .slice A2 n2 c2] 38)).drewN k).drewN q) := fun k => ref4_digests n _ (t1.drewN k) hn2 HQ
  have CM := hide (fun w => ref2_May n w)
  rw [HC.out] at CM
  cases c with
  | false =>
    clear hs ht hr s1 t1 HP HQ HL2 HC HK C1 C2
    unfold hdV
    go_enter Try.func53, Try.ntmps53
    go_wp2_with (go_at_call 51; refine (CM.out _).mono ?_; rintro e w' ⟨rfl, rfl⟩)
    go_ret
    refine ⟨ret_bool ?_, HB.out⟩
    rw [Bool.eq_iff_iff, HALL.out]
    simp
  | true =>
    obtain ⟨g1, g2, _⟩ := isC_iff.1 HC.out
    have CQ := hide (fun w => ref2_Quorum n w g1 g2)
    rw [HK.out] at CQ
    clear hs ht hr s1 t1 HP HQ HL2 HC HK
    unfold hdV
    by_cases hb : (1 ≤ a ∧ a ≤ n) ∧ (1 ≤ ra ∧ ra ≤ 1099511627776) ∧ p = true
    case neg =>
      have HR : Hid (r = false) := by
        rw [Hid, Bool.eq_false_iff, Ne, HALL.out]
        rintro ⟨_, h1, h2, h3, _⟩
        exact hb ⟨h1, h2, h3⟩
      clear HALL
      cases p
      all_goals
        simp at hb
        go_enter Try.func53, Try.ntmps53
        go_wp2_with (first
          | (go_at_call 51; refine (CM.out _).mono ?_; rintro e w' ⟨rfl, rfl⟩)
          | (go_at_call 55; ((with_reducible refine C1.out.mono ?_); rintro e w' ⟨rfl, q1, rfl⟩)))
        all_goals first
          | (exfalso; omega)
          | (go_ret
             exact ⟨ret_bool HR.out.symm, by first | exact HB.out | exact below_drewN HB.out _⟩)
    case pos =>
      obtain ⟨⟨a1, a2⟩, ⟨b1, b2⟩, rfl⟩ := hb
      cases q with
      | false =>
        have HR : Hid (r = false) := by rw [Hid, Bool.eq_false_iff, Ne, HALL.out]; simp
        clear HALL
        go_enter Try.func53, Try.ntmps53
        go_wp2_with (first
          | (go_at_call 51; refine (CM.out _).mono ?_; rintro e w' ⟨rfl, rfl⟩)
          | (go_at_call 55; ((with_reducible refine C1.out.mono ?_); rintro e w' ⟨rfl, q1, rfl⟩))
          | (go_at_call 55; ((with_reducible refine (C2.out _).mono ?_); rintro e w' ⟨rfl, q2, rfl⟩)))
        go_ret
        exact ⟨ret_bool HR.out.symm, by first | exact below_drewN HB.out _ | exact below_drewN (below_drewN HB.out _) _⟩
      | true =>
        by_cases h1 : ra = 1
        · have HR : Hid (r = decide ((n2 : Int) = 0)) := by rw [Hid, Bool.eq_iff_iff, HALL.out]; simp [a1, a2, h1]
          have hra : (ra == 1) = true := by simpa using h1
          clear h1 HALL
          go_enter Try.func53, Try.ntmps53
          go_wp2_with (first
            | (go_at_call 51; refine (CM.out _).mono ?_; rintro e w' ⟨rfl, rfl⟩)
            | (go_at_call 55; ((with_reducible refine C1.out.mono ?_); rintro e w' ⟨rfl, q1, rfl⟩))
            | (go_at_call 55; ((with_reducible refine (C2.out _).mono ?_); rintro e w' ⟨rfl, q2, rfl⟩)))
          go_ret
          exact ⟨ret_bool (by rw [HR.out, Bool.eq_iff_iff]; simp), by first | exact below_drewN HB.out _ | exact below_drewN (below_drewN HB.out _) _⟩
        · have HR : Hid (r = decide (k ≤ (n2 : Int))) := by rw [Hid, Bool.eq_iff_iff, HALL.out]; simp [a1, a2, b1, b2, h1]
          have hra : (ra == 1) = false := by simpa using h1
          clear h1 HALL
          go_enter Try.func53, Try.ntmps53
          go_wp2_with (first
            | (go_at_call 51; refine (CM.out _).mono ?_; rintro e w' ⟨rfl, rfl⟩)
            | (go_at_call 55; ((with_reducible refine C1.out.mono ?_); rintro e w' ⟨rfl, q1, rfl⟩))
            | (go_at_call 55; ((with_reducible refine (C2.out _).mono ?_); rintro e w' ⟨rfl, q2, rfl⟩)))
          go_quiet ((go_at_call 78; exact quiet_add_left (CQ.out _)))
          go_wp2_with fail
          go_ret
          exact ⟨ret_bool HR.out.symm, by first | exact below_drewN HB.out _ | exact below_drewN (below_drewN HB.out _) _ | exact below_drewN (below_drewN (below_drewN HB.out _) _) _⟩
end Go.Proofs.Ytebaojcfmkobjaa
