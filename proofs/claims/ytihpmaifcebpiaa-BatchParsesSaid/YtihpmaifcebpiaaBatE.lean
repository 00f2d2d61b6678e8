/-
  Contracts: lists of transactions, batches: compared, copied, written over: the references' and the statements' helpers.
-/
import Derived.Test.YtihpmaifcebpiaaBatP
import Derived.Test.YtihpmaifcebpiaaTxEq
namespace Go.Proofs.Ytihpmaifcebpiaa
open Go.RowKit

set_option maxRecDepth 100000 in
set_option maxHeartbeats 1000000 in
theorem ref0_EqTxs {A B : Option Addr} {n c m d : Nat} {xs ys : List TxD} (w : World) (hs : Sl w 4 A n (txsC xs)) (hn : n ≤ 9223372036854775807) (ht : Sl w 4 B m (txsC ys)) (hm : m ≤ 9223372036854775807) {r : Bool} (hr : Hid (decide (xs = ys) = r)) :
    Calls Try.prog 59 #[.slice A n c, .slice B m d] w fun e w' => e = .returned (.bool r) ∧ Below w.heap.size w w' := by
  have HL := hide hs.txlen
  have HM := hide ht.txlen
  by_cases hne : n = m
  · subst hne
    go_enter Try.func59, Try.ntmps59
    go_wp2_with fail
    go_loopw [5] (fun i wr => ∃ k : Nat, k ≤ n ∧ i = .int .i64 k ∧ Hid (xs.take k = ys.take k) ∧ ∃ q, wr = w.drewN q) (fun i _ => n - (intOf i).toNat)
    case atStart => exact ⟨0, Nat.zero_le _, rfl, by simp [Hid], 0, rfl⟩
    case round =>
      obtain ⟨k, hk, rfl, HX, q, rfl⟩ := hrel
      by_cases hlt : k < n
      · obtain ⟨b, off, u, rfl, HU, c0, c1, c2, c3, _⟩ := hs.tx hlt
        obtain ⟨b', off', v, rfl, HV, d0, d1, d2, d3, _⟩ := ht.tx hlt
        clear hs ht
        obtain ⟨s1, q1, k1, v1⟩ := u
        obtain ⟨s2, q2, k2, v2⟩ := v
        simp only at c0 c1 c2 c3 d0 d1 d2 d3
        by_cases he : (⟨s1, q1, k1, v1⟩ : TxD) = ⟨s2, q2, k2, v2⟩
        · have hcmp := fun w => run_neq_tx s1 q1 s2 q2 k1 v1 k2 v2 w (r := true) (by simpa using he)
          have hgd := run_guard_tx
          have HX2 : Hid (xs.take (k + 1) = ys.take (k + 1)) := by rw [Hid, take_at HU.out, take_at HV.out, HX.out, he]
          clear he
          go_wp2_with fail
          go_quiet (fail)
          go_wp2_with fail
          go_roundw
          case rel => exact ⟨k + 1, by omega, by go_num, HX2, q + nq, rfl⟩
          case measure => simp [intOf]; omega
        · have hcmp := fun w => run_neq_tx s1 q1 s2 q2 k1 v1 k2 v2 w (r := false) (by simpa using he)
          have hgd := run_guard_tx
          have HE : Hid (r = false) := by
            rw [Hid, ← hr.out, decide_eq_false_iff_not]
            rintro rfl
            have e := HU.out.symm.trans HV.out
            injection e with e
            exact he e
          clear he
          go_wp2_with fail
          go_quiet (fail)
          go_wp2_with fail
          go_ret
          exact ⟨ret_bool HE.out.symm, below_drewN (below_drewN (Below.refl _ _) q) nq⟩
      · obtain rfl : k = n := by omega
        go_wp2_with fail
        go_ret
        refine ⟨ret_bool ?_, below_drewN (Below.refl _ _) q⟩
        have hx := HX.out
        rw [List.take_of_length_le (by rw [HL.out]; exact Nat.le_refl _), List.take_of_length_le (by rw [HM.out]; exact Nat.le_refl _)] at hx
        rw [← hr.out]; simp [hx]
  · have hne' : ((n : Int) != (m : Int)) = true := by simp; omega
    go_enter Try.func59, Try.ntmps59
    go_wp2_with fail
    go_ret
    refine ⟨ret_bool ?_, Below.refl _ _⟩
    rw [← hr.out]
    symm
    rw [decide_eq_false_iff_not]
    intro e
    have h1 := HL.out
    have h2 := HM.out
    rw [e] at h1
    omega

set_option maxRecDepth 100000 in
set_option maxHeartbeats 1000000 in
theorem ref0_EqBatch {A B : Option Addr} {n c m d : Nat} {xs ys : List TxD} (a1 b1 a2 b2 : Int) (w : World) (hs : Sl w 4 A n (txsC xs)) (hn : n ≤ 9223372036854775807) (ht : Sl w 4 B m (txsC ys)) (hm : m ≤ 9223372036854775807) {r : Bool} (hr : Hid (decide (a1 = a2 ∧ b1 = b2 ∧ xs = ys) = r)) :
    Calls Try.prog 25 #[batchV a1 b1 A n c, batchV a2 b2 B m d] w fun e w' => e = .returned (.bool r) ∧ Below w.heap.size w w' := by
  have h1 := (hs.alloc (.cells #[.int .i64 a1, .int .i64 b1, .slice A n c] 26)).alloc (.cells #[.int .i64 a2, .int .i64 b2, .slice B m d] 26)
  have h2 := (ht.alloc (.cells #[.int .i64 a1, .int .i64 b1, .slice A n c] 26)).alloc (.cells #[.int .i64 a2, .int .i64 b2, .slice B m d] 26)
  have HB : Hid (Below w.heap.size w ((w.alloc (.cells #[.int .i64 a1, .int .i64 b1, .slice A n c] 26)).alloc (.cells #[.int .i64 a2, .int .i64 b2, .slice B m d] 26))) := (below_alloc w _).alloc (by simp) _
  clear hs ht
  unfold batchV
  by_cases e1 : a1 = a2
  · by_cases e2 : b1 = b2
    · subst e1
      subst e2
      have HX : Hid (decide (xs = ys) = r) := by have := hr.out; simpa [Hid] using this
      have HC := hide (ref0_EqTxs (c := c) (d := d) _ h1 hn h2 hm HX)
      clear h1 h2 hr
      go_enter Try.func25, Try.ntmps25
      go_wp2_with fail
      refine HC.out.mono ?_
      rintro e w1 ⟨rfl, hb1⟩
      have HB1 := hide (HB.out.trans (hb1.mono HB.out.size))
      clear hb1
      go_wp2_with fail
      go_ret
      exact ⟨rfl, HB1.out⟩
    · subst e1
      have HR : Hid (r = false) := by rw [Hid, ← hr.out]; simp [e2]
      have hb : (b1 == b2) = false := by simpa using e2
      clear e2 h1 h2 hr
      go_enter Try.func25, Try.ntmps25
      go_wp2_with fail
      go_ret
      exact ⟨ret_bool HR.out.symm, HB.out⟩
  · have HR : Hid (r = false) := by rw [Hid, ← hr.out]; simp [e1]
    have hb : (a1 == a2) = false := by simpa using e1
    clear e1 h1 h2 hr
    go_enter Try.func25, Try.ntmps25
    go_wp2_with fail
    go_ret
    exact ⟨ret_bool HR.out.symm, HB.out⟩
set_option maxRecDepth 100000 in
set_option maxHeartbeats 1000000 in
theorem ref0_CopyTxs {A : Option Addr} {n c : Nat} {l : List TxD} (w : World) (hs : Sl w 4 A n (txsC l)) (hn : n ≤ 2000000000000) :
    Calls Try.prog 70 #[.slice A n c] w fun e w' => ∃ v, e = .returned v ∧ w'.ownsRow w.heap.size 67 4 v n (txsC l) ∧ Below w.heap.size w w' := by
  obtain ⟨i0, hi, hz0, hz1, hz2⟩ := info_parts Try.infoTx
  have HL := hide hs.txlen
  go_enter Try.func70, Try.ntmps70
  go_wp2_with fail
  go_loopw [3, 4] (fun v i wr => ∃ k : Nat, k ≤ n ∧ i = .int .i64 k ∧ wr.ownsRow w.heap.size 67 4 v k (txsC (l.take k)) ∧ Below w.heap.size w wr) (fun _ i _ => n - (intOf i).toNat)
  case atStart => exact ⟨0, Nat.zero_le _, rfl, World.ownsRow_nil _ _ _ _, Below.refl _ _⟩
  case round =>
    obtain ⟨k, hk, rfl, hown, hb⟩ := hrel
    obtain ⟨wo, rfl⟩ : ∃ wo : World, wo = wr := ⟨_, rfl⟩
    have hsz := hb.size
    by_cases hlt : k < n
    · obtain ⟨b, off, t, rfl, HU, q0, q1, q2, q3, _⟩ := (hs.below hb).tx hlt
      clear hs
      obtain ⟨s, q, tk, tv⟩ := t
      simp only at q0 q1 q2 q3
      obtain ⟨A2, c2, rfl⟩ := own_slice hown
      go_wp2_with (at_builtin; refine wpList_append_any _ rfl _ _ 24 rfl w.heap.size 67 i0 _ 4 48 Try.underlying24 hi hz0 hz1 hz2 rfl (by decide) _ _ _ rfl (hown.alloc _) _ 1 1 (txsC [⟨s, q, tk, tv⟩]) rfl (Sl.of_blk (size := 4) (n := 1) (Blk.new wo 67 #[.int .i64 s, .int .i64 q, .string tk, .string tv]) rfl) (txsC_one _) (by unfold maxLen; omega) (by omega) (by simp; omega) ?_)
      intro v' w1 hown' hg
      have hown2 : w1.ownsRow w.heap.size 67 4 v' (k + 1) (txsC (l.take (k + 1))) := by rw [take_at HU.out, txsC_append]; exact hown'
      have hb2 : Below w.heap.size w w1 := (hb.alloc hsz _).grown hg (by simp; omega) (fun g hg' => (hown.lt g hg').1)
      clear hown' hg hown hb q0 q1 q2 q3
      go_wp2_with fail
      go_roundw
      case rel => exact ⟨k + 1, by omega, by go_num, hown2, hb2⟩
      case measure => simp [intOf]; omega
    · obtain rfl : k = n := by omega
      rw [List.take_of_length_le (by rw [HL.out]; exact Nat.le_refl _)] at hown
      go_wp2_with fail
      go_ret
      exact ⟨_, rfl, hown, hb⟩
set_option maxRecDepth 100000 in
set_option maxHeartbeats 1000000 in
theorem ref0_CopyBatch {A : Option Addr} {n c : Nat} {l : List TxD} (a b : Int) (w : World) (hs : Sl w 4 A n (txsC l)) (hn : n ≤ 2000000000000) :
    Calls Try.prog 39 #[batchV a b A n c] w fun e w' => ∃ v, e = .returned (.agg #[.int .i64 a, .int .i64 b, v]) ∧ w'.ownsRow w.heap.size 67 4 v n (txsC l) ∧ Below w.heap.size w w' := by
  have HS := hide hs
  clear hs
  have kr := ((Blk.new2 w (.cells #[.int .i64 a, .int .i64 b, .slice A n c] 26) 26 #[.int .i64 0, .int .i64 0, .slice none 0 0])).alloc (.cells #[.int .i64 a, .int .i64 b, .slice A n c] 26)
  have kx := Blk.new2 (w.alloc (.cells #[.int .i64 a, .int .i64 b, .slice A n c] 26)) (.cells #[.int .i64 0, .int .i64 0, .slice none 0 0] 26) 26 #[.int .i64 a, .int .i64 b, .slice A n c]
  rw [show (w.alloc (.cells #[.int .i64 a, .int .i64 b, .slice A n c] 26)).heap.size = w.heap.size + 1 by simp] at kx
  have hb0 : Below w.heap.size w (((w.alloc (.cells #[.int .i64 a, .int .i64 b, .slice A n c] 26)).alloc (.cells #[.int .i64 0, .int .i64 0, .slice none 0 0] 26)).alloc (.cells #[.int .i64 a, .int .i64 b, .slice A n c] 26)) := ((below_alloc w _).alloc (by simp) _).alloc (by simp; omega) _
  have hs1 := HS.out.below hb0
  unfold batchV
  go_enter Try.func39, Try.ntmps39
  go_wp2_with fail
  generalize ((w.alloc (.cells #[.int .i64 a, .int .i64 b, .slice A n c] 26)).alloc (.cells #[.int .i64 0, .int .i64 0, .slice none 0 0] 26)).alloc (.cells #[.int .i64 a, .int .i64 b, .slice A n c] 26) = w1 at kr kx hb0 hs1 ⊢
  refine (ref0_CopyTxs _ hs1 hn).mono ?_
  rintro e w2 ⟨v, rfl, hown, hb2⟩
  have hsz := kx.lt
  have kr2 := kr.later hb2
  have kx2 := kx.later hb2
  have hb3 := hb0.trans (hb2.mono (by omega))
  obtain ⟨Av, cv, rfl⟩ := own_slice hown
  have x0 : w2.cell? ⟨w.heap.size + 1 + 1, 0, none⟩ = some (.int .i64 a) := kx2.at_ rfl
  have x1 : w2.cell? ⟨w.heap.size + 1 + 1, 1, none⟩ = some (.int .i64 b) := kx2.at_ rfl
  have x2 : w2.cell? ⟨w.heap.size + 1 + 1, 2, none⟩ = some (.slice A n c) := kx2.at_ rfl
  have fx := kx2.frozen 2
  have r0 : w2.cell? ⟨w.heap.size + 1, 0, none⟩ = some (.int .i64 0) := kr2.at_ rfl
  have r1 : w2.cell? ⟨w.heap.size + 1, 1, none⟩ = some (.int .i64 0) := kr2.at_ rfl
  have r2 : w2.cell? ⟨w.heap.size + 1, 2, none⟩ = some (.slice none 0 0) := kr2.at_ rfl
  have f0 := kr2.frozen 0
  have f1 := kr2.frozen 1
  have f2 := kr2.frozen 2
  clear kr kx hb0 hs1 hb2
  go_wp2_with fail
  have ne1 := own_blk_ne hown kx2 (by decide)
  have ne2 := own_blk_ne hown kr2 (by decide)
  have KRF : Blk ((((w2.setCell ⟨w.heap.size + 1 + 1, 2, none⟩ (.slice Av n cv)).setCell ⟨w.heap.size + 1, 0, none⟩ (.int .i64 a)).setCell ⟨w.heap.size + 1, 1, none⟩ (.int .i64 b)).setCell ⟨w.heap.size + 1, 2, none⟩ (.slice Av n cv)) (w.heap.size + 1) 26 #[.int .i64 a, .int .i64 b, .slice Av n cv] :=
    (((kr2.far (by simp) _).set_ 0 _).set_ 1 _).set_ 2 _
  have OWF := (((hown.kept (grown_set w2 (w.heap.size + 1 + 1) 2 (.slice Av n cv)) (Or.inr ne1)).kept (grown_set _ (w.heap.size + 1) 0 (.int .i64 a)) (Or.inr ne2)).kept (grown_set _ (w.heap.size + 1) 1 (.int .i64 b)) (Or.inr ne2)).kept (grown_set _ (w.heap.size + 1) 2 (.slice Av n cv)) (Or.inr ne2)
  have HBF := (((hb3.setCell (p := ⟨w.heap.size + 1 + 1, 2, none⟩) (by simp; omega) (.slice Av n cv)).setCell (p := ⟨w.heap.size + 1, 0, none⟩) (by simp) (.int .i64 a)).setCell (p := ⟨w.heap.size + 1, 1, none⟩) (by simp) (.int .i64 b)).setCell (p := ⟨w.heap.size + 1, 2, none⟩) (by simp) (.slice Av n cv)
  clear kx2 kr2 hown hb3 x0 x1 x2 fx r0 r1 r2 f0 f1 f2
  generalize (((w2.setCell ⟨w.heap.size + 1 + 1, 2, none⟩ (.slice Av n cv)).setCell ⟨w.heap.size + 1, 0, none⟩ (.int .i64 a)).setCell ⟨w.heap.size + 1, 1, none⟩ (.int .i64 b)).setCell ⟨w.heap.size + 1, 2, none⟩ (.slice Av n cv) = wf at KRF OWF HBF ⊢
  have r0 : wf.cell? ⟨w.heap.size + 1, 0, none⟩ = some (.int .i64 a) := KRF.at_ rfl
  have r1 : wf.cell? ⟨w.heap.size + 1, 1, none⟩ = some (.int .i64 b) := KRF.at_ rfl
  have r2 : wf.cell? ⟨w.heap.size + 1, 2, none⟩ = some (.slice Av n cv) := KRF.at_ rfl
  exact bodyPost_ret (v := .agg #[.int .i64 a, .int .i64 b, .slice Av n cv]) (by simp [results, Try.results39, go_sem, r0, r1, r2]) rfl ⟨_, rfl, own_mono OWF (by omega), HBF⟩
set_option maxRecDepth 100000 in
set_option maxHeartbeats 1000000 in
theorem law0_Txs {v : Value} {n base : Nat} {cs : List Value} (w : World) (h : w.ownsRow base 67 4 v n cs) (hbase : base ≤ w.heap.size) (hn : n ≤ 1099511627776) :
    Calls Try.prog 26 #[v] w fun e w' => e = .returned (.tuple #[]) ∧ Below base w w' := by
  obtain ⟨i0, hi, hz0, hz1, hz2⟩ := info_parts Try.infoTx
  obtain ⟨A, c, rfl⟩ := own_slice h
  go_enter Try.func26, Try.ntmps26
  go_wp2_with fail
  go_loopw [2] (fun i wr => ∃ (k : Nat) (ys : List Value), k ≤ n ∧ i = .int .i64 k ∧ wr.ownsRow base 67 4 (.slice A n c) n ys ∧ Below base w wr) (fun i _ => n - (intOf i).toNat)
  case atStart => exact ⟨0, cs, Nat.zero_le _, rfl, h, Below.refl _ _⟩
  case round =>
    obtain ⟨k, ys, hk, rfl, hown, hb⟩ := hrel
    have hsz := hb.size
    by_cases hlt : k < n
    · have hl := hown.1
      obtain ⟨g, cap, hv, hgb, hgl⟩ := hown.form (by omega)
      injection hv with hA _ hc
      subst hA
      subst hc
      have hc0 : ∀ j, j < 4 → ∃ u, wr.cell? ⟨g, k * 4 + j, none⟩ = some u := fun j hj => by
        rw [hown.cellAt (k * 4 + j) (by omega)]
        exact ⟨_, List.getElem?_eq_getElem (by omega)⟩
      obtain ⟨u0, q0⟩ := hc0 0 (by omega)
      obtain ⟨u1, q1⟩ := hc0 1 (by omega)
      obtain ⟨u2, q2⟩ := hc0 2 (by omega)
      obtain ⟨u3, q3⟩ := hc0 3 (by omega)
      rw [Nat.add_zero] at q0
      have f0 := hown.frozenAt (k * 4)
      have f1 := hown.frozenAt (k * 4 + 1)
      have f2 := hown.frozenAt (k * 4 + 2)
      have f3 := hown.frozenAt (k * 4 + 3)
      have HOWN := hide hown
      have HB := hide hb
      clear hown hb hc0
      go_wp2_with fail
      go_roundw
      case rel => exact ⟨k + 1, _, by omega, by go_num, ((((HOWN.out.stored (k * 4) _).1.stored (k * 4 + 1) _).1.stored (k * 4 + 2) _).1.stored (k * 4 + 3) _).1, below_set (below_set (below_set (below_set HB.out hgb _) hgb _) hgb _) hgb _⟩
      case measure => simp [intOf]; omega
    · obtain rfl : k = n := by omega
      go_wp2_with (at_builtin; refine wpList_append_any _ rfl _ _ 24 rfl base 67 i0 _ 4 48 Try.underlying24 hi hz0 hz1 hz2 rfl (by decide) _ _ _ rfl (hown.alloc _) _ 1 1 (txsC [⟨0, 0, ⟨#[]⟩, ⟨#[]⟩⟩]) rfl (Sl.of_blk (size := 4) (n := 1) (Blk.new wr 67 #[.int .i64 0, .int .i64 0, .string ⟨#[]⟩, .string ⟨#[]⟩]) rfl) (txsC_one _) (by unfold maxLen; omega) (by omega) (by simp; omega) ?_)
      intro v3 w3 _ hg3
      have hb4 : Below base w w3 := (hb.alloc (by omega) _).grown hg3 (by simp; omega) (fun g hg' => (hown.lt g hg').1)
      clear hg3 hown hb
      go_wp2_with fail
      go_end0
      exact ⟨rfl, hb4⟩
end Go.Proofs.Ytihpmaifcebpiaa
