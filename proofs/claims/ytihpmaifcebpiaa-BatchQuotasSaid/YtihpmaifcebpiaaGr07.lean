/-
  Texts joined: words and contracts that later texts use; lemmas alone, no conditions of a statement.
-/
import Derived.Test.YtihpmaifcebpiaaGr06
import Derived.Test.YtihpmaifcebpiaaGr02
import Derived.Test.YtihpmaifcebpiaaGr05
import Derived.Deep.RegionHeld3
import Derived.Deep.DrawnRows
set_option linter.unusedVariables false
set_option linter.unusedSimpArgs false
/-
  Contracts: lists of transactions, batches: compared, copied, written over: the references' and the statements' helpers.
-/
namespace Go.Proofs.Ytihpmaifcebpiaa
open Go.RowKit

set_option maxRecDepth 100000 in
set_option maxHeartbeats 1000000 in
theorem ref0_EqTxs {A B : Option Addr} {n c m d : Nat} {xs ys : List TxD} (w : World) (hs : Sl w 4 A n (txsC xs)) (hn : n ≤ 9223372036854775807) (ht : Sl w 4 B m (txsC ys)) (hm : m ≤ 9223372036854775807) {r : Bool} (hr : Hid (decide (xs = ys) = r)) :
    Calls Try.prog 59 #[.slice A n c, .slice B m d] w fun e w' => e = .returned (.bool r) ∧ Below w.heap.size w w' := by
  have HL := hide hs.txlen
  have HM := hide ht.txlen
  by_cases hne : n = m
  · subst hne
    go_enter Try.func59, Try.ntmps59
    go_wp2_with fail
    go_loopw [5] (fun i wr => ∃ k : Nat, k ≤ n ∧ i = .int .i64 k ∧ Hid (xs.take k = ys.take k) ∧ ∃ q, wr = w.drewN q) (fun i _ => n - (intOf i).toNat)
    case atStart => exact ⟨0, Nat.zero_le _, rfl, by simp [Hid], 0, rfl⟩
    case round =>
      obtain ⟨k, hk, rfl, HX, q, rfl⟩ := hrel
      by_cases hlt : k < n
      · obtain ⟨b, off, u, rfl, HU, c0, c1, c2, c3, _⟩ := hs.tx hlt
        obtain ⟨b', off', v, rfl, HV, d0, d1, d2, d3, _⟩ := ht.tx hlt
        clear hs ht
        obtain ⟨s1, q1, k1, v1⟩ := u
        obtain ⟨s2, q2, k2, v2⟩ := v
        simp only at c0 c1 c2 c3 d0 d1 d2 d3
        by_cases he : (⟨s1, q1, k1, v1⟩ : TxD) = ⟨s2, q2, k2, v2⟩
        · have hcmp := fun w => run_neq_tx s1 q1 s2 q2 k1 v1 k2 v2 w (r := true) (by simpa using he)
          have hgd := run_guard_tx
          have HX2 : Hid (xs.take (k + 1) = ys.take (k + 1)) := by rw [Hid, take_at HU.out, take_at HV.out, HX.out, he]
          clear he
          go_wp2_with fail
          go_quiet (fail)
          go_wp2_with fail
          go_roundw
          case rel => exact ⟨k + 1, by omega, by go_num, HX2, q + nq, rfl⟩
          case measure => simp [intOf]; omega
        · have hcmp := fun w => run_neq_tx s1 q1 s2 q2 k1 v1 k2 v2 w (r := false) (by simpa using he)
          have hgd := run_guard_tx
          have HE : Hid (r = false) := by
            rw [Hid, ← hr.out, decide_eq_false_iff_not]
            rintro rfl
            have e := HU.out.symm.trans HV.out
            injection e with e
            exact he e
          clear he
          go_wp2_with fail
          go_quiet (fail)
          go_wp2_with fail
          go_ret
          exact ⟨ret_bool HE.out.symm, below_drewN (below_drewN (Below.refl _ _) q) nq⟩
      · obtain rfl : k = n := by omega
        go_wp2_with fail
        go_ret
        refine ⟨ret_bool ?_, below_drewN (Below.refl _ _) q⟩
        have hx := HX.out
        rw [List.take_of_length_le (by rw [HL.out]; exact Nat.le_refl _), List.take_of_length_le (by rw [HM.out]; exact Nat.le_refl _)] at hx
        rw [← hr.out]; simp [hx]
  · have hne' : ((n : Int) != (m : Int)) = true := by simp; omega
    go_enter Try.func59, Try.ntmps59
    go_wp2_with fail
    go_ret
    refine ⟨ret_bool ?_, Below.refl _ _⟩
    rw [← hr.out]
    symm
    rw [decide_eq_false_iff_not]
    intro e
    have h1 := HL.out
    have h2 := HM.out
    rw [e] at h1
    omega

set_option maxRecDepth 100000 in
set_option maxHeartbeats 1000000 in
theorem ref0_EqBatch {A B : Option Addr} {n c m d : Nat} {xs ys : List TxD} (a1 b1 a2 b2 : Int) (w : World) (hs : Sl w 4 A n (txsC xs)) (hn : n ≤ 9223372036854775807) (ht : Sl w 4 B m (txsC ys)) (hm : m ≤ 9223372036854775807) {r : Bool} (hr : Hid (decide (a1 = a2 ∧ b1 = b2 ∧ xs = ys) = r)) :
    Calls Try.prog 25 #[batchV a1 b1 A n c, batchV a2 b2 B m d] w fun e w' => e = .returned (.bool r) ∧ Below w.heap.size w w' := by
  have h1 := (hs.alloc (.cells #[.int .i64 a1, .int .i64 b1, .slice A n c] 26)).alloc (.cells #[.int .i64 a2, .int .i64 b2, .slice B m d] 26)
  have h2 := (ht.alloc (.cells #[.int .i64 a1, .int .i64 b1, .slice A n c] 26)).alloc (.cells #[.int .i64 a2, .int .i64 b2, .slice B m d] 26)
  have HB : Hid (Below w.heap.size w ((w.alloc (.cells #[.int .i64 a1, .int .i64 b1, .slice A n c] 26)).alloc (.cells #[.int .i64 a2, .int .i64 b2, .slice B m d] 26))) := (below_alloc w _).alloc (by simp) _
  clear hs ht
  unfold batchV
  by_cases e1 : a1 = a2
  · by_cases e2 : b1 = b2
    · subst e1
      subst e2
      have HX : Hid (decide (xs = ys) = r) := by have := hr.out; simpa [Hid] using this
      have HC := hide (ref0_EqTxs (c := c) (d := d) _ h1 hn h2 hm HX)
      clear h1 h2 hr
      go_enter Try.func25, Try.ntmps25
      go_wp2_with fail
      refine HC.out.mono ?_
      rintro e w1 ⟨rfl, hb1⟩
      have HB1 := hide (HB.out.trans (hb1.mono HB.out.size))
      clear hb1
      go_wp2_with fail
      go_ret
      exact ⟨rfl, HB1.out⟩
    · subst e1
      have HR : Hid (r = false) := by rw [Hid, ← hr.out]; simp [e2]
      have hb : (b1 == b2) = false := by simpa using e2
      clear e2 h1 h2 hr
      go_enter Try.func25, Try.ntmps25
      go_wp2_with fail
      go_ret
      exact ⟨ret_bool HR.out.symm, HB.out⟩
  · have HR : Hid (r = false) := by rw [Hid, ← hr.out]; simp [e1]
    have hb : (a1 == a2) = false := by simpa using e1
    clear e1 h1 h2 hr
    go_enter Try.func25, Try.ntmps25
    go_wp2_with fail
    go_ret
    exact ⟨ret_bool HR.out.symm, HB.out⟩
set_option maxRecDepth 100000 in
set_option maxHeartbeats 1000000 in
theorem ref0_CopyTxs {A : Option Addr} {n c : Nat} {l : List TxD} (w : World) (hs : Sl w 4 A n (txsC l)) (hn : n ≤ 2000000000000) :
    Calls Try.prog 70 #[.slice A n c] w fun e w' => ∃ v, e = .returned v ∧ w'.ownsRow w.heap.size 67 4 v n (txsC l) ∧ Below w.heap.size w w' := by
  obtain ⟨i0, hi, hz0, hz1, hz2⟩ := info_parts Try.infoTx
  have HL := hide hs.txlen
  go_enter Try.func70, Try.ntmps70
  go_wp2_with fail
  go_loopw [3, 4] (fun v i wr => ∃ k : Nat, k ≤ n ∧ i = .int .i64 k ∧ wr.ownsRow w.heap.size 67 4 v k (txsC (l.take k)) ∧ Below w.heap.size w wr) (fun _ i _ => n - (intOf i).toNat)
  case atStart => exact ⟨0, Nat.zero_le _, rfl, World.ownsRow_nil _ _ _ _, Below.refl _ _⟩
  case round =>
    obtain ⟨k, hk, rfl, hown, hb⟩ := hrel
    obtain ⟨wo, rfl⟩ : ∃ wo : World, wo = wr := ⟨_, rfl⟩
    have hsz := hb.size
    by_cases hlt : k < n
    · obtain ⟨b, off, t, rfl, HU, q0, q1, q2, q3, _⟩ := (hs.below hb).tx hlt
      clear hs
      obtain ⟨s, q, tk, tv⟩ := t
      simp only at q0 q1 q2 q3
      obtain ⟨A2, c2, rfl⟩ := own_slice hown
      go_wp2_with (at_builtin; refine wpList_append_any _ rfl _ _ 24 rfl w.heap.size 67 i0 _ 4 48 Try.underlying24 hi hz0 hz1 hz2 rfl (by decide) _ _ _ rfl (hown.alloc _) _ 1 1 (txsC [⟨s, q, tk, tv⟩]) rfl (Sl.of_blk (size := 4) (n := 1) (Blk.new wo 67 #[.int .i64 s, .int .i64 q, .string tk, .string tv]) rfl) (txsC_one _) (by unfold maxLen; omega) (by omega) (by simp; omega) ?_)
      intro v' w1 hown' hg
      have hown2 : w1.ownsRow w.heap.size 67 4 v' (k + 1) (txsC (l.take (k + 1))) := by rw [take_at HU.out, txsC_append]; exact hown'
      have hb2 : Below w.heap.size w w1 := (hb.alloc hsz _).grown hg (by simp; omega) (fun g hg' => (hown.lt g hg').1)
      clear hown' hg hown hb q0 q1 q2 q3
      go_wp2_with fail
      go_roundw
      case rel => exact ⟨k + 1, by omega, by go_num, hown2, hb2⟩
      case measure => simp [intOf]; omega
    · obtain rfl : k = n := by omega
      rw [List.take_of_length_le (by rw [HL.out]; exact Nat.le_refl _)] at hown
      go_wp2_with fail
      go_ret
      exact ⟨_, rfl, hown, hb⟩
set_option maxRecDepth 100000 in
set_option maxHeartbeats 1000000 in
theorem ref0_CopyBatch {A : Option Addr} {n c : Nat} {l : List TxD} (a b : Int) (w : World) (hs : Sl w 4 A n (txsC l)) (hn : n ≤ 2000000000000) :
    Calls Try.prog 39 #[batchV a b A n c] w fun e w' => ∃ v, e = .returned (.agg #[.int .i64 a, .int .i64 b, v]) ∧ w'.ownsRow w.heap.size 67 4 v n (txsC l) ∧ Below w.heap.size w w' := by
  have HS := hide hs
  clear hs
  have kr := ((Blk.new2 w (.cells #[.int .i64 a, .int .i64 b, .slice A n c] 26) 26 #[.int .i64 0, .int .i64 0, .slice none 0 0])).alloc (.cells #[.int .i64 a, .int .i64 b, .slice A n c] 26)
  have kx := Blk.new2 (w.alloc (.cells #[.int .i64 a, .int .i64 b, .slice A n c] 26)) (.cells #[.int .i64 0, .int .i64 0, .slice none 0 0] 26) 26 #[.int .i64 a, .int .i64 b, .slice A n c]
  rw [show (w.alloc (.cells #[.int .i64 a, .int .i64 b, .slice A n c] 26)).heap.size = w.heap.size + 1 by simp] at kx
  have hb0 : Below w.heap.size w (((w.alloc (.cells #[.int .i64 a, .int .i64 b, .slice A n c] 26)).alloc (.cells #[.int .i64 0, .int .i64 0, .slice none 0 0] 26)).alloc (.cells #[.int .i64 a, .int .i64 b, .slice A n c] 26)) := ((below_alloc w _).alloc (by simp) _).alloc (by simp; omega) _
  have hs1 := HS.out.below hb0
  unfold batchV
  go_enter Try.func39, Try.ntmps39
  go_wp2_with fail
  generalize ((w.alloc (.cells #[.int .i64 a, .int .i64 b, .slice A n c] 26)).alloc (.cells #[.int .i64 0, .int .i64 0, .slice none 0 0] 26)).alloc (.cells #[.int .i64 a, .int .i64 b, .slice A n c] 26) = w1 at kr kx hb0 hs1 ⊢
  refine (ref0_CopyTxs _ hs1 hn).mono ?_
  rintro e w2 ⟨v, rfl, hown, hb2⟩
  have hsz := kx.lt
  have kr2 := kr.later hb2
  have kx2 := kx.later hb2
  have hb3 := hb0.trans (hb2.mono (by omega))
  obtain ⟨Av, cv, rfl⟩ := own_slice hown
  have x0 : w2.cell? ⟨w.heap.size + 1 + 1, 0, none⟩ = some (.int .i64 a) := kx2.at_ rfl
  have x1 : w2.cell? ⟨w.heap.size + 1 + 1, 1, none⟩ = some (.int .i64 b) := kx2.at_ rfl
  have x2 : w2.cell? ⟨w.heap.size + 1 + 1, 2, none⟩ = some (.slice A n c) := kx2.at_ rfl
  have fx := kx2.frozen 2
  have r0 : w2.cell? ⟨w.heap.size + 1, 0, none⟩ = some (.int .i64 0) := kr2.at_ rfl
  have r1 : w2.cell? ⟨w.heap.size + 1, 1, none⟩ = some (.int .i64 0) := kr2.at_ rfl
  have r2 : w2.cell? ⟨w.heap.size + 1, 2, none⟩ = some (.slice none 0 0) := kr2.at_ rfl
  have f0 := kr2.frozen 0
  have f1 := kr2.frozen 1
  have f2 := kr2.frozen 2
  clear kr kx hb0 hs1 hb2
  go_wp2_with fail
  have ne1 := own_blk_ne hown kx2 (by decide)
  have ne2 := own_blk_ne hown kr2 (by decide)
  have KRF : Blk ((((w2.setCell ⟨w.heap.size + 1 + 1, 2, none⟩ (.slice Av n cv)).setCell ⟨w.heap.size + 1, 0, none⟩ (.int .i64 a)).setCell ⟨w.heap.size + 1, 1, none⟩ (.int .i64 b)).setCell ⟨w.heap.size + 1, 2, none⟩ (.slice Av n cv)) (w.heap.size + 1) 26 #[.int .i64 a, .int .i64 b, .slice Av n cv] :=
    (((kr2.far (by simp) _).set_ 0 _).set_ 1 _).set_ 2 _
  have OWF := (((hown.kept (grown_set w2 (w.heap.size + 1 + 1) 2 (.slice Av n cv)) (Or.inr ne1)).kept (grown_set _ (w.heap.size + 1) 0 (.int .i64 a)) (Or.inr ne2)).kept (grown_set _ (w.heap.size + 1) 1 (.int .i64 b)) (Or.inr ne2)).kept (grown_set _ (w.heap.size + 1) 2 (.slice Av n cv)) (Or.inr ne2)
  have HBF := (((hb3.setCell (p := ⟨w.heap.size + 1 + 1, 2, none⟩) (by simp; omega) (.slice Av n cv)).setCell (p := ⟨w.heap.size + 1, 0, none⟩) (by simp) (.int .i64 a)).setCell (p := ⟨w.heap.size + 1, 1, none⟩) (by simp) (.int .i64 b)).setCell (p := ⟨w.heap.size + 1, 2, none⟩) (by simp) (.slice Av n cv)
  clear kx2 kr2 hown hb3 x0 x1 x2 fx r0 r1 r2 f0 f1 f2
  generalize (((w2.setCell ⟨w.heap.size + 1 + 1, 2, none⟩ (.slice Av n cv)).setCell ⟨w.heap.size + 1, 0, none⟩ (.int .i64 a)).setCell ⟨w.heap.size + 1, 1, none⟩ (.int .i64 b)).setCell ⟨w.heap.size + 1, 2, none⟩ (.slice Av n cv) = wf at KRF OWF HBF ⊢
  have r0 : wf.cell? ⟨w.heap.size + 1, 0, none⟩ = some (.int .i64 a) := KRF.at_ rfl
  have r1 : wf.cell? ⟨w.heap.size + 1, 1, none⟩ = some (.int .i64 b) := KRF.at_ rfl
  have r2 : wf.cell? ⟨w.heap.size + 1, 2, none⟩ = some (.slice Av n cv) := KRF.at_ rfl
  exact bodyPost_ret (v := .agg #[.int .i64 a, .int .i64 b, .slice Av n cv]) (by simp [results, Try.results39, go_sem, r0, r1, r2]) rfl ⟨_, rfl, own_mono OWF (by omega), HBF⟩
set_option maxRecDepth 100000 in
set_option maxHeartbeats 1000000 in
theorem law0_Txs {v : Value} {n base : Nat} {cs : List Value} (w : World) (h : w.ownsRow base 67 4 v n cs) (hbase : base ≤ w.heap.size) (hn : n ≤ 1099511627776) :
    Calls Try.prog 26 #[v] w fun e w' => e = .returned (.tuple #[]) ∧ Below base w w' := by
  obtain ⟨i0, hi, hz0, hz1, hz2⟩ := info_parts Try.infoTx
  obtain ⟨A, c, rfl⟩ := own_slice h
  go_enter Try.func26, Try.ntmps26
  go_wp2_with fail
  go_loopw [2] (fun i wr => ∃ (k : Nat) (ys : List Value), k ≤ n ∧ i = .int .i64 k ∧ wr.ownsRow base 67 4 (.slice A n c) n ys ∧ Below base w wr) (fun i _ => n - (intOf i).toNat)
  case atStart => exact ⟨0, cs, Nat.zero_le _, rfl, h, Below.refl _ _⟩
  case round =>
    obtain ⟨k, ys, hk, rfl, hown, hb⟩ := hrel
    have hsz := hb.size
    by_cases hlt : k < n
    · have hl := hown.1
      obtain ⟨g, cap, hv, hgb, hgl⟩ := hown.form (by omega)
      injection hv with hA _ hc
      subst hA
      subst hc
      have hc0 : ∀ j, j < 4 → ∃ u, wr.cell? ⟨g, k * 4 + j, none⟩ = some u := fun j hj => by
        rw [hown.cellAt (k * 4 + j) (by omega)]
        exact ⟨_, List.getElem?_eq_getElem (by omega)⟩
      obtain ⟨u0, q0⟩ := hc0 0 (by omega)
      obtain ⟨u1, q1⟩ := hc0 1 (by omega)
      obtain ⟨u2, q2⟩ := hc0 2 (by omega)
      obtain ⟨u3, q3⟩ := hc0 3 (by omega)
      rw [Nat.add_zero] at q0
      have f0 := hown.frozenAt (k * 4)
      have f1 := hown.frozenAt (k * 4 + 1)
      have f2 := hown.frozenAt (k * 4 + 2)
      have f3 := hown.frozenAt (k * 4 + 3)
      have HOWN := hide hown
      have HB := hide hb
      clear hown hb hc0
      go_wp2_with fail
      go_roundw
      case rel => exact ⟨k + 1, _, by omega, by go_num, ((((HOWN.out.stored (k * 4) _).1.stored (k * 4 + 1) _).1.stored (k * 4 + 2) _).1.stored (k * 4 + 3) _).1, below_set (below_set (below_set (below_set HB.out hgb _) hgb _) hgb _) hgb _⟩
      case measure => simp [intOf]; omega
    · obtain rfl : k = n := by omega
      go_wp2_with (at_builtin; refine wpList_append_any _ rfl _ _ 24 rfl base 67 i0 _ 4 48 Try.underlying24 hi hz0 hz1 hz2 rfl (by decide) _ _ _ rfl (hown.alloc _) _ 1 1 (txsC [⟨0, 0, ⟨#[]⟩, ⟨#[]⟩⟩]) rfl (Sl.of_blk (size := 4) (n := 1) (Blk.new wr 67 #[.int .i64 0, .int .i64 0, .string ⟨#[]⟩, .string ⟨#[]⟩]) rfl) (txsC_one _) (by unfold maxLen; omega) (by omega) (by simp; omega) ?_)
      intro v3 w3 _ hg3
      have hb4 : Below base w w3 := (hb.alloc (by omega) _).grown hg3 (by simp; omega) (fun g hg' => (hown.lt g hg').1)
      clear hg3 hown hb
      go_wp2_with fail
      go_end0
      exact ⟨rfl, hb4⟩
end Go.Proofs.Ytihpmaifcebpiaa
/-
  Contracts: numbers as texts: wire's and the reference's.
-/
namespace Go.Proofs.Ytihpmaifcebpiaa
open Go.RowKit

theorem numS_nat (m : Nat) : numS (m : Int) = tx (enc m) := by rw [numS, Int.toNat_natCast]
set_option maxRecDepth 100000 in
set_option maxHeartbeats 1000000 in
theorem wire_Texts {A : Option Addr} {n c : Nat} {xs : List Int} (w : World) (hs : Sl w 1 A n (ints xs)) (hn : n ≤ 1048576) (h0 : ∀ x ∈ xs, 0 ≤ x ∧ x ≤ 9223372036854775807) :
    Calls Try.prog 49 #[.slice A n c] w fun e w' => ∃ v', e = .returned v' ∧ w'.ownsRow w.heap.size 9 1 v' n (strs (xs.map numS)) ∧ Below w.heap.size w w' := by
  have HL := hide hs.ilen
  have H0 := hide h0
  clear h0
  obtain ⟨i0, hi, hz0, hz1, hz2⟩ := info_parts Try.infoStr
  go_enter Try.func49, Try.ntmps49
  go_wp2_with fail
  go_loopw [2, 7] (fun b i wr => ∃ k : Nat, k ≤ n ∧ i = .int .i64 k ∧ wr.ownsRow w.heap.size 9 1 b k (strs ((xs.map numS).take k)) ∧ Below w.heap.size w wr) (fun _ i _ => n - (intOf i).toNat)
  case atStart => exact ⟨0, Nat.zero_le _, rfl, World.ownsRow_nil _ _ _ _, Below.refl _ _⟩
  case round =>
    obtain ⟨k, hk, rfl, hown, hb⟩ := hrel
    have hsz := hb.size
    obtain ⟨wo, rfl⟩ : ∃ wo : World, wo = wr := ⟨_, rfl⟩
    obtain ⟨A2, c2, rfl⟩ := own_slice hown
    by_cases hlt : k < n
    · obtain ⟨b, off, u, rfl, HU, hc, _⟩ := hs.int hlt
      have hc' := cell_later hb hc
      obtain ⟨hu0, hu1⟩ := H0.out u (List.mem_of_getElem? HU.out)
      obtain ⟨m, rfl⟩ : ∃ m : Nat, u = (m : Int) := ⟨u.toNat, by omega⟩
      have hm : m ≤ 9223372036854775807 := by omega
      clear hc hs hu0 hu1
      have HO : Hid (strs ((xs.map numS).take (k + 1)) = strs ((xs.map numS).take k) ++ [.string (tx (enc m))]) := by
        rw [Hid, take_at (u := numS m) (by rw [List.getElem?_map, HU.out]; rfl)]; simp [strs, numS_nat]
      go_wp2_with fail
      refine (wire_num wo.heap.size _ m [] _ (World.ownsRow_nil _ _ _ _) (Nat.le_refl _) hm (by simp)).mono ?_
      rintro e w2 ⟨v2, rfl, hown2, hb2⟩
      rw [List.nil_append] at hown2
      obtain ⟨A3, c3, rfl⟩ := own_slice hown2
      have hcv := run_str_of_bytes (P := Try.prog) w2 27 9 5 Try.underlying27 Try.underlying5 Try.underlying9 (c := c3) (Sl.of_own hown2)
      obtain ⟨s, HS⟩ : ∃ s, Hid (tx (enc m) = s) := ⟨_, rfl⟩
      rw [HS.out] at hcv
      have hown3 := own_later hown hb2
      have hb3 := below_then hb hb2
      have hsz3 := hb3.size
      clear hown2 hb2 hown hb
      go_wp2_with (at_builtin; refine wpList_append_own _ rfl _ _ 78 rfl w.heap.size 9 i0 (.string ByteArray.empty) 1 16 Try.underlying78 hi hz0 hz1 hz2 rfl (by decide) _ _ _ rfl (hown3.alloc _) ⟨w2.heap.size, 0, none⟩ 1 1 [.string s] rfl rfl (news_one _ _ _) (one_str _) (by unfold maxLen; omega) (by omega) (by simp; omega) ?_)
      intro v4 w4 hown4 hg4 _
      have hb4 : Below w.heap.size w w4 := (hb3.alloc hsz3 _).grown hg4 (by simp; omega) (fun g hg' => (hown3.lt g hg').1)
      rw [← HS.out, ← HO.out] at hown4
      clear hg4 hown3 hb3 hcv
      go_wp2_with fail
      go_roundw
      case rel => exact ⟨k + 1, by omega, by go_num, hown4, hb4⟩
      case measure => simp [intOf]; omega
    · obtain rfl : k = n := by omega
      rw [List.take_of_length_le (by rw [List.length_map, HL.out]; exact Nat.le_refl _)] at hown
      go_wp2_with fail
      go_ret
      exact ⟨_, rfl, hown, hb⟩
set_option maxHeartbeats 400000 in
theorem ref4_num (n : Int) (w : World) (h0 : 0 ≤ n) (h1 : n ≤ 9223372036854775807) {s : ByteArray} (hs : Hid (numS n = s)) :
    Calls Try.prog 53 #[.int .i64 n] w fun e w' => e = .returned (.string s) ∧ Below w.heap.size w w' := by
  obtain ⟨m, rfl⟩ : ∃ m : Nat, n = (m : Int) := ⟨n.toNat, by omega⟩
  go_enter Try.func53, Try.ntmps53
  go_wp2_with fail
  refine (ref2_Num m _ (by omega)).mono ?_
  rintro e w2 ⟨v2, rfl, hown2, hb2⟩
  obtain ⟨A3, c3, rfl⟩ := own_slice hown2
  have hcv := run_str_of_bytes (P := Try.prog) w2 27 9 5 Try.underlying27 Try.underlying5 Try.underlying9 (c := c3) (Sl.of_own hown2)
  rw [← numS_nat, hs.out] at hcv
  clear hown2
  go_wp2_with fail
  go_ret
  exact ⟨rfl, hb2⟩
end Go.Proofs.Ytihpmaifcebpiaa
/-
  Contracts: a batch's bytes: the program's.
-/
namespace Go.Proofs.Ytihpmaifcebpiaa
open Go.RowKit
attribute [local go_sem ↓] Go.wp_at_zero Go.wp_at_succ

theorem tx_cells {w : World} {g : Nat} {s q : Int} {k v : ByteArray} (h : Blk w g 67 #[.int .i64 s, .int .i64 q, .string k, .string v]) :
    w.cell? ⟨g, 0, none⟩ = some (.int .i64 s) ∧ w.cell? ⟨g, 1, none⟩ = some (.int .i64 q) ∧ w.cell? ⟨g, 2, none⟩ = some (.string k) ∧ w.cell? ⟨g, 3, none⟩ = some (.string v) := ⟨h.at_ rfl, h.at_ rfl, h.at_ rfl, h.at_ rfl⟩
set_option maxRecDepth 100000 in
set_option maxHeartbeats 1000000 in
theorem batch_Bytes_no {A : Option Addr} {m c : Nat} {l : List TxD} (a n : Int) (w : World) (hs : Sl w 4 A m (txsC l)) (hn : m ≤ 9223372036854775807) (hz : TxZ l) (hr : mayB a n l = false) :
    Calls Try.prog 16 #[batchV a n A m c] w fun e w' => e = .returned (.tuple #[.slice none 0 0, .int .i64 1]) ∧ Below w.heap.size w w' := by
  have hb0 := below_alloc w (.cells #[.int .i64 a, .int .i64 n, .slice A m c] 26)
  have HC := hide (batch_May (c := c) a n _ (hs.below hb0) hn hz hr)
  have HB := hide hb0
  clear hb0 hz hs hr
  unfold batchV at HC ⊢
  go_enter Try.func16, Try.ntmps16
  go_wp2_with fail
  refine HC.out.mono ?_
  rintro e w1 ⟨rfl, hb1⟩
  have HB1 := hide (HB.out.trans (hb1.mono HB.out.size))
  clear hb1
  go_wp2_with fail
  go_ret2
  exact ⟨rfl, HB1.out⟩
set_option maxRecDepth 100000 in
set_option maxHeartbeats 4000000 in
theorem batch_Bytes_yes {A : Option Addr} {m c : Nat} {l : List TxD} (a n : Int) (w : World) (hs : Sl w 4 A m (txsC l)) (hz : TxZ l) (hr : mayB a n l = true) :
    Calls Try.prog 16 #[batchV a n A m c] w fun e w' => ∃ v', e = .returned (.tuple #[v', .int .i64 0]) ∧ w'.ownsRow w.heap.size 5 1 v' (batchB a n l).length (bytes8 (batchB a n l)) ∧ Below w.heap.size w w' := by
  have hall := mayB_iff.1 hr
  have hsz := batch_size hr
  have HL := hide hs.txlen
  have hm : m ≤ 8 := by rw [← HL.out]; exact hall.2.2.1.2
  have hm1 : 1 ≤ m := by rw [← HL.out]; exact hall.2.2.1.1
  obtain ⟨ha0, ha1⟩ := hall.1
  obtain ⟨hn0, hn1⟩ := hall.2.1
  have HT := hide hall.2.2.2
  have HSZ := hide hsz
  clear hall hsz
  obtain ⟨i0, hi, hz0, hz1, hz2⟩ := info_parts Try.infoStr
  have hb0 := below_alloc w (.cells #[.int .i64 a, .int .i64 n, .slice A m c] 26)
  have HBK := hide (Blk.new w 26 #[.int .i64 a, .int .i64 n, .slice A m c])
  have HC := hide (batch_May (c := c) a n _ (hs.below hb0) (by omega) hz hr)
  have HB := hide hb0
  have HS := hide hs
  clear hb0 hz hs hr
  unfold batchV at HC ⊢
  go_enter Try.func16, Try.ntmps16
  go_wp2_with fail
  refine HC.out.mono ?_
  rintro e w1 ⟨rfl, hb1⟩
  have HK := hide (HBK.out.later hb1)
  have HB1 := hide (HB.out.trans (hb1.mono HB.out.size))
  have hgw : w.heap.size < w1.heap.size := HK.out.lt
  have c0 : w1.cell? ⟨w.heap.size, 0, none⟩ = some (.int .i64 a) := HK.out.at_ rfl
  have c1 : w1.cell? ⟨w.heap.size, 1, none⟩ = some (.int .i64 n) := HK.out.at_ rfl
  clear hb1 HC HBK HB
  have kb : Blk (w1.alloc (.cells #[.string ⟨#[98, 97, 116, 99, 104]⟩] 9)) w1.heap.size 9 #[.string ⟨#[98, 97, 116, 99, 104]⟩] := Blk.new _ _ _
  have kn := Blk.new2 w1 (.cells #[.string ⟨#[98, 97, 116, 99, 104]⟩] 9) 3 #[.int .i64 a, .int .i64 n]
  have hsn : Sl _ 1 _ 2 (ints [a, n]) := Sl.of_blk (size := 1) (n := 2) kn rfl
  have hown0 := own_of_blk (base := w.heap.size) (size := 1) (n := 1) (kb.alloc (.cells #[.int .i64 a, .int .i64 n] 3)) (by omega) rfl (by omega)
  have hbl := (HB1.out.alloc HB1.out.size (.cells #[.string ⟨#[98, 97, 116, 99, 104]⟩] 9)).alloc (by simp; omega) (.cells #[.int .i64 a, .int .i64 n] 3)
  have HX0 : Hid (∀ x ∈ [a, n], 0 ≤ x ∧ x ≤ 9223372036854775807) := by intro x hx; simp at hx; omega
  clear kb kn
  go_wp2_with fail
  refine (wire_Texts _ hsn (by omega) HX0.out).mono ?_
  rintro e w2 ⟨v2, rfl, hown2, hb2⟩
  have hown3 := own_later hown0 hb2
  have hbx := hb2.size
  simp at hbx
  have hb3 := hbl.trans (hb2.mono (by simp; omega))
  obtain ⟨A2, c2, rfl⟩ := own_slice hown2
  have hs2 := Sl.of_own hown2
  have HK2 := hide ((HK.out.alloc (.cells #[.string ⟨#[98, 97, 116, 99, 104]⟩] 9)).alloc (.cells #[.int .i64 a, .int .i64 n] 3) |>.later hb2)
  clear hown0 hown2 hb2 hbl hsn
  go_wp2_with (at_builtin; refine wpList_append_any _ rfl _ _ 78 rfl w.heap.size 9 i0 (.string ByteArray.empty) 1 16 Try.underlying78 hi hz0 hz1 hz2 rfl (by decide) _ _ _ rfl hown3 A2 2 c2 (strs ([a, n].map numS)) rfl hs2 (strs_one _) (by unfold maxLen; omega) (by omega) (by omega) ?_)
  intro v4 w4 hown4 hg4
  have hk4 := HK2.out.grown hg4 (Ne.symm (own_blk_ne hown3 HK2.out (by decide)))
  have c2' : w4.cell? ⟨w.heap.size, 2, none⟩ = some (.slice A m c) := hk4.at_ rfl
  have hb4 : Below w.heap.size w w4 := hb3.grown hg4 (by omega) (fun g hg' => (hown3.lt g hg').1)
  have HO4 : Hid (w4.ownsRow w.heap.size 9 1 v4 [batchW, numS a, numS n].length (strs [batchW, numS a, numS n])) := hown4
  clear hown4 hg4 hown3 hb3 hs2 HK2 hk4 c0 c1
  go_wp2_with fail
  go_loopw [4, 21] (fun b i wr => ∃ (k : Nat) (ys : List ByteArray), k ≤ m ∧ i = .int .i64 k ∧ Hid (ys = batchW :: numS a :: numS n :: (l.take k).flatMap txT) ∧ ys.length ≤ 3 + 4 * k ∧ wr.ownsRow w.heap.size 9 1 b ys.length (strs ys) ∧ Below w.heap.size w wr) (fun _ i _ => m - (intOf i).toNat)
  case atStart => exact ⟨0, _, Nat.zero_le _, rfl, rfl, by simp, HO4.out, hb4⟩
  case round =>
    obtain ⟨k, ys, hk, rfl, HY, hyl, hown, hb⟩ := hrel
    obtain ⟨wo, rfl⟩ : ∃ wo : World, wo = wr := ⟨_, rfl⟩
    have hsz := hb.size
    clear hb4 HO4 c2'
    obtain ⟨A5, c5, rfl⟩ := own_slice hown
    by_cases hlt : k < m
    · obtain ⟨b, off, t, rfl, HU, q0, q1, q2, q3, _⟩ := (HS.out.below hb).tx hlt
      have htx := mayTx_iff.1 (HT.out t (List.mem_of_getElem? HU.out))
      obtain ⟨s, q, tk, tv⟩ := t
      obtain ⟨⟨hs0, hs1⟩, ⟨hq0, hq1⟩, _, _⟩ := htx
      simp only at q0 q1 q2 q3 hs0 hs1 hq0 hq1
      have HX2 : Hid (∀ x ∈ [s, q], 0 ≤ x ∧ x ≤ 9223372036854775807) := by intro x hx; simp at hx; omega
      go_wp2_with fail
      have kt := Blk.new wo 67 #[.int .i64 s, .int .i64 q, .string tk, .string tv]
      have ownt := hown.alloc (.cells #[.int .i64 s, .int .i64 q, .string tk, .string tv] 67)
      have hbt : Below w.heap.size w (wo.alloc (.cells #[.int .i64 s, .int .i64 q, .string tk, .string tv] 67)) := hb.alloc hsz _
      generalize wo.alloc (.cells #[.int .i64 s, .int .i64 q, .string tk, .string tv] 67) = wt at kt ownt hbt ⊢
      obtain ⟨gt, hgt⟩ : ∃ gt, wo.heap.size = gt := ⟨_, rfl⟩
      rw [hgt] at kt ⊢
      have hsz' := hbt.size
      have k0 : wt.cell? ⟨gt, 0, none⟩ = some (.int .i64 s) := kt.at_ rfl
      have k1 : wt.cell? ⟨gt, 1, none⟩ = some (.int .i64 q) := kt.at_ rfl
      have k2 : wt.cell? ⟨gt, 2, none⟩ = some (.string tk) := kt.at_ rfl
      have k3 : wt.cell? ⟨gt, 3, none⟩ = some (.string tv) := kt.at_ rfl
      clear hown hb q0 q1 q2 q3 hgt
      go_region_held3 (fun w' => w'.cell? ⟨gt, 0, none⟩ = some (.int .i64 s) ∧ w'.cell? ⟨gt, 1, none⟩ = some (.int .i64 q) ∧ w'.cell? ⟨gt, 2, none⟩ = some (.string tk) ∧ w'.cell? ⟨gt, 3, none⟩ = some (.string tv))
        (first | exact tx_cells kt8 | exact tx_cells kt7 | exact tx_cells (kt7.alloc _) | exact tx_cells kt6 | exact tx_cells (kt6.alloc _) | go_keep)
        ((first
          | (go_at_call 49; refine (wire_Texts _ (xs := [s, q]) (Sl.two_int (by go_simp) (by go_simp)) (by omega) HX2.out).mono ?_; rintro e w6 ⟨v6, rfl, hown6, hb6⟩; obtain ⟨A6, c6, rfl⟩ := own_slice hown6; have own6 : w6.ownsRow w.heap.size 9 1 (.slice A5 ys.length c5) ys.length (strs ys) := own_later (by first | exact ownt.alloc _ | exact (ownt.alloc _).alloc _) hb6; have hbc : Below wt.heap.size wt w6 := Below.trans (by first | exact (((Below.refl _ _).alloc (Nat.le_refl _) _).drew) | exact ((((Below.refl _ _).alloc (Nat.le_refl _) _).alloc (by simp) _).drew)) (hb6.mono (by simp; try omega)); have kt6 := kt.later hbc; have hb6' := hbt.trans (hbc.mono hsz'); have hsz6 := hb6'.size)
          | (have _tok := hown7; refine step_append_any _ (by rfl) (.tmp 32) (.tmp 37) _ (by rfl) w.heap.size 9 i0 (.string ByteArray.empty) 1 16 Try.underlying78 hi hz0 hz1 hz2 (by rfl) (by omega) (.slice A7 (ys.length + 2) c7) (ys.length + 2) (strs ys ++ strs [numS s, numS q]) (by rfl) (by first | exact hown7 | exact hown7.alloc _) _ 2 2 (strs [tk, tv]) (by rfl) (by first | (refine Sl.two_str ?_ ?_ <;> (go_simp; done)) | (refine Sl.grown_old (Sl.below (Sl.two_str ?_ ?_) hb6) hg7 (B := wt.heap.size) ?_ (fun g hg' => (ownt.lt g hg').2) <;> first | (go_simp; done) | (intro b off e; injection e with e; injection e; omega)) | (refine Sl.grown_old (Sl.two_str ?_ ?_) hg7 (B := wt.heap.size) ?_ (fun g hg' => (ownt.lt g hg').2) <;> first | (go_simp; done) | (intro b off e; injection e with e; injection e; have := hbc.size; omega))) (strs_one _) (by unfold maxLen; omega) (by omega) (by first | exact hsz7 | (simp; omega)) ?_; intro v8 w8 hown8 hg8; have hb8 : Below w.heap.size w w8 := (by first | exact hb7.grown hg8 (by omega) (fun g hg' => (hown7.lt g hg').1) | exact (hb7.alloc hsz7 _).grown hg8 (by simp; omega) (fun g hg' => (hown7.lt g hg').1)); have kt8 : Blk w8 gt 67 #[.int .i64 s, .int .i64 q, .string tk, .string tv] := (by first | exact kt7.grown hg8 (Ne.symm (own_blk_ne hown7 kt7 (by decide))) | exact (kt7.alloc _).grown hg8 (Ne.symm (own_blk_ne hown7 kt7 (by decide)))))
          | (have _tok := hown6; refine step_append_any _ (by rfl) (.tmp 25) (.tmp 31) _ (by rfl) w.heap.size 9 i0 (.string ByteArray.empty) 1 16 Try.underlying78 hi hz0 hz1 hz2 (by rfl) (by omega) (.slice A5 ys.length c5) ys.length (strs ys) (by rfl) (by first | exact own6 | exact own6.alloc _) A6 2 c6 (strs [numS s, numS q]) (by rfl) (by first | exact Sl.of_own hown6 | exact (Sl.of_own hown6).alloc _) (strs_one _) (by unfold maxLen; omega) (by omega) (by first | exact hsz6 | (simp; omega)) ?_; intro v7 w7 hown7 hg7; obtain ⟨A7, c7, rfl⟩ := own_slice hown7; have hb7 : Below w.heap.size w w7 := (by first | exact hb6'.grown hg7 (by omega) (fun g hg' => (own6.lt g hg').1) | exact (hb6'.alloc hsz6 _).grown hg7 (by simp; omega) (fun g hg' => (own6.lt g hg').1)); have kt7 : Blk w7 gt 67 #[.int .i64 s, .int .i64 q, .string tk, .string tv] := (by first | exact kt6.grown hg7 (Ne.symm (own_blk_ne own6 kt6 (by decide))) | exact (kt6.alloc _).grown hg7 (Ne.symm (own_blk_ne own6 kt6 (by decide)))); have hsz7 := hb7.size)
          | fail))
      all_goals
        have own9 : w8.ownsRow w.heap.size 9 1 v8 (ys ++ txT ⟨s, q, tk, tv⟩).length (strs (ys ++ txT ⟨s, q, tk, tv⟩)) := by
          have e : strs (ys ++ txT ⟨s, q, tk, tv⟩) = strs ys ++ strs [numS s, numS q] ++ strs [tk, tv] := by simp [strs, txT]
          rw [e, List.length_append]; exact hown8
        have HY2 : Hid (ys ++ txT ⟨s, q, tk, tv⟩ = batchW :: numS a :: numS n :: (l.take (k + 1)).flatMap txT) := by
          rw [Hid, take_at HU.out, HY.out, List.flatMap_append]; simp
        have hyl2 : (ys ++ txT ⟨s, q, tk, tv⟩).length ≤ 3 + 4 * (k + 1) := by rw [List.length_append]; simp [txT]; omega
        clear hown8 hg8 kt8 hown7 hg7 kt7 own6 hown6 hb6 hbc kt6 hb6' hb7 kt ownt hbt k0 k1 k2 k3
        go_wp2_with fail
        go_roundw
        case rel => exact ⟨k + 1, _, by omega, by go_num, HY2, hyl2, own9, hb8⟩
        case measure => simp [intOf]; omega
    · obtain rfl : k = m := by omega
      have HF : Hid (ys = batchT a n l) := by
        have := HY.out
        rw [List.take_of_length_le (by rw [HL.out]; exact Nat.le_refl _)] at this
        exact this
      have hPB : (putB ys).length ≤ 1048576 := by rw [HF.out]; have := HSZ.out.2; rw [batchB] at this; omega
      go_wp2_with fail
      refine (wire_Put _ (Sl.of_own hown) (by omega) hPB).mono ?_
      rintro e w6 ⟨v6, rfl, hown6, hb6⟩
      have hb7 := below_then hb hb6
      have hown7 := own_mono hown6 hsz
      clear hown6 hb6 hown
      go_wp2_with fail
      go_ret2
      refine ⟨_, rfl, ?_, hb7⟩
      rw [batchB, ← HF.out]
      exact hown7
end Go.Proofs.Ytihpmaifcebpiaa
